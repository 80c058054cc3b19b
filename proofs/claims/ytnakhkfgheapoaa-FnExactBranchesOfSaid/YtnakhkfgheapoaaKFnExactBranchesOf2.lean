/- Texts of a proof, joined. -/
import Derived.Test.YtnakhkfgheapoaaKM0
import Derived.Test.YtnakhkfgheapoaaKM1
import Derived.Test.YtnakhkfgheapoaaKFnExactBranchesOf0
import Derived.Test.YtnakhkfgheapoaaKFnExactBranchesOf1
/-! Branches of a multicast. -/
set_option linter.all false
namespace Go.Proofs.Ytnakhkfgheapoaa.V
open Go Go.VM Go.Proofs
set_option maxRecDepth 10000
variable {frz : Nat} {H : Heap}
/-- all channels that single packets take -/
def allW (w h : Int) (b T : List Int) (a : Int) (ts : List Int) : List Int := (ts.map fun x => walk w h b T a x).flatten
theorem allW_succ {w h : Int} {b T : List Int} {a : Int} {ts : List Int} {i : Nat} (hi : i < ts.length) : allW w h b T a (ts.take (i + 1)) = allW w h b T a (ts.take i) ++ walk w h b T a ts[i] := by
  unfold allW
  rw [List.take_succ_eq_append_getElem hi, List.map_append, List.flatten_append]; simp
theorem allW_len (w h : Int) (b T : List Int) (a : Int) (ts : List Int) : (allW w h b T a ts).length = cost w h b T a ts := by
  unfold allW cost
  rw [List.length_flatten, List.map_map]; rfl
def branches (w h : Int) (b T : List Int) (a : Int) (ts : List Int) : List Int := if castOk w h b T a ts then compact (isort (allW w h b T a ts)) else []
theorem branches_w (w h : Int) (v u s : Value) (b T ts : List Int) (a : Int) (hI : IsI H v b) (hT : IsI H u T) (hS : IsI H s ts) (hl : b.length ≤ 1073741824) (hs : ts.length ≤ 67108864) :
   wp (vcall C frz 63 [.agg #[.int .i64 w, .int .i64 h, v], .agg #[u], .int .i64 a, s] H) (fun r H' => Ow Fl.int 3 H' r (branches w h b T a ts) ∧ (∀ i ∈ ids r, H.length ≤ i) ∧ Chg H H' []) := by
  rw [vcall_go (fn := Try.f63) Try.func63 rfl (by kernel_rfl) rfl]
  have hs' : ts.length ≤ 1073741824 := by omega
  have one := And.intro hI.one' (And.intro hI.cells (And.intro hT.one' hT.cells))
  simp [one, canCast_c _ _ _ _ _ _ _ _ _ (hI.app _) (hT.app _) (hS.app _) hl hs']
  refine wp_dec ?_ ?_ <;> intro h1
  · simp [hS.lenA]
    refine wp_inv (fun n t H' => ∃ (i : Nat) (r : Value), n = ts.length - i ∧ i ≤ ts.length ∧ t 2 = .int .i64 a ∧ t 4 = .pointer (some ⟨H.length, 0, some 0⟩) ∧ t 5 = .pointer (some ⟨H.length + 1, 0, some 0⟩) ∧ t 9 = r ∧ t 20 = s ∧ t 21 = .int .i64 ts.length ∧ t 22 = .int .i64 i ∧
        H'[H.length]? = some ⟨[.int .i64 w, .int .i64 h, v], 0, 33⟩ ∧ H'[H.length + 1]? = some ⟨[u], 0, 48⟩ ∧ Ow Fl.int 3 H' r (allW w h b T a (ts.take i)) ∧ (∀ j ∈ ids r, H.length + 2 ≤ j) ∧ Chg H H' []) ?_ (n := ts.length)
      ⟨0, .slice (some ⟨H.length + 2, 0, some 0⟩) 0 0, rfl, by omega, by simp, by simp, by simp, by simp, by simp, by simp, by simp, by simp, by simp, by
        have : allW w h b T a (ts.take 0) = [] := by simp [allW]
        rw [this]; exact Ow.new (D := Fl.int) (e := 3) (xs := []) (H := H) (k := 2) (by simp) rfl rfl rfl, by simp, Chg.app _⟩
    rintro n t H' ⟨i, r, rfl, hi, t2, t4, t5, t9, t20, t21, t22, b0, b1, o, nr, ch⟩ ih
    have hI1 := ((hI.rd).chg ch (by simp)).isI
    have hT1 := ((hT.rd).chg ch (by simp)).isI
    have hS1 := ((hS.rd).chg ch (by simp)).isI
    have hcl := cost_le w h b T a (ts.take i)
    have htl : (ts.take i).length = i := by simp; omega
    simp [t2, t4, t5, t9, t20, t21, t22]
    refine wp_dec ?_ ?_ <;> intro g1
    · have hx : isN w h ts[i] := h1.2.2 _ (List.getElem_mem g1)
      have hwl := walk_len w h b T a ts[i]
      have q1 := hS1.idx (P := Try.prog) (ty := 22) (e := 3) (by simp) (i := (i : Int)) (by omega) (by omega)
      have r1 := (hS1.load (P := Try.prog) (e := 3) (by simp) g1).trans (by rw [getD_get _ _ g1])
      simp only [Int.toNat_natCast] at q1
      simp [t2, t4, t5, t9, t20, t21, t22, q1, r1, VM.look, b0, b1, one]
      refine wp_thn (made_ret (walkT_c w h v u b T a ts[i] hI1 hT1 hl h1.1 h1.2.1 hx)) ?_
      rintro vw _ ⟨L, rfl, ow, nw⟩
      obtain ⟨r', H3, hap, o3, c3, n3⟩ := (o.app (L := L)).append (P := Try.prog) (frz := H.length) (ty := 22) ow.rd (by simp) (ones_ints _) (by rw [allW_len]; omega) (fun j hj => by have := nr j hj; omega)
      have l0 := ch.1
      have k1 := box_lt b1
      simp [t2, t4, t5, t9, t20, t21, t22, hap]
      refine ih (ts.length - (i + 1)) _ _ ⟨i + 1, r', rfl, by omega, by simp [t2], by simp [t4], by simp [t5], by simp, by simp [t20], by simp [t21], ?_, box_chg (get_app' b0 _) c3 (fun hh => by have := nr _ hh; omega), box_chg (get_app' b1 _) c3 (fun hh => by have := nr _ hh; omega), by rw [allW_succ g1]; exact o3, fun j hj => ?_, (ch.trans (Chg.app [])).trans' c3 (fun j hj => .inr (by have := nr j hj; omega))⟩ (by omega)
      · simp; rw [w64 (by omega) (by omega)]
      · rcases n3 j hj with h2 | h2
        · exact nr j h2
        · simp at h2; omega
    · have him : i = ts.length := by omega
      rw [him, List.take_length] at o
      simp [t9]
      have l0 := ch.1
      refine wp_thn (sort_w r _ _ o (by rw [allW_len]; have := cost_le w h b T a ts; omega) (fun j hj => by have := nr j hj; omega) l0) ?_
      rintro _ H3 ⟨o3, c3⟩
      simp [t9]
      refine wp_thn (compact_w r _ o3 (by rw [isort_len, allW_len]; have := cost_le w h b T a ts; omega) (fun j hj => by have := nr j hj; omega)) ?_
      rintro r2 H4 ⟨o4, n4, c4⟩
      simp
      refine ⟨by unfold branches; rw [if_pos h1]; exact o4, fun j hj => by have := nr j (n4 j hj); omega, (ch.trans' c3 (fun j hj => .inr (by have := nr j hj; omega))).trans' c4 (fun j hj => .inr (by have := nr j hj; omega))⟩
  · simp
    refine ⟨?_, Chg.app _⟩
    unfold branches; rw [if_neg h1]
    exact Ow.new (D := Fl.int) (e := 3) (xs := []) (H := H) (k := 2) (by simp) rfl rfl rfl
theorem multicast_w (w h : Int) (v u s : Value) (b T ts : List Int) (a : Int) (hI : IsI H v b) (hT : IsI H u T) (hS : IsI H s ts) (hl : b.length ≤ 1073741824) (hs : ts.length ≤ 67108864) :
   vcall C frz 61 [.agg #[.int .i64 w, .int .i64 h, v], .agg #[u], .int .i64 a, s] H = some (.int .i64 (if castOk w h b T a ts then (branches w h b T a ts).length else -1), H) := by
  refine wp.exact (by simp) ?_ rfl
  rw [vcall_go (fn := Try.f61) Try.func61 rfl (by kernel_rfl) rfl]
  have hs' : ts.length ≤ 1073741824 := by omega
  have one := And.intro hI.one' (And.intro hI.cells (And.intro hT.one' hT.cells))
  simp [one, canCast_c _ _ _ _ _ _ _ _ _ (hI.app _) (hT.app _) (hS.app _) hl hs']
  refine wp_dec ?_ ?_ <;> intro h1
  · simp [one]
    refine wp_thn (branches_w w h v u s b T ts a (hI.app _) (hT.app _) (hS.app _) hl hs) ?_
    rintro r H1 ⟨o, _, _⟩
    simp [o.rd.len, h1]
  · simp [h1]
theorem walkN_mem (w h : Int) (b T : List Int) (to : Int) : ∀ f a out, isN w h a → (∀ x ∈ out, 0 ≤ x ∧ x < 64) → ∀ x ∈ walkN w h b T to f a out, 0 ≤ x ∧ x < 64 := by
  intro f
  induction f with
  | zero =>
    intro a out ha ho x hx
    simp only [walkN] at hx
    split at hx
    · split at hx
      · exact ho x hx
      · simp at hx
    · simp at hx
  | succ f ih =>
    intro a out ha ho x hx
    simp only [walkN] at hx
    split at hx
    · split at hx
      · exact ho x hx
      · simp at hx
    · split at hx
      · rename_i hs
        have hc := cnt_range w h
        obtain ⟨⟨p0, p3⟩, ⟨⟨c0, c1⟩, nx⟩, _⟩ := hs
        have e1 : (4 * a + portOf w h T a to) / 4 = a := by omega
        have e2 : (4 * a + portOf w h T a to) % 4 = portOf w h T a to := by omega
        rw [e1, e2] at nx
        refine ih _ _ (next_isN nx) (fun y hy => ?_) x hx
        rcases List.mem_append.1 hy with hy | hy
        · exact ho y hy
        · rw [List.mem_singleton.1 hy]; omega
      · simp at hx
theorem walk_mem {w h : Int} {b T : List Int} {a to x : Int} (ha : isN w h a) (hx : x ∈ walk w h b T a to) : 0 ≤ x ∧ x < 64 := walkN_mem w h b T to _ a [] ha (by simp) x hx
/-- the marked places -/
def marked (m : List Bool) : Nat → List Int
  | 0 => []
  | i + 1 => if m.getD i false = true then marked m i ++ [(i : Int)] else marked m i
theorem marked_len (m : List Bool) : ∀ i, (marked m i).length ≤ i
  | 0 => Nat.le_refl _
  | i + 1 => by have := marked_len m i; unfold marked; split <;> simp <;> omega
theorem marked_spec (m : List Bool) : ∀ i, (marked m i).Pairwise (· < ·) ∧ ∀ x, x ∈ marked m i ↔ ∃ j : Nat, j < i ∧ x = (j : Int) ∧ m.getD j false = true
  | 0 => by simp [marked]
  | i + 1 => by
    obtain ⟨h1, h2⟩ := marked_spec m i
    unfold marked
    by_cases hm : m.getD i false = true
    · rw [if_pos hm]
      refine ⟨?_, fun x => ?_⟩
      · rw [List.pairwise_append]
        refine ⟨h1, by simp, fun x hx y hy => ?_⟩
        obtain ⟨j, hj, rfl, _⟩ := (h2 x).1 hx
        rw [List.mem_singleton.1 hy]; omega
      · rw [List.mem_append, h2, List.mem_singleton]
        constructor
        · rintro (⟨j, hj, hx, hmj⟩ | hx)
          · exact ⟨j, by omega, hx, hmj⟩
          · exact ⟨i, by omega, hx, hm⟩
        · rintro ⟨j, hj, hx, hmj⟩
          by_cases hji : j = i
          · subst hji; exact .inr hx
          · exact .inl ⟨j, by omega, hx, hmj⟩
    · rw [if_neg hm]
      refine ⟨h1, fun x => ?_⟩
      rw [h2]
      constructor
      · rintro ⟨j, hj, hx, hmj⟩; exact ⟨j, by omega, hx, hmj⟩
      · rintro ⟨j, hj, hx, hmj⟩
        by_cases hji : j = i
        · subst hji; exact absurd hmj hm
        · exact ⟨j, by omega, hx, hmj⟩
theorem l07Mark_w (v : Value) (m : List Bool) (e : TypeId) (hO : Ow Fl.bool e H v m) (hl : m.length ≤ 1073741824) :
   wp (vcall C frz 112 [v] H) (fun r H' => Ow Fl.int 3 H' r (marked m m.length) ∧ (∀ i ∈ ids r, H.length ≤ i) ∧ Chg H H' []) := by
  rw [vcall_go (fn := Try.f112) Try.func112 rfl (by kernel_rfl) rfl]
  simp
  refine wp_inv (fun n t H' => ∃ (i : Nat) (r : Value), n = m.length - i ∧ i ≤ m.length ∧ t 0 = v ∧ t 3 = r ∧ t 4 = .int .i64 i ∧ Ow Fl.int 3 H' r (marked m i) ∧ (∀ j ∈ ids r, H.length ≤ j) ∧ Chg H H' []) ?_ (n := m.length)
    ⟨0, .slice (some ⟨H.length, 0, some 0⟩) 0 0, rfl, by omega, by simp, by simp, by simp, Ow.new0 (D := Fl.int) (e := 3) (xs := []) (H := H) rfl rfl rfl rfl, by simp, Chg.app _⟩
  rintro n t H' ⟨i, r, rfl, hi, t0, t3, t4, o, nr, ch⟩ ih
  have hO1 := hO.rd.chg ch (by simp)
  simp [t0, t3, t4, hO1.len]
  refine wp_dec ?_ ?_ <;> intro g1
  · have q1 := hO1.idx (P := Try.prog) (ty := 98) (e := 4) (by simp) (i := (i : Int)) (by omega) (by omega)
    have r1 := hO1.cell1 (P := Try.prog) (e := 4) rfl (by simp) g1
    simp at q1 r1
    have hg : m.getD i false = m[i] := by simp [List.getD_eq_getElem?_getD, g1]
    simp [t0, t3, t4, q1, r1]
    refine wp_bool ?_ ?_ <;> intro g2
    · obtain ⟨r', H2, hap, o2, c2, n2⟩ := o.push (P := Try.prog) (frz := H.length) (ty := 22) (a := (i : Int)) (by simp) rfl (by have := marked_len m i; omega) nr
      simp only [Fl.int_f] at hap
      have l0 := ch.1
      simp [t0, t3, t4, hap]
      refine ih (m.length - (i + 1)) _ _ ⟨i + 1, r', rfl, by omega, by simp [t0], by simp, ?_, ?_, fun j hj => ?_, ch.trans' c2 (fun j hj => .inr (nr j hj))⟩ (by omega)
      · simp; rw [w64 (by omega) (by omega)]
      · unfold marked; rw [if_pos (by rw [hg]; exact g2)]; exact o2
      · rcases n2 j hj with h1 | h1
        · exact nr j h1
        · omega
    · simp [t0, t3, t4]
      refine ih (m.length - (i + 1)) _ _ ⟨i + 1, r, rfl, by omega, by simp [t0], by simp [t3], ?_, ?_, nr, ch⟩ (by omega)
      · simp; rw [w64 (by omega) (by omega)]
      · unfold marked; rw [if_neg (by rw [hg, g2]; simp)]; exact o
  · have him : i = m.length := by omega
    simp [t3]
    rw [him] at o
    exact ⟨o, nr, ch⟩
theorem marked_branches {w h : Int} {b T : List Int} {a : Int} {ts : List Int} {m : List Bool} (hok : castOk w h b T a ts) (hm : m.length = 64) (hs : ∀ j : Nat, j < 64 → (m.getD j false = true ↔ (j : Int) ∈ allW w h b T a ts)) : marked m m.length = branches w h b T a ts := by
  unfold branches; rw [if_pos hok]
  obtain ⟨h1, h2⟩ := marked_spec m m.length
  obtain ⟨h3, h4⟩ := compact_sorted (isort_sorted (allW w h b T a ts))
  refine asc_ext h1 h3 (fun x => ?_)
  rw [h2, h4, (isort_perm _).mem_iff]
  constructor
  · rintro ⟨j, hj, rfl, hmj⟩; exact (hs j (by omega)).1 hmj
  · intro hx
    have hb : 0 ≤ x ∧ x < 64 := by
      unfold allW at hx
      obtain ⟨l, hl, hxl⟩ := List.mem_flatten.1 hx
      obtain ⟨y, _, rfl⟩ := List.mem_map.1 hl
      exact walk_mem hok.2.1 hxl
    obtain ⟨j, rfl⟩ := Int.eq_ofNat_of_zero_le hb.1
    exact ⟨j, by omega, rfl, (hs j (by omega)).2 hx⟩
theorem sBranches_w (w h : Int) (v u s : Value) (b T ts : List Int) (a : Int) (hI : IsI H v b) (hT : IsI H u T) (hS : IsI H s ts) (hl : b.length ≤ 1073741824) (hs : ts.length ≤ 67108864) :
   wp (vcall C frz 62 [.agg #[.int .i64 w, .int .i64 h, v], .agg #[u], .int .i64 a, s] H) (fun r H' => Ow Fl.int 3 H' r (branches w h b T a ts) ∧ (∀ i ∈ ids r, H.length ≤ i) ∧ Chg H H' []) := by
  rw [vcall_go (fn := Try.f62) Try.func62 rfl (by kernel_rfl) rfl]
  have hs' : ts.length ≤ 1073741824 := by omega
  have one := And.intro hI.one' (And.intro hI.cells (And.intro hT.one' hT.cells))
  simp [one, l35Ok_c _ _ _ _ _ _ _ _ _ (hI.app _) (hT.app _) (hS.app _) hl hs']
  refine wp_dec ?_ ?_ <;> intro h1
  · simp [one]
    obtain ⟨V9, hV9⟩ : ∃ V9, V9 = Value.slice (some ⟨H.length + 2, 0, some 0⟩) 64 0 := ⟨_, rfl⟩
    have id9 : ids V9 = [H.length + 2] := by rw [hV9]; rfl
    refine wp_inv (fun n t H' => ∃ (i : Nat) (m : List Bool), n = ts.length - i ∧ i ≤ ts.length ∧ t 2 = .int .i64 a ∧ t 3 = s ∧ t 4 = .pointer (some ⟨H.length, 0, some 0⟩) ∧ t 5 = .pointer (some ⟨H.length + 1, 0, some 0⟩) ∧ t 9 = V9 ∧ t 10 = .int .i64 i ∧
        H'[H.length]? = some ⟨[.int .i64 w, .int .i64 h, v], 0, 33⟩ ∧ H'[H.length + 1]? = some ⟨[u], 0, 48⟩ ∧ Ow Fl.bool 4 H' V9 m ∧ m.length = 64 ∧ (∀ j : Nat, j < 64 → (m.getD j false = true ↔ (j : Int) ∈ allW w h b T a (ts.take i))) ∧ Chg H H' []) ?_ (n := ts.length)
      ⟨0, List.replicate 64 false, rfl, by omega, by simp, by simp, by simp, by simp, by simp [hV9], by simp, by simp, by simp, by
        rw [hV9]; exact Ow.new (D := Fl.bool) (e := 4) (xs := List.replicate 64 false) (H := H) (k := 2) rfl rfl rfl rfl, by rw [List.length_replicate], fun j hj => by
          have e : (List.replicate 64 false).getD j false = false := by rw [List.getD_eq_getElem?_getD, List.getElem?_replicate, if_pos hj]; rfl
          rw [e]; simp [allW], Chg.app _⟩
    rintro n t H' ⟨i, m, rfl, hi, t2, t3, t4, t5, t9, t10, b0, b1, o, hm, hmk, ch⟩ ih
    have hI1 := ((hI.rd).chg ch (by simp)).isI
    have hT1 := ((hT.rd).chg ch (by simp)).isI
    have hS1 := ((hS.rd).chg ch (by simp)).isI
    have hSl := hS1.len (P := Try.prog) (ty := 22) (by simp)
    simp [t2, t3, t4, t5, t9, t10, hSl]
    refine wp_dec ?_ ?_ <;> intro g1
    · have hx : isN w h ts[i] := h1.2.2 _ (List.getElem_mem g1)
      have q1 := hS1.idx (P := Try.prog) (ty := 22) (e := 3) (by simp) (i := (i : Int)) (by omega) (by omega)
      have r1 := (hS1.load (P := Try.prog) (e := 3) (by simp) g1).trans (by rw [getD_get _ _ g1])
      simp only [Int.toNat_natCast] at q1
      simp [t2, t3, t4, t5, t9, t10]
      rw [go_draw (h := by kernel_rfl)]
      simp [t2, t3, t4, t5, t9, t10, q1, r1, VM.look, b0, b1, one]
      refine wp_thn (made_row (sWalk_c w h v u b T a ts[i] hI1 hT1 hl h1.1.1 h1.2.1 hx)) ?_
      rintro vw _ ⟨L, rfl, ow, nw⟩
      have hwl := walk_len w h b T a ts[i]
      have hwm := fun x (hx : x ∈ walk w h b T a ts[i]) => walk_mem h1.2.1 hx
      have hsucc := allW_succ (w := w) (h := h) (b := b) (T := T) (a := a) g1
      generalize walk w h b T a ts[i] = W at *
      have k1 := box_lt b1
      have l0 := ch.1
      simp [t2, t3, t4, t5, t9, t10]
      refine wp_inv (fun n t H'' => ∃ (k : Nat) (m' : List Bool), n = W.length - k ∧ k ≤ W.length ∧ t 2 = .int .i64 a ∧ t 3 = s ∧ t 4 = .pointer (some ⟨H.length, 0, some 0⟩) ∧ t 5 = .pointer (some ⟨H.length + 1, 0, some 0⟩) ∧ t 9 = V9 ∧ t 10 = .int .i64 i ∧ t 11 = vw ∧ t 12 = .int .i64 k ∧
          Chg (H' ++ L) H'' [H.length + 2] ∧ Ow Fl.bool 4 H'' V9 m' ∧ m'.length = 64 ∧ (∀ j : Nat, j < 64 → (m'.getD j false = true ↔ (j : Int) ∈ allW w h b T a (ts.take i) ∨ (j : Int) ∈ W.take k))) ?_ (n := W.length)
        ⟨0, m, rfl, by omega, by simp [t2], by simp [t3], by simp [t4], by simp [t5], by simp [t9], by simp [t10], by simp, by simp, Chg.refl _, o.app, hm, fun j hj => by rw [hmk j hj]; simp⟩
      clear t2 t3 t4 t5 t9 t10
      rintro n t H'' ⟨k, m', rfl, hk, t2, t3, t4, t5, t9, t10, t11, t12, ch2, o2, hm', hmk'⟩ ih2
      have hltV : H.length + 2 < (H' ++ L).length := by have := o.lt (H.length + 2) (by rw [id9]; simp); simp; omega
      have nvw : H.length + 2 ∉ ids vw := fun hh => by have := nw _ hh; have := o.lt (H.length + 2) (by rw [id9]; simp); omega
      have ow2 := ow.chg ch2 (fun j hj hh => by have := List.mem_singleton.1 hh; subst this; exact nvw hj)
      simp [t2, t3, t4, t5, t9, t10, t11, t12, ow2.rd.len]
      refine wp_dec ?_ ?_ <;> intro g2
      · have hc := hwm W[k] (List.getElem_mem g2)
        obtain ⟨c, hcc⟩ := Int.eq_ofNat_of_zero_le hc.1
        have hc64 : c < m'.length := by omega
        have q2 := ow_ix ow2 g2
        have r2 := (ow_ld ow2 g2).trans (by rw [G_get g2, hcc])
        have q3 := o2.rd.idx (P := Try.prog) (ty := 98) (e := 4) (by simp) (i := (c : Int)) (by omega) (by omega)
        simp at q3
        obtain ⟨H3, s3, o3, c3, l3⟩ := o2.put1 (P := Try.prog) (frz := H.length) rfl (et := 4) (ag := false) (by simp) hc64 (x := .bool true) (y := true) rfl rfl rfl (fun j hj => by rw [id9] at hj; have := List.mem_singleton.1 hj; omega)
        rw [id9] at c3
        simp [t2, t3, t4, t5, t9, t10, t11, t12, q2, r2, q3, s3]
        refine ih2 (W.length - (k + 1)) _ _ ⟨k + 1, m'.set c true, rfl, by omega, by simp [t2], by simp [t3], by simp [t4], by simp [t5], by simp [t9], by simp [t10], by simp [t11], ?_, ch2.trans c3, o3, by simpa using hm', fun j hj => ?_⟩ (by omega)
        · simp; rw [w64 (by omega) (by omega)]
        · rw [List.take_succ_eq_append_getElem g2, hcc]
          by_cases hjc : j = c
          · subst hjc
            simp [List.getD_eq_getElem?_getD, hc64]
          · have : (m'.set c true).getD j false = m'.getD j false := by simp [List.getD_eq_getElem?_getD, List.getElem?_set_ne (Ne.symm hjc)]
            have hjc' : ¬ (j : Int) = (c : Int) := by omega
            rw [this, hmk' j hj]
            simp [hjc']
      · have hkl : k = W.length := by omega
        have b0' : H''[H.length]? = some ⟨[.int .i64 w, .int .i64 h, v], 0, 33⟩ := box_chg (get_app' b0 _) ch2 (by simp)
        have b1' : H''[H.length + 1]? = some ⟨[u], 0, 48⟩ := box_chg (get_app' b1 _) ch2 (by simp)
        simp [t2, t3, t4, t5, t9, t10, t11, t12]
        refine ih (ts.length - (i + 1)) _ _ ⟨i + 1, m', rfl, by omega, by simp [t2], by simp [t3], by simp [t4], by simp [t5], by simp [t9], ?_, b0', b1', o2, hm', fun j hj => ?_, (ch.trans (Chg.app [])).trans' ch2 (fun j hj => .inr (by have := List.mem_singleton.1 hj; omega))⟩ (by omega)
        · simp; rw [w64 (by omega) (by omega)]
        · rw [hmk' j hj, hsucc, hkl, List.take_length, List.mem_append]
    · have him : i = ts.length := by omega
      rw [him, List.take_length] at hmk
      simp [t9]
      refine wp_thn (l07Mark_w V9 m _ o (by omega)) ?_
      rintro r H3 ⟨o3, n3, c3⟩
      have l0 := ch.1
      simp
      exact ⟨by rw [← marked_branches h1 hm hmk]; exact o3, fun j hj => by have := n3 j hj; omega, ch.trans c3⟩
  · simp
    refine ⟨?_, Chg.app _⟩
    unfold branches; rw [if_neg h1]
    exact Ow.new (D := Fl.int) (e := 3) (xs := []) (H := H) (k := 3) (by simp) rfl rfl rfl
end Go.Proofs.Ytnakhkfgheapoaa.V
/-! Multicasts: contracts on data. -/
set_option linter.all false
namespace Go.Proofs.Ytnakhkfgheapoaa.V
open Go Go.VM Go.Proofs
set_option maxRecDepth 10000
variable {frz : Nat} {H : Heap}
theorem branches_len (w h : Int) (b T : List Int) (a : Int) (ts : List Int) : (branches w h b T a ts).length ≤ 16 * ts.length := by
  unfold branches
  split
  · have h1 := dk_len (isort (allW w h b T a ts)) (isort (allW w h b T a ts)).length
    rw [isort_len, allW_len] at h1
    have := cost_le w h b T a ts
    unfold compact; rw [isort_len, allW_len]; omega
  · simp
variable {v u s : Value} {w h a : Int} {b T ts : List Int}
theorem branches_d (o1 : dMesh.Ow H v (w, h, b)) (o2 : dTable.Ow H u T) (o3 : dIntS.Ow H s ts) (hs : ts.length ≤ 67108864) :
    wp (vcall C frz 63 [dMesh.val v (w, h, b), dTable.val u T, .int .i64 a, dIntS.val s ts] H) (dIntS.Made H (branches w h b T a ts)) :=
  (branches_w w h v u s b T ts a o1.1.rd.isI o2.1.rd.isI o3.1.rd.isI o1.2 hs).mono fun r H' k => ⟨r, rfl, ⟨k.1, by have := branches_len w h b T a ts; omega⟩, k.2.2, k.2.1, ids_nodup r⟩
theorem sBranches_d (o1 : dMesh.Ow H v (w, h, b)) (o2 : dTable.Ow H u T) (o3 : dIntS.Ow H s ts) (hs : ts.length ≤ 67108864) :
    wp (vcall C frz 62 [dMesh.val v (w, h, b), dTable.val u T, .int .i64 a, dIntS.val s ts] H) (dIntS.Made H (branches w h b T a ts)) :=
  (sBranches_w w h v u s b T ts a o1.1.rd.isI o2.1.rd.isI o3.1.rd.isI o1.2 hs).mono fun r H' k => ⟨r, rfl, ⟨k.1, by have := branches_len w h b T a ts; omega⟩, k.2.2, k.2.1, ids_nodup r⟩
theorem multicast_d (o1 : dMesh.Ow H v (w, h, b)) (o2 : dTable.Ow H u T) (o3 : dIntS.Ow H s ts) (hs : ts.length ≤ 67108864) :
    vcall C frz 61 [dMesh.val v (w, h, b), dTable.val u T, .int .i64 a, dIntS.val s ts] H = some (.int .i64 (if castOk w h b T a ts then (branches w h b T a ts).length else -1), H) :=
  multicast_w w h v u s b T ts a o1.1.rd.isI o2.1.rd.isI o3.1.rd.isI o1.2 hs
theorem sMulticast_d (o1 : dMesh.Ow H v (w, h, b)) (o2 : dTable.Ow H u T) (o3 : dIntS.Ow H s ts) (hs : ts.length ≤ 67108864) :
    vcall C frz 59 [dMesh.val v (w, h, b), dTable.val u T, .int .i64 a, dIntS.val s ts] H = some (.int .i64 (if castOk w h b T a ts then (branches w h b T a ts).length else -1), H) := by
  have hI := o1.1.rd.isI
  have hT := o2.1.rd.isI
  have hS := o3.1.rd.isI
  have hl : b.length ≤ 1073741824 := o1.2
  show vcall C frz 59 [.agg #[.int .i64 w, .int .i64 h, v], .agg #[u], .int .i64 a, s] H = _
  refine wp.exact (by simp) ?_ rfl
  rw [vcall_go (fn := Try.f59) Try.func59 rfl (by kernel_rfl) rfl]
  have hs' : ts.length ≤ 1073741824 := by omega
  have one := And.intro hI.one' (And.intro hI.cells (And.intro hT.one' hT.cells))
  simp [one, l35Ok_c _ _ _ _ _ _ _ _ _ (hI.app _) (hT.app _) (hS.app _) hl hs']
  refine wp_dec ?_ ?_ <;> intro h1
  · simp [one]
    refine wp_thn (sBranches_w w h v u s b T ts a (hI.app _) (hT.app _) (hS.app _) hl hs) ?_
    rintro r H1 ⟨o, _, _⟩
    simp [o.rd.len, h1]
  · simp [h1]
end Go.Proofs.Ytnakhkfgheapoaa.V
/-! The law FnExactBranchesOf. -/
set_option linter.all false
namespace Go.Proofs.Ytnakhkfgheapoaa.V
open Go Go.VM Go.Proofs
set_option maxRecDepth 10000
variable {frz : Nat} {H : Heap}
theorem law_FnExactBranchesOf_w {a0_0 : Int} {a0_1 : Int} {a0_2 : List (Int)} {u0_2 : Value} {a1_0 : List (Int)} {u1_0 : Value} {a2 : Int} {a3 : List (Int)} {u3 : Value} (s0_2 : IsS (Kn.int .i64) H u0_2 a0_2) (s1_0 : IsS (Kn.int .i64) H u1_0 a1_0) (s3 : IsS (Kn.int .i64) H u3 a3)
    (w0 : (((Lit.int .i64 a0_0).wf = true) ∧ ((Lit.int .i64 a0_1).wf = true)) ∧ (a0_2.length ≤ maxLen ∧ ∀ x1 ∈ a0_2, (Lit.int .i64 x1).wf = true)) (w1 : (a1_0.length ≤ maxLen ∧ ∀ x2 ∈ a1_0, (Lit.int .i64 x2).wf = true)) (w2 : (Lit.int .i64 a2).wf = true) (w3 : a3.length ≤ maxLen ∧ ∀ x3 ∈ a3, (Lit.int .i64 x3).wf = true) :
    wp (vcall C frz 13 [.agg #[.int .i64 a0_0, .int .i64 a0_1, u0_2], .agg #[u1_0], .int .i64 a2, u3] H) (fun r _ => r = .bool true) := by
  have r0_2 := s0_2.ints.rd
  have r1_0 := s1_0.ints.rd
  have r3 := s3.ints.rd
  have rl0_2 := fun (L : Heap) => (Rd.app (L := L) r0_2).len (P := Try.prog) (ty := 22) (by simp)
  have rm0_2 := r0_2.len (P := Try.prog) (ty := 22) (by simp)
  have rl1_0 := fun (L : Heap) => (Rd.app (L := L) r1_0).len (P := Try.prog) (ty := 22) (by simp)
  have rm1_0 := r1_0.len (P := Try.prog) (ty := 22) (by simp)
  have rl3 := fun (L : Heap) => (Rd.app (L := L) r3).len (P := Try.prog) (ty := 22) (by simp)
  have rm3 := r3.len (P := Try.prog) (ty := 22) (by simp)
  rw [vcall_go (fn := Try.f13) Try.func13 rfl (by kernel_rfl) rfl]
  have ro0_2 := And.intro r0_2.one' r0_2.cells
  have ro1_0 := And.intro r1_0.one' r1_0.cells
  have ro3 := And.intro r3.one' r3.cells
  simp [VM.look, ro0_2, rl0_2, rm0_2, ro1_0, rl1_0, rm1_0, ro3, rl3, rm3]
  refine wp_dec ?_ ?_ <;> intro g1 <;> simp [g1]
  try simp [VM.look, ro0_2, rl0_2, rm0_2, ro1_0, rl1_0, rm1_0, ro3, rl3, rm3]
  have sz0 := fun F (L : Heap) => szMesh_c (frz := F) (H := H ++ L) a0_0 a0_1 u0_2 a0_2 1048576 (Rd.isI (Rd.chg r0_2 ((Chg.refl (H := H) []).trans (Chg.app [])) (by simp))) (by omega) (by omega) w0.2.1
  simp [VM.look, ro0_2, rl0_2, rm0_2, ro1_0, rl1_0, rm1_0, ro3, rl3, rm3, sz0]
  refine wp_dec ?_ ?_ <;> intro g2 <;> simp [g2]
  have t0 : (a0_2.length : Int) ≤ 1048576 := by split at g2 <;> omega
  have f0 : ¬ (1048576 : Int) < (a0_2.length : Int) := by omega
  simp only [if_neg f0]
  try simp [VM.look, ro0_2, rl0_2, rm0_2, ro1_0, rl1_0, rm1_0, ro3, rl3, rm3, f0]
  have sz1 := fun F (L : Heap) => szTable_c (frz := F) (H := H ++ L) u1_0 a1_0 (1048576 - (a0_2.length : Int)) (Rd.isI (Rd.chg r1_0 ((Chg.refl (H := H) []).trans (Chg.app [])) (by simp))) (by omega) (by omega) w1.1
  simp [VM.look, ro0_2, rl0_2, rm0_2, ro1_0, rl1_0, rm1_0, ro3, rl3, rm3, sz1, f0]
  refine wp_dec ?_ ?_ <;> intro g3 <;> simp [g3]
  have t1 : (a1_0.length : Int) ≤ (1048576 - (a0_2.length : Int)) := by split at g3 <;> omega
  have f1 : ¬ ((1048576 - (a0_2.length : Int)) : Int) < (a1_0.length : Int) := by omega
  simp only [if_neg f1]
  try simp [VM.look, ro0_2, rl0_2, rm0_2, ro1_0, rl1_0, rm1_0, ro3, rl3, rm3, f0, f1]
  rw [go_draw (h := by kernel_rfl)]
  simp [VM.look, ro0_2, rl0_2, rm0_2, ro1_0, rl1_0, rm1_0, ro3, rl3, rm3, f0, f1]
  refine wp_thn (toMesh_w a0_0 a0_1 u0_2 a0_2 (Rd.isI (Rd.chg r0_2 ((Chg.refl (H := H) []).trans (Chg.app [])) (by simp))) (by omega)) ?_
  rintro _ H1 ⟨v_x0, rfl, o_x0, c1, n_x0, d_x0⟩
  have l1 := c1.1
  try simp at l1
  have b1_4 := box_chg ((app_get0 _ _).trans rfl) c1 (by simp)
  have b1_5 := box_chg ((app_get _ _ 1).trans rfl) c1 (by simp)
  have cH1 : Chg H H1 [] := ((Chg.refl (H := H) []).trans (Chg.app [])).trans c1
  have h_x0 := dMesh.lt o_x0
  try simp at n_x0
  have one_x0 := dMesh_one o_x0
  simp [VM.look, b1_4, b1_5, get_app' b1_4, get_app' b1_5, cH1.1, Nat.le_add_right_of_le cH1.1, one_x0, ro0_2, ro1_0, ro3, dMesh_val, f0, f1]
  refine wp_thn (toTable_w u1_0 a1_0 (Rd.isI (Rd.chg r1_0 cH1 (by simp))) (by omega)) ?_
  rintro _ H2 ⟨v_x1, rfl, o_x1, c2, n_x1, d_x1⟩
  have l2 := c2.1
  try simp at l2
  have b2_4 := box_chg b1_4 c2 (by simp)
  have b2_5 := box_chg b1_5 c2 (by simp)
  have o2_x0 := Dt.chg0 o_x0 c2
  have cH2 : Chg H H2 [] := (cH1).trans c2
  have h_x1 := dTable.lt o_x1
  try simp at n_x1
  have one_x1 := dTable_one o_x1
  simp [VM.look, b2_4, b2_5, get_app' b2_4, get_app' b2_5, cH2.1, Nat.le_add_right_of_le cH2.1, one_x0, one_x1, ro0_2, ro1_0, ro3, dMesh_val, dTable_val, f0, f1]
  refine wp_thn (toIntS_w u3 a3 (Rd.isI (Rd.chg r3 cH2 (by simp))) (by omega)) ?_
  rintro _ H3 ⟨v_x2, rfl, o_x2, c3, n_x2, d_x2⟩
  have l3 := c3.1
  try simp at l3
  have b3_4 := box_chg b2_4 c3 (by simp)
  have b3_5 := box_chg b2_5 c3 (by simp)
  have o3_x0 := Dt.chg0 o2_x0 c3
  have o3_x1 := Dt.chg0 o_x1 c3
  have cH3 : Chg H H3 [] := (cH2).trans c3
  have h_x2 := dIntS.lt o_x2
  try simp at n_x2
  have one_x2 := dIntS_one o_x2
  simp [VM.look, b3_4, b3_5, get_app' b3_4, get_app' b3_5, cH3.1, Nat.le_add_right_of_le cH3.1, one_x0, one_x1, one_x2, ro0_2, ro1_0, ro3, dMesh_val, dTable_val, dIntS_val, f0, f1]
  have ex4 := sBranches_d (frz := H.length) (a := a2) o3_x0 o3_x1 o_x2 (by omega)
  try simp only [dMesh_val, dTable_val, dIntS_val] at ex4
  refine wp_thn ex4 ?_
  rintro _ H4 ⟨v_w3, rfl, o_w3, c4, n_w3, d_w3⟩
  clear ex4
  have l4 := c4.1
  try simp at l4
  have b4_4 := box_chg b3_4 c4 (by simp)
  have b4_5 := box_chg b3_5 c4 (by simp)
  have o4_x0 := Dt.chg0 o3_x0 c4
  have o4_x1 := Dt.chg0 o3_x1 c4
  have o4_x2 := Dt.chg0 o_x2 c4
  have cH4 : Chg H H4 [] := (cH3).trans c4
  have h_w3 := dIntS.lt o_w3
  try simp at n_w3
  have one_w3 := dIntS_one o_w3
  simp [VM.look, b4_4, b4_5, get_app' b4_4, get_app' b4_5, cH4.1, Nat.le_add_right_of_le cH4.1, one_x0, one_x1, one_x2, one_w3, ro0_2, ro1_0, ro3, dMesh_val, dTable_val, dIntS_val, f0, f1]
  refine wp_thn (toMesh_w a0_0 a0_1 u0_2 a0_2 (Rd.isI (Rd.chg r0_2 cH4 (by simp))) (by omega)) ?_
  rintro _ H5 ⟨v_x4, rfl, o_x4, c5, n_x4, d_x4⟩
  have l5 := c5.1
  try simp at l5
  have b5_4 := box_chg b4_4 c5 (by simp)
  have b5_5 := box_chg b4_5 c5 (by simp)
  have o5_x0 := Dt.chg0 o4_x0 c5
  have o5_x1 := Dt.chg0 o4_x1 c5
  have o5_x2 := Dt.chg0 o4_x2 c5
  have o5_w3 := Dt.chg0 o_w3 c5
  have cH5 : Chg H H5 [] := (cH4).trans c5
  have h_x4 := dMesh.lt o_x4
  try simp at n_x4
  have one_x4 := dMesh_one o_x4
  simp [VM.look, b5_4, b5_5, get_app' b5_4, get_app' b5_5, cH5.1, Nat.le_add_right_of_le cH5.1, one_x0, one_x1, one_x2, one_w3, one_x4, ro0_2, ro1_0, ro3, dMesh_val, dTable_val, dIntS_val, f0, f1]
  refine wp_thn (toTable_w u1_0 a1_0 (Rd.isI (Rd.chg r1_0 (cH5.trans (Chg.app [])) (by simp))) (by omega)) ?_
  rintro _ H6 ⟨v_x5, rfl, o_x5, c6, n_x5, d_x5⟩
  have l6 := c6.1
  try simp at l6
  have b6_11 := box_chg ((app_get0 _ _).trans rfl) c6 (by simp)
  have b6_4 := box_chg (get_app' b5_4 _) c6 (by simp)
  have b6_5 := box_chg (get_app' b5_5 _) c6 (by simp)
  have o6_x0 := Dt.chg0 (Dt.app o5_x0) c6
  have o6_x1 := Dt.chg0 (Dt.app o5_x1) c6
  have o6_x2 := Dt.chg0 (Dt.app o5_x2) c6
  have o6_w3 := Dt.chg0 (Dt.app o5_w3) c6
  have o6_x4 := Dt.chg0 (Dt.app o_x4) c6
  have cH6 : Chg H H6 [] := (cH5.trans (Chg.app [])).trans c6
  have h_x5 := dTable.lt o_x5
  try simp at n_x5
  have one_x5 := dTable_one o_x5
  simp [VM.look, b6_4, b6_5, b6_11, get_app' b6_4, get_app' b6_5, get_app' b6_11, cH6.1, Nat.le_add_right_of_le cH6.1, one_x0, one_x1, one_x2, one_w3, one_x4, one_x5, ro0_2, ro1_0, ro3, dMesh_val, dTable_val, dIntS_val, f0, f1]
  refine wp_thn (toIntS_w u3 a3 (Rd.isI (Rd.chg r3 (cH6.trans (Chg.app [])) (by simp))) (by omega)) ?_
  rintro _ H7 ⟨v_x6, rfl, o_x6, c7, n_x6, d_x6⟩
  have l7 := c7.1
  try simp at l7
  have b7_12 := box_chg ((app_get0 _ _).trans rfl) c7 (by simp)
  have b7_4 := box_chg (get_app' b6_4 _) c7 (by simp)
  have b7_5 := box_chg (get_app' b6_5 _) c7 (by simp)
  have b7_11 := box_chg (get_app' b6_11 _) c7 (by simp)
  have o7_x0 := Dt.chg0 (Dt.app o6_x0) c7
  have o7_x1 := Dt.chg0 (Dt.app o6_x1) c7
  have o7_x2 := Dt.chg0 (Dt.app o6_x2) c7
  have o7_w3 := Dt.chg0 (Dt.app o6_w3) c7
  have o7_x4 := Dt.chg0 (Dt.app o6_x4) c7
  have o7_x5 := Dt.chg0 (Dt.app o_x5) c7
  have cH7 : Chg H H7 [] := (cH6.trans (Chg.app [])).trans c7
  have h_x6 := dIntS.lt o_x6
  try simp at n_x6
  have one_x6 := dIntS_one o_x6
  simp [VM.look, b7_4, b7_5, b7_11, b7_12, get_app' b7_4, get_app' b7_5, get_app' b7_11, get_app' b7_12, cH7.1, Nat.le_add_right_of_le cH7.1, one_x0, one_x1, one_x2, one_w3, one_x4, one_x5, one_x6, ro0_2, ro1_0, ro3, dMesh_val, dTable_val, dIntS_val, f0, f1]
  have ex8 := branches_d (frz := H.length) (a := a2) o7_x4 o7_x5 o_x6 (by omega)
  try simp only [dMesh_val, dTable_val, dIntS_val] at ex8
  refine wp_thn ex8 ?_
  rintro _ H8 ⟨v_g7, rfl, o_g7, c8, n_g7, d_g7⟩
  clear ex8
  have l8 := c8.1
  try simp at l8
  have b8_4 := box_chg b7_4 c8 (by simp)
  have b8_5 := box_chg b7_5 c8 (by simp)
  have b8_11 := box_chg b7_11 c8 (by simp)
  have b8_12 := box_chg b7_12 c8 (by simp)
  have o8_x0 := Dt.chg0 o7_x0 c8
  have o8_x1 := Dt.chg0 o7_x1 c8
  have o8_x2 := Dt.chg0 o7_x2 c8
  have o8_w3 := Dt.chg0 o7_w3 c8
  have o8_x4 := Dt.chg0 o7_x4 c8
  have o8_x5 := Dt.chg0 o7_x5 c8
  have o8_x6 := Dt.chg0 o_x6 c8
  have cH8 : Chg H H8 [] := (cH7).trans c8
  have h_g7 := dIntS.lt o_g7
  try simp at n_g7
  have one_g7 := dIntS_one o_g7
  simp [VM.look, b8_4, b8_5, b8_11, b8_12, get_app' b8_4, get_app' b8_5, get_app' b8_11, get_app' b8_12, cH8.1, Nat.le_add_right_of_le cH8.1, one_x0, one_x1, one_x2, one_w3, one_x4, one_x5, one_x6, one_g7, ro0_2, ro1_0, ro3, dMesh_val, dTable_val, dIntS_val, f0, f1]
  have eq9 := fun F => eqIntS_d (frz := F) o_g7 o8_w3
  try simp only [dIntS_val] at eq9
  simp [eq9, VM.look, b8_4, b8_5, b8_11, b8_12, get_app' b8_4, get_app' b8_5, get_app' b8_11, get_app' b8_12, cH8.1, Nat.le_add_right_of_le cH8.1, one_x0, one_x1, one_x2, one_w3, one_x4, one_x5, one_x6, one_g7, ro0_2, ro1_0, ro3, dMesh_val, dTable_val, dIntS_val, f0, f1]
  rw [go_draw (h := by kernel_rfl)]
  simp [VM.look, b8_4, b8_5, b8_11, b8_12, get_app' b8_4, get_app' b8_5, get_app' b8_11, get_app' b8_12, cH8.1, Nat.le_add_right_of_le cH8.1, one_x0, one_x1, one_x2, one_w3, one_x4, one_x5, one_x6, one_g7, ro0_2, ro1_0, ro3, dMesh_val, dTable_val, dIntS_val, f0, f1]
  refine wp_thn (toMesh_w a0_0 a0_1 u0_2 a0_2 (Rd.isI (Rd.chg r0_2 cH8 (by simp))) (by omega)) ?_
  rintro _ H10 ⟨v_x8, rfl, o_x8, c10, n_x8, d_x8⟩
  have l10 := c10.1
  try simp at l10
  have b10_4 := box_chg b8_4 c10 (by simp)
  have b10_5 := box_chg b8_5 c10 (by simp)
  have b10_11 := box_chg b8_11 c10 (by simp)
  have b10_12 := box_chg b8_12 c10 (by simp)
  have o10_x0 := Dt.chg0 o8_x0 c10
  have o10_x1 := Dt.chg0 o8_x1 c10
  have o10_x2 := Dt.chg0 o8_x2 c10
  have o10_w3 := Dt.chg0 o8_w3 c10
  have o10_x4 := Dt.chg0 o8_x4 c10
  have o10_x5 := Dt.chg0 o8_x5 c10
  have o10_x6 := Dt.chg0 o8_x6 c10
  have o10_g7 := Dt.chg0 o_g7 c10
  have cH10 : Chg H H10 [] := (cH8).trans c10
  have h_x8 := dMesh.lt o_x8
  try simp at n_x8
  have one_x8 := dMesh_one o_x8
  simp [VM.look, b10_4, b10_5, b10_11, b10_12, get_app' b10_4, get_app' b10_5, get_app' b10_11, get_app' b10_12, cH10.1, Nat.le_add_right_of_le cH10.1, one_x0, one_x1, one_x2, one_w3, one_x4, one_x5, one_x6, one_g7, one_x8, ro0_2, ro1_0, ro3, dMesh_val, dTable_val, dIntS_val, f0, f1]
  have eq11 := fun F => eqMesh_d (frz := F) o10_x4 o_x8
  try simp only [dMesh_val] at eq11
  simp [eq11, VM.look, b10_4, b10_5, b10_11, b10_12, get_app' b10_4, get_app' b10_5, get_app' b10_11, get_app' b10_12, cH10.1, Nat.le_add_right_of_le cH10.1, one_x0, one_x1, one_x2, one_w3, one_x4, one_x5, one_x6, one_g7, one_x8, ro0_2, ro1_0, ro3, dMesh_val, dTable_val, dIntS_val, f0, f1]
  rw [go_draw (h := by kernel_rfl)]
  simp [VM.look, b10_4, b10_5, b10_11, b10_12, get_app' b10_4, get_app' b10_5, get_app' b10_11, get_app' b10_12, cH10.1, Nat.le_add_right_of_le cH10.1, one_x0, one_x1, one_x2, one_w3, one_x4, one_x5, one_x6, one_g7, one_x8, ro0_2, ro1_0, ro3, dMesh_val, dTable_val, dIntS_val, f0, f1]
  refine wp_thn (toTable_w u1_0 a1_0 (Rd.isI (Rd.chg r1_0 cH10 (by simp))) (by omega)) ?_
  rintro _ H12 ⟨v_x9, rfl, o_x9, c12, n_x9, d_x9⟩
  have l12 := c12.1
  try simp at l12
  have b12_4 := box_chg b10_4 c12 (by simp)
  have b12_5 := box_chg b10_5 c12 (by simp)
  have b12_11 := box_chg b10_11 c12 (by simp)
  have b12_12 := box_chg b10_12 c12 (by simp)
  have o12_x0 := Dt.chg0 o10_x0 c12
  have o12_x1 := Dt.chg0 o10_x1 c12
  have o12_x2 := Dt.chg0 o10_x2 c12
  have o12_w3 := Dt.chg0 o10_w3 c12
  have o12_x4 := Dt.chg0 o10_x4 c12
  have o12_x5 := Dt.chg0 o10_x5 c12
  have o12_x6 := Dt.chg0 o10_x6 c12
  have o12_g7 := Dt.chg0 o10_g7 c12
  have o12_x8 := Dt.chg0 o_x8 c12
  have cH12 : Chg H H12 [] := (cH10).trans c12
  have h_x9 := dTable.lt o_x9
  try simp at n_x9
  have one_x9 := dTable_one o_x9
  simp [VM.look, b12_4, b12_5, b12_11, b12_12, get_app' b12_4, get_app' b12_5, get_app' b12_11, get_app' b12_12, cH12.1, Nat.le_add_right_of_le cH12.1, one_x0, one_x1, one_x2, one_w3, one_x4, one_x5, one_x6, one_g7, one_x8, one_x9, ro0_2, ro1_0, ro3, dMesh_val, dTable_val, dIntS_val, f0, f1]
  have eq13 := fun F => eqTable_d (frz := F) o12_x5 o_x9
  try simp only [dTable_val] at eq13
  simp [eq13, VM.look, b12_4, b12_5, b12_11, b12_12, get_app' b12_4, get_app' b12_5, get_app' b12_11, get_app' b12_12, cH12.1, Nat.le_add_right_of_le cH12.1, one_x0, one_x1, one_x2, one_w3, one_x4, one_x5, one_x6, one_g7, one_x8, one_x9, ro0_2, ro1_0, ro3, dMesh_val, dTable_val, dIntS_val, f0, f1]
  refine wp_thn (toIntS_w u3 a3 (Rd.isI (Rd.chg r3 cH12 (by simp))) (by omega)) ?_
  rintro _ H14 ⟨v_x10, rfl, o_x10, c14, n_x10, d_x10⟩
  have l14 := c14.1
  try simp at l14
  have b14_4 := box_chg b12_4 c14 (by simp)
  have b14_5 := box_chg b12_5 c14 (by simp)
  have b14_11 := box_chg b12_11 c14 (by simp)
  have b14_12 := box_chg b12_12 c14 (by simp)
  have o14_x0 := Dt.chg0 o12_x0 c14
  have o14_x1 := Dt.chg0 o12_x1 c14
  have o14_x2 := Dt.chg0 o12_x2 c14
  have o14_w3 := Dt.chg0 o12_w3 c14
  have o14_x4 := Dt.chg0 o12_x4 c14
  have o14_x5 := Dt.chg0 o12_x5 c14
  have o14_x6 := Dt.chg0 o12_x6 c14
  have o14_g7 := Dt.chg0 o12_g7 c14
  have o14_x8 := Dt.chg0 o12_x8 c14
  have o14_x9 := Dt.chg0 o_x9 c14
  have cH14 : Chg H H14 [] := (cH12).trans c14
  have h_x10 := dIntS.lt o_x10
  try simp at n_x10
  have one_x10 := dIntS_one o_x10
  simp [VM.look, b14_4, b14_5, b14_11, b14_12, get_app' b14_4, get_app' b14_5, get_app' b14_11, get_app' b14_12, cH14.1, Nat.le_add_right_of_le cH14.1, one_x0, one_x1, one_x2, one_w3, one_x4, one_x5, one_x6, one_g7, one_x8, one_x9, one_x10, ro0_2, ro1_0, ro3, dMesh_val, dTable_val, dIntS_val, f0, f1]
  have eq15 := fun F => eqIntS_d (frz := F) o14_x6 o_x10
  try simp only [dIntS_val] at eq15
  simp [eq15, VM.look, b14_4, b14_5, b14_11, b14_12, get_app' b14_4, get_app' b14_5, get_app' b14_11, get_app' b14_12, cH14.1, Nat.le_add_right_of_le cH14.1, one_x0, one_x1, one_x2, one_w3, one_x4, one_x5, one_x6, one_g7, one_x8, one_x9, one_x10, ro0_2, ro1_0, ro3, dMesh_val, dTable_val, dIntS_val, f0, f1]
  have mk16 := markMesh_d (frz := H.length) (k := 1) o14_x4 d_x4 (by omega) (fun i hi => by have := n_x4 i hi; have := cH14.1; omega)
  try simp only [dMesh_val] at mk16
  refine wp_thn mk16 ?_
  rintro _ H16 ⟨m16, a_x4, rfl, hm16, hv16, o16_x4, c16, he16⟩
  clear mk16
  have l16 := c16.1
  try simp at l16
  have b16_4 := box_chg b14_4 c16 (fun hh => by have := n_x4 _ hh; have := h_x4 _ hh; omega)
  have b16_5 := box_chg b14_5 c16 (fun hh => by have := n_x4 _ hh; have := h_x4 _ hh; omega)
  have b16_11 := box_chg b14_11 c16 (fun hh => by have := n_x4 _ hh; have := h_x4 _ hh; omega)
  have b16_12 := box_chg b14_12 c16 (fun hh => by have := n_x4 _ hh; have := h_x4 _ hh; omega)
  have o16_x0 := Dt.chg o14_x0 c16 (fun i hi hh => by have := n_x0 i hi; have := h_x0 i hi; have := n_x4 i hh; have := h_x4 i hh; omega)
  have o16_x1 := Dt.chg o14_x1 c16 (fun i hi hh => by have := n_x1 i hi; have := h_x1 i hi; have := n_x4 i hh; have := h_x4 i hh; omega)
  have o16_x2 := Dt.chg o14_x2 c16 (fun i hi hh => by have := n_x2 i hi; have := h_x2 i hi; have := n_x4 i hh; have := h_x4 i hh; omega)
  have o16_w3 := Dt.chg o14_w3 c16 (fun i hi hh => by have := n_w3 i hi; have := h_w3 i hi; have := n_x4 i hh; have := h_x4 i hh; omega)
  have o16_x5 := Dt.chg o14_x5 c16 (fun i hi hh => by have := n_x5 i hi; have := h_x5 i hi; have := n_x4 i hh; have := h_x4 i hh; omega)
  have o16_x6 := Dt.chg o14_x6 c16 (fun i hi hh => by have := n_x6 i hi; have := h_x6 i hi; have := n_x4 i hh; have := h_x4 i hh; omega)
  have o16_g7 := Dt.chg o14_g7 c16 (fun i hi hh => by have := n_g7 i hi; have := h_g7 i hi; have := n_x4 i hh; have := h_x4 i hh; omega)
  have o16_x8 := Dt.chg o14_x8 c16 (fun i hi hh => by have := n_x8 i hi; have := h_x8 i hi; have := n_x4 i hh; have := h_x4 i hh; omega)
  have o16_x9 := Dt.chg o14_x9 c16 (fun i hi hh => by have := n_x9 i hi; have := h_x9 i hi; have := n_x4 i hh; have := h_x4 i hh; omega)
  have o16_x10 := Dt.chg o_x10 c16 (fun i hi hh => by have := n_x10 i hi; have := h_x10 i hi; have := n_x4 i hh; have := h_x4 i hh; omega)
  have cH16 : Chg H H16 [] := (cH14).trans' c16 (fun i hi => .inr (by have := n_x4 i hi; have := cH14.1; omega))
  try simp only [hv16, dMesh_val] at he16
  have fl16 : ¬ (1 + m16 < 0) := by omega
  simp [VM.look, b16_4, b16_5, b16_11, b16_12, get_app' b16_4, get_app' b16_5, get_app' b16_11, get_app' b16_12, cH16.1, Nat.le_add_right_of_le cH16.1, one_x0, one_x1, one_x2, one_w3, one_x4, one_x5, one_x6, one_g7, one_x8, one_x9, one_x10, ro0_2, ro1_0, ro3, dMesh_val, dTable_val, dIntS_val, f0, f1, fl16]
  have mk17 := markTable_d (frz := H.length) (k := 1 + m16) o16_x5 d_x5 (by omega) (fun i hi => by have := n_x5 i hi; have := cH16.1; omega)
  try simp only [dTable_val] at mk17
  refine wp_thn mk17 ?_
  rintro _ H17 ⟨m17, a_x5, rfl, hm17, hv17, o17_x5, c17, he17⟩
  clear mk17
  have l17 := c17.1
  try simp at l17
  have b17_4 := box_chg b16_4 c17 (fun hh => by have := n_x5 _ hh; have := h_x5 _ hh; omega)
  have b17_5 := box_chg b16_5 c17 (fun hh => by have := n_x5 _ hh; have := h_x5 _ hh; omega)
  have b17_11 := box_chg b16_11 c17 (fun hh => by have := n_x5 _ hh; have := h_x5 _ hh; omega)
  have b17_12 := box_chg b16_12 c17 (fun hh => by have := n_x5 _ hh; have := h_x5 _ hh; omega)
  have o17_x0 := Dt.chg o16_x0 c17 (fun i hi hh => by have := n_x0 i hi; have := h_x0 i hi; have := n_x5 i hh; have := h_x5 i hh; omega)
  have o17_x1 := Dt.chg o16_x1 c17 (fun i hi hh => by have := n_x1 i hi; have := h_x1 i hi; have := n_x5 i hh; have := h_x5 i hh; omega)
  have o17_x2 := Dt.chg o16_x2 c17 (fun i hi hh => by have := n_x2 i hi; have := h_x2 i hi; have := n_x5 i hh; have := h_x5 i hh; omega)
  have o17_w3 := Dt.chg o16_w3 c17 (fun i hi hh => by have := n_w3 i hi; have := h_w3 i hi; have := n_x5 i hh; have := h_x5 i hh; omega)
  have o17_x4 := Dt.chg o16_x4 c17 (fun i hi hh => by have := n_x4 i hi; have := h_x4 i hi; have := n_x5 i hh; have := h_x5 i hh; omega)
  have o17_x6 := Dt.chg o16_x6 c17 (fun i hi hh => by have := n_x6 i hi; have := h_x6 i hi; have := n_x5 i hh; have := h_x5 i hh; omega)
  have o17_g7 := Dt.chg o16_g7 c17 (fun i hi hh => by have := n_g7 i hi; have := h_g7 i hi; have := n_x5 i hh; have := h_x5 i hh; omega)
  have o17_x8 := Dt.chg o16_x8 c17 (fun i hi hh => by have := n_x8 i hi; have := h_x8 i hi; have := n_x5 i hh; have := h_x5 i hh; omega)
  have o17_x9 := Dt.chg o16_x9 c17 (fun i hi hh => by have := n_x9 i hi; have := h_x9 i hi; have := n_x5 i hh; have := h_x5 i hh; omega)
  have o17_x10 := Dt.chg o16_x10 c17 (fun i hi hh => by have := n_x10 i hi; have := h_x10 i hi; have := n_x5 i hh; have := h_x5 i hh; omega)
  have cH17 : Chg H H17 [] := (cH16).trans' c17 (fun i hi => .inr (by have := n_x5 i hi; have := cH16.1; omega))
  try simp only [hv17, dTable_val] at he17
  have fl17 : ¬ (1 + m16 + m17 < 0) := by omega
  simp [VM.look, b17_4, b17_5, b17_11, b17_12, get_app' b17_4, get_app' b17_5, get_app' b17_11, get_app' b17_12, cH17.1, Nat.le_add_right_of_le cH17.1, one_x0, one_x1, one_x2, one_w3, one_x4, one_x5, one_x6, one_g7, one_x8, one_x9, one_x10, ro0_2, ro1_0, ro3, dMesh_val, dTable_val, dIntS_val, f0, f1, fl16, fl17]
  have mk18 := markIntS_d (frz := H.length) (k := 1 + m16 + m17) o17_x6 d_x6 (by omega) (fun i hi => by have := n_x6 i hi; have := cH17.1; omega)
  try simp only [dIntS_val] at mk18
  refine wp_thn mk18 ?_
  rintro _ H18 ⟨m18, a_x6, rfl, hm18, hv18, o18_x6, c18, he18⟩
  clear mk18
  have l18 := c18.1
  try simp at l18
  have b18_4 := box_chg b17_4 c18 (fun hh => by have := n_x6 _ hh; have := h_x6 _ hh; omega)
  have b18_5 := box_chg b17_5 c18 (fun hh => by have := n_x6 _ hh; have := h_x6 _ hh; omega)
  have b18_11 := box_chg b17_11 c18 (fun hh => by have := n_x6 _ hh; have := h_x6 _ hh; omega)
  have b18_12 := box_chg b17_12 c18 (fun hh => by have := n_x6 _ hh; have := h_x6 _ hh; omega)
  have o18_x0 := Dt.chg o17_x0 c18 (fun i hi hh => by have := n_x0 i hi; have := h_x0 i hi; have := n_x6 i hh; have := h_x6 i hh; omega)
  have o18_x1 := Dt.chg o17_x1 c18 (fun i hi hh => by have := n_x1 i hi; have := h_x1 i hi; have := n_x6 i hh; have := h_x6 i hh; omega)
  have o18_x2 := Dt.chg o17_x2 c18 (fun i hi hh => by have := n_x2 i hi; have := h_x2 i hi; have := n_x6 i hh; have := h_x6 i hh; omega)
  have o18_w3 := Dt.chg o17_w3 c18 (fun i hi hh => by have := n_w3 i hi; have := h_w3 i hi; have := n_x6 i hh; have := h_x6 i hh; omega)
  have o18_x4 := Dt.chg o17_x4 c18 (fun i hi hh => by have := n_x4 i hi; have := h_x4 i hi; have := n_x6 i hh; have := h_x6 i hh; omega)
  have o18_x5 := Dt.chg o17_x5 c18 (fun i hi hh => by have := n_x5 i hi; have := h_x5 i hi; have := n_x6 i hh; have := h_x6 i hh; omega)
  have o18_g7 := Dt.chg o17_g7 c18 (fun i hi hh => by have := n_g7 i hi; have := h_g7 i hi; have := n_x6 i hh; have := h_x6 i hh; omega)
  have o18_x8 := Dt.chg o17_x8 c18 (fun i hi hh => by have := n_x8 i hi; have := h_x8 i hi; have := n_x6 i hh; have := h_x6 i hh; omega)
  have o18_x9 := Dt.chg o17_x9 c18 (fun i hi hh => by have := n_x9 i hi; have := h_x9 i hi; have := n_x6 i hh; have := h_x6 i hh; omega)
  have o18_x10 := Dt.chg o17_x10 c18 (fun i hi hh => by have := n_x10 i hi; have := h_x10 i hi; have := n_x6 i hh; have := h_x6 i hh; omega)
  have cH18 : Chg H H18 [] := (cH17).trans' c18 (fun i hi => .inr (by have := n_x6 i hi; have := cH17.1; omega))
  try simp only [hv18, dIntS_val] at he18
  have fl18 : ¬ (1 + m16 + m17 + m18 < 0) := by omega
  simp [VM.look, b18_4, b18_5, b18_11, b18_12, get_app' b18_4, get_app' b18_5, get_app' b18_11, get_app' b18_12, cH18.1, Nat.le_add_right_of_le cH18.1, one_x0, one_x1, one_x2, one_w3, one_x4, one_x5, one_x6, one_g7, one_x8, one_x9, one_x10, ro0_2, ro1_0, ro3, dMesh_val, dTable_val, dIntS_val, f0, f1, fl16, fl17, fl18]
  have eq19 := fun F => eqIntS_d (frz := F) o18_g7 o18_w3
  try simp only [dIntS_val] at eq19
  simp [eq19, VM.look, b18_4, b18_5, b18_11, b18_12, get_app' b18_4, get_app' b18_5, get_app' b18_11, get_app' b18_12, cH18.1, Nat.le_add_right_of_le cH18.1, one_x0, one_x1, one_x2, one_w3, one_x4, one_x5, one_x6, one_g7, one_x8, one_x9, one_x10, ro0_2, ro1_0, ro3, dMesh_val, dTable_val, dIntS_val, f0, f1, fl16, fl17, fl18]
  have mk20 := markIntS_d (frz := H.length) (k := 1) o18_g7 d_g7 (by omega) (fun i hi => by have := n_g7 i hi; have := cH18.1; omega)
  try simp only [dIntS_val] at mk20
  refine wp_thn mk20 ?_
  rintro _ H20 ⟨m20, a_g7, rfl, hm20, hv20, o20_g7, c20, he20⟩
  clear mk20
  have l20 := c20.1
  try simp at l20
  have b20_4 := box_chg b18_4 c20 (fun hh => by have := n_g7 _ hh; have := h_g7 _ hh; omega)
  have b20_5 := box_chg b18_5 c20 (fun hh => by have := n_g7 _ hh; have := h_g7 _ hh; omega)
  have b20_11 := box_chg b18_11 c20 (fun hh => by have := n_g7 _ hh; have := h_g7 _ hh; omega)
  have b20_12 := box_chg b18_12 c20 (fun hh => by have := n_g7 _ hh; have := h_g7 _ hh; omega)
  have o20_x0 := Dt.chg o18_x0 c20 (fun i hi hh => by have := n_x0 i hi; have := h_x0 i hi; have := n_g7 i hh; have := h_g7 i hh; omega)
  have o20_x1 := Dt.chg o18_x1 c20 (fun i hi hh => by have := n_x1 i hi; have := h_x1 i hi; have := n_g7 i hh; have := h_g7 i hh; omega)
  have o20_x2 := Dt.chg o18_x2 c20 (fun i hi hh => by have := n_x2 i hi; have := h_x2 i hi; have := n_g7 i hh; have := h_g7 i hh; omega)
  have o20_w3 := Dt.chg o18_w3 c20 (fun i hi hh => by have := n_w3 i hi; have := h_w3 i hi; have := n_g7 i hh; have := h_g7 i hh; omega)
  have o20_x4 := Dt.chg o18_x4 c20 (fun i hi hh => by have := n_x4 i hi; have := h_x4 i hi; have := n_g7 i hh; have := h_g7 i hh; omega)
  have o20_x5 := Dt.chg o18_x5 c20 (fun i hi hh => by have := n_x5 i hi; have := h_x5 i hi; have := n_g7 i hh; have := h_g7 i hh; omega)
  have o20_x6 := Dt.chg o18_x6 c20 (fun i hi hh => by have := n_x6 i hi; have := h_x6 i hi; have := n_g7 i hh; have := h_g7 i hh; omega)
  have o20_x8 := Dt.chg o18_x8 c20 (fun i hi hh => by have := n_x8 i hi; have := h_x8 i hi; have := n_g7 i hh; have := h_g7 i hh; omega)
  have o20_x9 := Dt.chg o18_x9 c20 (fun i hi hh => by have := n_x9 i hi; have := h_x9 i hi; have := n_g7 i hh; have := h_g7 i hh; omega)
  have o20_x10 := Dt.chg o18_x10 c20 (fun i hi hh => by have := n_x10 i hi; have := h_x10 i hi; have := n_g7 i hh; have := h_g7 i hh; omega)
  have cH20 : Chg H H20 [] := (cH18).trans' c20 (fun i hi => .inr (by have := n_g7 i hi; have := cH18.1; omega))
  try simp only [hv20, dIntS_val] at he20
  have fl20 : ¬ (1 + m20 < 0) := by omega
  simp [VM.look, b20_4, b20_5, b20_11, b20_12, get_app' b20_4, get_app' b20_5, get_app' b20_11, get_app' b20_12, cH20.1, Nat.le_add_right_of_le cH20.1, one_x0, one_x1, one_x2, one_w3, one_x4, one_x5, one_x6, one_g7, one_x8, one_x9, one_x10, ro0_2, ro1_0, ro3, dMesh_val, dTable_val, dIntS_val, f0, f1, fl16, fl17, fl18, fl20]
  have hd21 := fun F => he20 F _ o20_g7
  simp [hd21, VM.look, b20_4, b20_5, b20_11, b20_12, get_app' b20_4, get_app' b20_5, get_app' b20_11, get_app' b20_12, cH20.1, Nat.le_add_right_of_le cH20.1, one_x0, one_x1, one_x2, one_w3, one_x4, one_x5, one_x6, one_g7, one_x8, one_x9, one_x10, ro0_2, ro1_0, ro3, dMesh_val, dTable_val, dIntS_val, f0, f1, fl16, fl17, fl18, fl20]
  rw [go_draw (h := by kernel_rfl)]
  simp [VM.look, b20_4, b20_5, b20_11, b20_12, get_app' b20_4, get_app' b20_5, get_app' b20_11, get_app' b20_12, cH20.1, Nat.le_add_right_of_le cH20.1, one_x0, one_x1, one_x2, one_w3, one_x4, one_x5, one_x6, one_g7, one_x8, one_x9, one_x10, ro0_2, ro1_0, ro3, dMesh_val, dTable_val, dIntS_val, f0, f1, fl16, fl17, fl18, fl20]
  refine wp_thn (toMesh_w a0_0 a0_1 u0_2 a0_2 (Rd.isI (Rd.chg r0_2 cH20 (by simp))) (by omega)) ?_
  rintro _ H22 ⟨v_x11, rfl, o_x11, c22, n_x11, d_x11⟩
  have l22 := c22.1
  try simp at l22
  have b22_4 := box_chg b20_4 c22 (by simp)
  have b22_5 := box_chg b20_5 c22 (by simp)
  have b22_11 := box_chg b20_11 c22 (by simp)
  have b22_12 := box_chg b20_12 c22 (by simp)
  have o22_x0 := Dt.chg0 o20_x0 c22
  have o22_x1 := Dt.chg0 o20_x1 c22
  have o22_x2 := Dt.chg0 o20_x2 c22
  have o22_w3 := Dt.chg0 o20_w3 c22
  have o22_x4 := Dt.chg0 o20_x4 c22
  have o22_x5 := Dt.chg0 o20_x5 c22
  have o22_x6 := Dt.chg0 o20_x6 c22
  have o22_g7 := Dt.chg0 o20_g7 c22
  have o22_x8 := Dt.chg0 o20_x8 c22
  have o22_x9 := Dt.chg0 o20_x9 c22
  have o22_x10 := Dt.chg0 o20_x10 c22
  have cH22 : Chg H H22 [] := (cH20).trans c22
  have h_x11 := dMesh.lt o_x11
  try simp at n_x11
  have one_x11 := dMesh_one o_x11
  simp [VM.look, b22_4, b22_5, b22_11, b22_12, get_app' b22_4, get_app' b22_5, get_app' b22_11, get_app' b22_12, cH22.1, Nat.le_add_right_of_le cH22.1, one_x0, one_x1, one_x2, one_w3, one_x4, one_x5, one_x6, one_g7, one_x8, one_x9, one_x10, one_x11, ro0_2, ro1_0, ro3, dMesh_val, dTable_val, dIntS_val, f0, f1, fl16, fl17, fl18, fl20]
  refine wp_thn (toTable_w u1_0 a1_0 (Rd.isI (Rd.chg r1_0 cH22 (by simp))) (by omega)) ?_
  rintro _ H23 ⟨v_x12, rfl, o_x12, c23, n_x12, d_x12⟩
  have l23 := c23.1
  try simp at l23
  have b23_4 := box_chg b22_4 c23 (by simp)
  have b23_5 := box_chg b22_5 c23 (by simp)
  have b23_11 := box_chg b22_11 c23 (by simp)
  have b23_12 := box_chg b22_12 c23 (by simp)
  have o23_x0 := Dt.chg0 o22_x0 c23
  have o23_x1 := Dt.chg0 o22_x1 c23
  have o23_x2 := Dt.chg0 o22_x2 c23
  have o23_w3 := Dt.chg0 o22_w3 c23
  have o23_x4 := Dt.chg0 o22_x4 c23
  have o23_x5 := Dt.chg0 o22_x5 c23
  have o23_x6 := Dt.chg0 o22_x6 c23
  have o23_g7 := Dt.chg0 o22_g7 c23
  have o23_x8 := Dt.chg0 o22_x8 c23
  have o23_x9 := Dt.chg0 o22_x9 c23
  have o23_x10 := Dt.chg0 o22_x10 c23
  have o23_x11 := Dt.chg0 o_x11 c23
  have cH23 : Chg H H23 [] := (cH22).trans c23
  have h_x12 := dTable.lt o_x12
  try simp at n_x12
  have one_x12 := dTable_one o_x12
  simp [VM.look, b23_4, b23_5, b23_11, b23_12, get_app' b23_4, get_app' b23_5, get_app' b23_11, get_app' b23_12, cH23.1, Nat.le_add_right_of_le cH23.1, one_x0, one_x1, one_x2, one_w3, one_x4, one_x5, one_x6, one_g7, one_x8, one_x9, one_x10, one_x11, one_x12, ro0_2, ro1_0, ro3, dMesh_val, dTable_val, dIntS_val, f0, f1, fl16, fl17, fl18, fl20]
  refine wp_thn (toIntS_w u3 a3 (Rd.isI (Rd.chg r3 cH23 (by simp))) (by omega)) ?_
  rintro _ H24 ⟨v_x13, rfl, o_x13, c24, n_x13, d_x13⟩
  have l24 := c24.1
  try simp at l24
  have b24_4 := box_chg b23_4 c24 (by simp)
  have b24_5 := box_chg b23_5 c24 (by simp)
  have b24_11 := box_chg b23_11 c24 (by simp)
  have b24_12 := box_chg b23_12 c24 (by simp)
  have o24_x0 := Dt.chg0 o23_x0 c24
  have o24_x1 := Dt.chg0 o23_x1 c24
  have o24_x2 := Dt.chg0 o23_x2 c24
  have o24_w3 := Dt.chg0 o23_w3 c24
  have o24_x4 := Dt.chg0 o23_x4 c24
  have o24_x5 := Dt.chg0 o23_x5 c24
  have o24_x6 := Dt.chg0 o23_x6 c24
  have o24_g7 := Dt.chg0 o23_g7 c24
  have o24_x8 := Dt.chg0 o23_x8 c24
  have o24_x9 := Dt.chg0 o23_x9 c24
  have o24_x10 := Dt.chg0 o23_x10 c24
  have o24_x11 := Dt.chg0 o23_x11 c24
  have o24_x12 := Dt.chg0 o_x12 c24
  have cH24 : Chg H H24 [] := (cH23).trans c24
  have h_x13 := dIntS.lt o_x13
  try simp at n_x13
  have one_x13 := dIntS_one o_x13
  simp [VM.look, b24_4, b24_5, b24_11, b24_12, get_app' b24_4, get_app' b24_5, get_app' b24_11, get_app' b24_12, cH24.1, Nat.le_add_right_of_le cH24.1, one_x0, one_x1, one_x2, one_w3, one_x4, one_x5, one_x6, one_g7, one_x8, one_x9, one_x10, one_x11, one_x12, one_x13, ro0_2, ro1_0, ro3, dMesh_val, dTable_val, dIntS_val, f0, f1, fl16, fl17, fl18, fl20]
  have ex25 := branches_d (frz := H.length) (a := a2) o24_x11 o24_x12 o_x13 (by omega)
  try simp only [dMesh_val, dTable_val, dIntS_val] at ex25
  refine wp_thn ex25 ?_
  rintro _ H25 ⟨v_g14, rfl, o_g14, c25, n_g14, d_g14⟩
  clear ex25
  have l25 := c25.1
  try simp at l25
  have b25_4 := box_chg b24_4 c25 (by simp)
  have b25_5 := box_chg b24_5 c25 (by simp)
  have b25_11 := box_chg b24_11 c25 (by simp)
  have b25_12 := box_chg b24_12 c25 (by simp)
  have o25_x0 := Dt.chg0 o24_x0 c25
  have o25_x1 := Dt.chg0 o24_x1 c25
  have o25_x2 := Dt.chg0 o24_x2 c25
  have o25_w3 := Dt.chg0 o24_w3 c25
  have o25_x4 := Dt.chg0 o24_x4 c25
  have o25_x5 := Dt.chg0 o24_x5 c25
  have o25_x6 := Dt.chg0 o24_x6 c25
  have o25_g7 := Dt.chg0 o24_g7 c25
  have o25_x8 := Dt.chg0 o24_x8 c25
  have o25_x9 := Dt.chg0 o24_x9 c25
  have o25_x10 := Dt.chg0 o24_x10 c25
  have o25_x11 := Dt.chg0 o24_x11 c25
  have o25_x12 := Dt.chg0 o24_x12 c25
  have o25_x13 := Dt.chg0 o_x13 c25
  have cH25 : Chg H H25 [] := (cH24).trans c25
  have h_g14 := dIntS.lt o_g14
  try simp at n_g14
  have one_g14 := dIntS_one o_g14
  simp [VM.look, b25_4, b25_5, b25_11, b25_12, get_app' b25_4, get_app' b25_5, get_app' b25_11, get_app' b25_12, cH25.1, Nat.le_add_right_of_le cH25.1, one_x0, one_x1, one_x2, one_w3, one_x4, one_x5, one_x6, one_g7, one_x8, one_x9, one_x10, one_x11, one_x12, one_x13, one_g14, ro0_2, ro1_0, ro3, dMesh_val, dTable_val, dIntS_val, f0, f1, fl16, fl17, fl18, fl20]
  have eq26 := fun F => eqIntS_d (frz := F) o_g14 o25_w3
  try simp only [dIntS_val] at eq26
  simp [eq26, VM.look, b25_4, b25_5, b25_11, b25_12, get_app' b25_4, get_app' b25_5, get_app' b25_11, get_app' b25_12, cH25.1, Nat.le_add_right_of_le cH25.1, one_x0, one_x1, one_x2, one_w3, one_x4, one_x5, one_x6, one_g7, one_x8, one_x9, one_x10, one_x11, one_x12, one_x13, one_g14, ro0_2, ro1_0, ro3, dMesh_val, dTable_val, dIntS_val, f0, f1, fl16, fl17, fl18, fl20]
  have hd27 := fun F => he20 F _ o25_g7
  simp [hd27, VM.look, b25_4, b25_5, b25_11, b25_12, get_app' b25_4, get_app' b25_5, get_app' b25_11, get_app' b25_12, cH25.1, Nat.le_add_right_of_le cH25.1, one_x0, one_x1, one_x2, one_w3, one_x4, one_x5, one_x6, one_g7, one_x8, one_x9, one_x10, one_x11, one_x12, one_x13, one_g14, ro0_2, ro1_0, ro3, dMesh_val, dTable_val, dIntS_val, f0, f1, fl16, fl17, fl18, fl20]
theorem law_FnExactBranchesOf {a0_0 : Int} {a0_1 : Int} {a0_2 : List (Int)} {u0_2 : Value} {a1_0 : List (Int)} {u1_0 : Value} {a2 : Int} {a3 : List (Int)} {u3 : Value} (s0_2 : IsS (Kn.int .i64) H u0_2 a0_2) (s1_0 : IsS (Kn.int .i64) H u1_0 a1_0) (s3 : IsS (Kn.int .i64) H u3 a3)
    (w0 : (((Lit.int .i64 a0_0).wf = true) ∧ ((Lit.int .i64 a0_1).wf = true)) ∧ (a0_2.length ≤ maxLen ∧ ∀ x1 ∈ a0_2, (Lit.int .i64 x1).wf = true)) (w1 : (a1_0.length ≤ maxLen ∧ ∀ x2 ∈ a1_0, (Lit.int .i64 x2).wf = true)) (w2 : (Lit.int .i64 a2).wf = true) (w3 : a3.length ≤ maxLen ∧ ∀ x3 ∈ a3, (Lit.int .i64 x3).wf = true) :
    vcall C frz 13 [.agg #[.int .i64 a0_0, .int .i64 a0_1, u0_2], .agg #[u1_0], .int .i64 a2, u3] H = some (.bool true, H) :=
  (law_FnExactBranchesOf_w s0_2 s1_0 s3 w0 w1 w2 w3).exact (by simp) rfl
end Go.Proofs.Ytnakhkfgheapoaa.V
