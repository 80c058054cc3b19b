/- Texts of a proof, joined. -/
import Derived.Test.YtnakhkfgheapoaaKM0
import Derived.Test.YtnakhkfgheapoaaKM1
import Derived.Test.YtnakhkfgheapoaaKFnMulticast0
import Derived.Test.YtnakhkfgheapoaaKFnMulticast1
/-! Branches of a multicast. -/
set_option linter.all false
namespace Go.Proofs.Ytnakhkfgheapoaa.V
open Go Go.VM Go.Proofs
set_option maxRecDepth 10000
variable {frz : Nat} {H : Heap}
/-- all channels that single packets take -/
def allW (w h : Int) (b T : List Int) (a : Int) (ts : List Int) : List Int := (ts.map fun x => walk w h b T a x).flatten
theorem allW_succ {w h : Int} {b T : List Int} {a : Int} {ts : List Int} {i : Nat} (hi : i < ts.length) : allW w h b T a (ts.take (i + 1)) = allW w h b T a (ts.take i) ++ walk w h b T a ts[i] := by
  unfold allW
  rw [List.take_succ_eq_append_getElem hi, List.map_append, List.flatten_append]; simp
theorem allW_len (w h : Int) (b T : List Int) (a : Int) (ts : List Int) : (allW w h b T a ts).length = cost w h b T a ts := by
  unfold allW cost
  rw [List.length_flatten, List.map_map]; rfl
def branches (w h : Int) (b T : List Int) (a : Int) (ts : List Int) : List Int := if castOk w h b T a ts then compact (isort (allW w h b T a ts)) else []
theorem branches_w (w h : Int) (v u s : Value) (b T ts : List Int) (a : Int) (hI : IsI H v b) (hT : IsI H u T) (hS : IsI H s ts) (hl : b.length ≤ 1073741824) (hs : ts.length ≤ 67108864) :
   wp (vcall C frz 63 [.agg #[.int .i64 w, .int .i64 h, v], .agg #[u], .int .i64 a, s] H) (fun r H' => Ow Fl.int 3 H' r (branches w h b T a ts) ∧ (∀ i ∈ ids r, H.length ≤ i) ∧ Chg H H' []) := by
  rw [vcall_go (fn := Try.f63) Try.func63 rfl (by kernel_rfl) rfl]
  have hs' : ts.length ≤ 1073741824 := by omega
  have one := And.intro hI.one' (And.intro hI.cells (And.intro hT.one' hT.cells))
  simp [one, canCast_c _ _ _ _ _ _ _ _ _ (hI.app _) (hT.app _) (hS.app _) hl hs']
  refine wp_dec ?_ ?_ <;> intro h1
  · simp [hS.lenA]
    refine wp_inv (fun n t H' => ∃ (i : Nat) (r : Value), n = ts.length - i ∧ i ≤ ts.length ∧ t 2 = .int .i64 a ∧ t 4 = .pointer (some ⟨H.length, 0, some 0⟩) ∧ t 5 = .pointer (some ⟨H.length + 1, 0, some 0⟩) ∧ t 9 = r ∧ t 20 = s ∧ t 21 = .int .i64 ts.length ∧ t 22 = .int .i64 i ∧
        H'[H.length]? = some ⟨[.int .i64 w, .int .i64 h, v], 0, 33⟩ ∧ H'[H.length + 1]? = some ⟨[u], 0, 48⟩ ∧ Ow Fl.int 3 H' r (allW w h b T a (ts.take i)) ∧ (∀ j ∈ ids r, H.length + 2 ≤ j) ∧ Chg H H' []) ?_ (n := ts.length)
      ⟨0, .slice (some ⟨H.length + 2, 0, some 0⟩) 0 0, rfl, by omega, by simp, by simp, by simp, by simp, by simp, by simp, by simp, by simp, by simp, by
        have : allW w h b T a (ts.take 0) = [] := by simp [allW]
        rw [this]; exact Ow.new (D := Fl.int) (e := 3) (xs := []) (H := H) (k := 2) (by simp) rfl rfl rfl, by simp, Chg.app _⟩
    rintro n t H' ⟨i, r, rfl, hi, t2, t4, t5, t9, t20, t21, t22, b0, b1, o, nr, ch⟩ ih
    have hI1 := ((hI.rd).chg ch (by simp)).isI
    have hT1 := ((hT.rd).chg ch (by simp)).isI
    have hS1 := ((hS.rd).chg ch (by simp)).isI
    have hcl := cost_le w h b T a (ts.take i)
    have htl : (ts.take i).length = i := by simp; omega
    simp [t2, t4, t5, t9, t20, t21, t22]
    refine wp_dec ?_ ?_ <;> intro g1
    · have hx : isN w h ts[i] := h1.2.2 _ (List.getElem_mem g1)
      have hwl := walk_len w h b T a ts[i]
      have q1 := hS1.idx (P := Try.prog) (ty := 22) (e := 3) (by simp) (i := (i : Int)) (by omega) (by omega)
      have r1 := (hS1.load (P := Try.prog) (e := 3) (by simp) g1).trans (by rw [getD_get _ _ g1])
      simp only [Int.toNat_natCast] at q1
      simp [t2, t4, t5, t9, t20, t21, t22, q1, r1, VM.look, b0, b1, one]
      refine wp_thn (made_ret (walkT_c w h v u b T a ts[i] hI1 hT1 hl h1.1 h1.2.1 hx)) ?_
      rintro vw _ ⟨L, rfl, ow, nw⟩
      obtain ⟨r', H3, hap, o3, c3, n3⟩ := (o.app (L := L)).append (P := Try.prog) (frz := H.length) (ty := 22) ow.rd (by simp) (ones_ints _) (by rw [allW_len]; omega) (fun j hj => by have := nr j hj; omega)
      have l0 := ch.1
      have k1 := box_lt b1
      simp [t2, t4, t5, t9, t20, t21, t22, hap]
      refine ih (ts.length - (i + 1)) _ _ ⟨i + 1, r', rfl, by omega, by simp [t2], by simp [t4], by simp [t5], by simp, by simp [t20], by simp [t21], ?_, box_chg (get_app' b0 _) c3 (fun hh => by have := nr _ hh; omega), box_chg (get_app' b1 _) c3 (fun hh => by have := nr _ hh; omega), by rw [allW_succ g1]; exact o3, fun j hj => ?_, (ch.trans (Chg.app [])).trans' c3 (fun j hj => .inr (by have := nr j hj; omega))⟩ (by omega)
      · simp; rw [w64 (by omega) (by omega)]
      · rcases n3 j hj with h2 | h2
        · exact nr j h2
        · simp at h2; omega
    · have him : i = ts.length := by omega
      rw [him, List.take_length] at o
      simp [t9]
      have l0 := ch.1
      refine wp_thn (sort_w r _ _ o (by rw [allW_len]; have := cost_le w h b T a ts; omega) (fun j hj => by have := nr j hj; omega) l0) ?_
      rintro _ H3 ⟨o3, c3⟩
      simp [t9]
      refine wp_thn (compact_w r _ o3 (by rw [isort_len, allW_len]; have := cost_le w h b T a ts; omega) (fun j hj => by have := nr j hj; omega)) ?_
      rintro r2 H4 ⟨o4, n4, c4⟩
      simp
      refine ⟨by unfold branches; rw [if_pos h1]; exact o4, fun j hj => by have := nr j (n4 j hj); omega, (ch.trans' c3 (fun j hj => .inr (by have := nr j hj; omega))).trans' c4 (fun j hj => .inr (by have := nr j hj; omega))⟩
  · simp
    refine ⟨?_, Chg.app _⟩
    unfold branches; rw [if_neg h1]
    exact Ow.new (D := Fl.int) (e := 3) (xs := []) (H := H) (k := 2) (by simp) rfl rfl rfl
theorem multicast_w (w h : Int) (v u s : Value) (b T ts : List Int) (a : Int) (hI : IsI H v b) (hT : IsI H u T) (hS : IsI H s ts) (hl : b.length ≤ 1073741824) (hs : ts.length ≤ 67108864) :
   vcall C frz 61 [.agg #[.int .i64 w, .int .i64 h, v], .agg #[u], .int .i64 a, s] H = some (.int .i64 (if castOk w h b T a ts then (branches w h b T a ts).length else -1), H) := by
  refine wp.exact (by simp) ?_ rfl
  rw [vcall_go (fn := Try.f61) Try.func61 rfl (by kernel_rfl) rfl]
  have hs' : ts.length ≤ 1073741824 := by omega
  have one := And.intro hI.one' (And.intro hI.cells (And.intro hT.one' hT.cells))
  simp [one, canCast_c _ _ _ _ _ _ _ _ _ (hI.app _) (hT.app _) (hS.app _) hl hs']
  refine wp_dec ?_ ?_ <;> intro h1
  · simp [one]
    refine wp_thn (branches_w w h v u s b T ts a (hI.app _) (hT.app _) (hS.app _) hl hs) ?_
    rintro r H1 ⟨o, _, _⟩
    simp [o.rd.len, h1]
  · simp [h1]
theorem walkN_mem (w h : Int) (b T : List Int) (to : Int) : ∀ f a out, isN w h a → (∀ x ∈ out, 0 ≤ x ∧ x < 64) → ∀ x ∈ walkN w h b T to f a out, 0 ≤ x ∧ x < 64 := by
  intro f
  induction f with
  | zero =>
    intro a out ha ho x hx
    simp only [walkN] at hx
    split at hx
    · split at hx
      · exact ho x hx
      · simp at hx
    · simp at hx
  | succ f ih =>
    intro a out ha ho x hx
    simp only [walkN] at hx
    split at hx
    · split at hx
      · exact ho x hx
      · simp at hx
    · split at hx
      · rename_i hs
        have hc := cnt_range w h
        obtain ⟨⟨p0, p3⟩, ⟨⟨c0, c1⟩, nx⟩, _⟩ := hs
        have e1 : (4 * a + portOf w h T a to) / 4 = a := by omega
        have e2 : (4 * a + portOf w h T a to) % 4 = portOf w h T a to := by omega
        rw [e1, e2] at nx
        refine ih _ _ (next_isN nx) (fun y hy => ?_) x hx
        rcases List.mem_append.1 hy with hy | hy
        · exact ho y hy
        · rw [List.mem_singleton.1 hy]; omega
      · simp at hx
theorem walk_mem {w h : Int} {b T : List Int} {a to x : Int} (ha : isN w h a) (hx : x ∈ walk w h b T a to) : 0 ≤ x ∧ x < 64 := walkN_mem w h b T to _ a [] ha (by simp) x hx
/-- the marked places -/
def marked (m : List Bool) : Nat → List Int
  | 0 => []
  | i + 1 => if m.getD i false = true then marked m i ++ [(i : Int)] else marked m i
theorem marked_len (m : List Bool) : ∀ i, (marked m i).length ≤ i
  | 0 => Nat.le_refl _
  | i + 1 => by have := marked_len m i; unfold marked; split <;> simp <;> omega
theorem marked_spec (m : List Bool) : ∀ i, (marked m i).Pairwise (· < ·) ∧ ∀ x, x ∈ marked m i ↔ ∃ j : Nat, j < i ∧ x = (j : Int) ∧ m.getD j false = true
  | 0 => by simp [marked]
  | i + 1 => by
    obtain ⟨h1, h2⟩ := marked_spec m i
    unfold marked
    by_cases hm : m.getD i false = true
    · rw [if_pos hm]
      refine ⟨?_, fun x => ?_⟩
      · rw [List.pairwise_append]
        refine ⟨h1, by simp, fun x hx y hy => ?_⟩
        obtain ⟨j, hj, rfl, _⟩ := (h2 x).1 hx
        rw [List.mem_singleton.1 hy]; omega
      · rw [List.mem_append, h2, List.mem_singleton]
        constructor
        · rintro (⟨j, hj, hx, hmj⟩ | hx)
          · exact ⟨j, by omega, hx, hmj⟩
          · exact ⟨i, by omega, hx, hm⟩
        · rintro ⟨j, hj, hx, hmj⟩
          by_cases hji : j = i
          · subst hji; exact .inr hx
          · exact .inl ⟨j, by omega, hx, hmj⟩
    · rw [if_neg hm]
      refine ⟨h1, fun x => ?_⟩
      rw [h2]
      constructor
      · rintro ⟨j, hj, hx, hmj⟩; exact ⟨j, by omega, hx, hmj⟩
      · rintro ⟨j, hj, hx, hmj⟩
        by_cases hji : j = i
        · subst hji; exact absurd hmj hm
        · exact ⟨j, by omega, hx, hmj⟩
theorem l07Mark_w (v : Value) (m : List Bool) (e : TypeId) (hO : Ow Fl.bool e H v m) (hl : m.length ≤ 1073741824) :
   wp (vcall C frz 112 [v] H) (fun r H' => Ow Fl.int 3 H' r (marked m m.length) ∧ (∀ i ∈ ids r, H.length ≤ i) ∧ Chg H H' []) := by
  rw [vcall_go (fn := Try.f112) Try.func112 rfl (by kernel_rfl) rfl]
  simp
  refine wp_inv (fun n t H' => ∃ (i : Nat) (r : Value), n = m.length - i ∧ i ≤ m.length ∧ t 0 = v ∧ t 3 = r ∧ t 4 = .int .i64 i ∧ Ow Fl.int 3 H' r (marked m i) ∧ (∀ j ∈ ids r, H.length ≤ j) ∧ Chg H H' []) ?_ (n := m.length)
    ⟨0, .slice (some ⟨H.length, 0, some 0⟩) 0 0, rfl, by omega, by simp, by simp, by simp, Ow.new0 (D := Fl.int) (e := 3) (xs := []) (H := H) rfl rfl rfl rfl, by simp, Chg.app _⟩
  rintro n t H' ⟨i, r, rfl, hi, t0, t3, t4, o, nr, ch⟩ ih
  have hO1 := hO.rd.chg ch (by simp)
  simp [t0, t3, t4, hO1.len]
  refine wp_dec ?_ ?_ <;> intro g1
  · have q1 := hO1.idx (P := Try.prog) (ty := 98) (e := 4) (by simp) (i := (i : Int)) (by omega) (by omega)
    have r1 := hO1.cell1 (P := Try.prog) (e := 4) rfl (by simp) g1
    simp at q1 r1
    have hg : m.getD i false = m[i] := by simp [List.getD_eq_getElem?_getD, g1]
    simp [t0, t3, t4, q1, r1]
    refine wp_bool ?_ ?_ <;> intro g2
    · obtain ⟨r', H2, hap, o2, c2, n2⟩ := o.push (P := Try.prog) (frz := H.length) (ty := 22) (a := (i : Int)) (by simp) rfl (by have := marked_len m i; omega) nr
      simp only [Fl.int_f] at hap
      have l0 := ch.1
      simp [t0, t3, t4, hap]
      refine ih (m.length - (i + 1)) _ _ ⟨i + 1, r', rfl, by omega, by simp [t0], by simp, ?_, ?_, fun j hj => ?_, ch.trans' c2 (fun j hj => .inr (nr j hj))⟩ (by omega)
      · simp; rw [w64 (by omega) (by omega)]
      · unfold marked; rw [if_pos (by rw [hg]; exact g2)]; exact o2
      · rcases n2 j hj with h1 | h1
        · exact nr j h1
        · omega
    · simp [t0, t3, t4]
      refine ih (m.length - (i + 1)) _ _ ⟨i + 1, r, rfl, by omega, by simp [t0], by simp [t3], ?_, ?_, nr, ch⟩ (by omega)
      · simp; rw [w64 (by omega) (by omega)]
      · unfold marked; rw [if_neg (by rw [hg, g2]; simp)]; exact o
  · have him : i = m.length := by omega
    simp [t3]
    rw [him] at o
    exact ⟨o, nr, ch⟩
theorem marked_branches {w h : Int} {b T : List Int} {a : Int} {ts : List Int} {m : List Bool} (hok : castOk w h b T a ts) (hm : m.length = 64) (hs : ∀ j : Nat, j < 64 → (m.getD j false = true ↔ (j : Int) ∈ allW w h b T a ts)) : marked m m.length = branches w h b T a ts := by
  unfold branches; rw [if_pos hok]
  obtain ⟨h1, h2⟩ := marked_spec m m.length
  obtain ⟨h3, h4⟩ := compact_sorted (isort_sorted (allW w h b T a ts))
  refine asc_ext h1 h3 (fun x => ?_)
  rw [h2, h4, (isort_perm _).mem_iff]
  constructor
  · rintro ⟨j, hj, rfl, hmj⟩; exact (hs j (by omega)).1 hmj
  · intro hx
    have hb : 0 ≤ x ∧ x < 64 := by
      unfold allW at hx
      obtain ⟨l, hl, hxl⟩ := List.mem_flatten.1 hx
      obtain ⟨y, _, rfl⟩ := List.mem_map.1 hl
      exact walk_mem hok.2.1 hxl
    obtain ⟨j, rfl⟩ := Int.eq_ofNat_of_zero_le hb.1
    exact ⟨j, by omega, rfl, (hs j (by omega)).2 hx⟩
theorem sBranches_w (w h : Int) (v u s : Value) (b T ts : List Int) (a : Int) (hI : IsI H v b) (hT : IsI H u T) (hS : IsI H s ts) (hl : b.length ≤ 1073741824) (hs : ts.length ≤ 67108864) :
   wp (vcall C frz 62 [.agg #[.int .i64 w, .int .i64 h, v], .agg #[u], .int .i64 a, s] H) (fun r H' => Ow Fl.int 3 H' r (branches w h b T a ts) ∧ (∀ i ∈ ids r, H.length ≤ i) ∧ Chg H H' []) := by
  rw [vcall_go (fn := Try.f62) Try.func62 rfl (by kernel_rfl) rfl]
  have hs' : ts.length ≤ 1073741824 := by omega
  have one := And.intro hI.one' (And.intro hI.cells (And.intro hT.one' hT.cells))
  simp [one, l35Ok_c _ _ _ _ _ _ _ _ _ (hI.app _) (hT.app _) (hS.app _) hl hs']
  refine wp_dec ?_ ?_ <;> intro h1
  · simp [one]
    obtain ⟨V9, hV9⟩ : ∃ V9, V9 = Value.slice (some ⟨H.length + 2, 0, some 0⟩) 64 0 := ⟨_, rfl⟩
    have id9 : ids V9 = [H.length + 2] := by rw [hV9]; rfl
    refine wp_inv (fun n t H' => ∃ (i : Nat) (m : List Bool), n = ts.length - i ∧ i ≤ ts.length ∧ t 2 = .int .i64 a ∧ t 3 = s ∧ t 4 = .pointer (some ⟨H.length, 0, some 0⟩) ∧ t 5 = .pointer (some ⟨H.length + 1, 0, some 0⟩) ∧ t 9 = V9 ∧ t 10 = .int .i64 i ∧
        H'[H.length]? = some ⟨[.int .i64 w, .int .i64 h, v], 0, 33⟩ ∧ H'[H.length + 1]? = some ⟨[u], 0, 48⟩ ∧ Ow Fl.bool 4 H' V9 m ∧ m.length = 64 ∧ (∀ j : Nat, j < 64 → (m.getD j false = true ↔ (j : Int) ∈ allW w h b T a (ts.take i))) ∧ Chg H H' []) ?_ (n := ts.length)
      ⟨0, List.replicate 64 false, rfl, by omega, by simp, by simp, by simp, by simp, by simp [hV9], by simp, by simp, by simp, by
        rw [hV9]; exact Ow.new (D := Fl.bool) (e := 4) (xs := List.replicate 64 false) (H := H) (k := 2) rfl rfl rfl rfl, by rw [List.length_replicate], fun j hj => by
          have e : (List.replicate 64 false).getD j false = false := by rw [List.getD_eq_getElem?_getD, List.getElem?_replicate, if_pos hj]; rfl
          rw [e]; simp [allW], Chg.app _⟩
    rintro n t H' ⟨i, m, rfl, hi, t2, t3, t4, t5, t9, t10, b0, b1, o, hm, hmk, ch⟩ ih
    have hI1 := ((hI.rd).chg ch (by simp)).isI
    have hT1 := ((hT.rd).chg ch (by simp)).isI
    have hS1 := ((hS.rd).chg ch (by simp)).isI
    have hSl := hS1.len (P := Try.prog) (ty := 22) (by simp)
    simp [t2, t3, t4, t5, t9, t10, hSl]
    refine wp_dec ?_ ?_ <;> intro g1
    · have hx : isN w h ts[i] := h1.2.2 _ (List.getElem_mem g1)
      have q1 := hS1.idx (P := Try.prog) (ty := 22) (e := 3) (by simp) (i := (i : Int)) (by omega) (by omega)
      have r1 := (hS1.load (P := Try.prog) (e := 3) (by simp) g1).trans (by rw [getD_get _ _ g1])
      simp only [Int.toNat_natCast] at q1
      simp [t2, t3, t4, t5, t9, t10]
      rw [go_draw (h := by kernel_rfl)]
      simp [t2, t3, t4, t5, t9, t10, q1, r1, VM.look, b0, b1, one]
      refine wp_thn (made_row (sWalk_c w h v u b T a ts[i] hI1 hT1 hl h1.1.1 h1.2.1 hx)) ?_
      rintro vw _ ⟨L, rfl, ow, nw⟩
      have hwl := walk_len w h b T a ts[i]
      have hwm := fun x (hx : x ∈ walk w h b T a ts[i]) => walk_mem h1.2.1 hx
      have hsucc := allW_succ (w := w) (h := h) (b := b) (T := T) (a := a) g1
      generalize walk w h b T a ts[i] = W at *
      have k1 := box_lt b1
      have l0 := ch.1
      simp [t2, t3, t4, t5, t9, t10]
      refine wp_inv (fun n t H'' => ∃ (k : Nat) (m' : List Bool), n = W.length - k ∧ k ≤ W.length ∧ t 2 = .int .i64 a ∧ t 3 = s ∧ t 4 = .pointer (some ⟨H.length, 0, some 0⟩) ∧ t 5 = .pointer (some ⟨H.length + 1, 0, some 0⟩) ∧ t 9 = V9 ∧ t 10 = .int .i64 i ∧ t 11 = vw ∧ t 12 = .int .i64 k ∧
          Chg (H' ++ L) H'' [H.length + 2] ∧ Ow Fl.bool 4 H'' V9 m' ∧ m'.length = 64 ∧ (∀ j : Nat, j < 64 → (m'.getD j false = true ↔ (j : Int) ∈ allW w h b T a (ts.take i) ∨ (j : Int) ∈ W.take k))) ?_ (n := W.length)
        ⟨0, m, rfl, by omega, by simp [t2], by simp [t3], by simp [t4], by simp [t5], by simp [t9], by simp [t10], by simp, by simp, Chg.refl _, o.app, hm, fun j hj => by rw [hmk j hj]; simp⟩
      clear t2 t3 t4 t5 t9 t10
      rintro n t H'' ⟨k, m', rfl, hk, t2, t3, t4, t5, t9, t10, t11, t12, ch2, o2, hm', hmk'⟩ ih2
      have hltV : H.length + 2 < (H' ++ L).length := by have := o.lt (H.length + 2) (by rw [id9]; simp); simp; omega
      have nvw : H.length + 2 ∉ ids vw := fun hh => by have := nw _ hh; have := o.lt (H.length + 2) (by rw [id9]; simp); omega
      have ow2 := ow.chg ch2 (fun j hj hh => by have := List.mem_singleton.1 hh; subst this; exact nvw hj)
      simp [t2, t3, t4, t5, t9, t10, t11, t12, ow2.rd.len]
      refine wp_dec ?_ ?_ <;> intro g2
      · have hc := hwm W[k] (List.getElem_mem g2)
        obtain ⟨c, hcc⟩ := Int.eq_ofNat_of_zero_le hc.1
        have hc64 : c < m'.length := by omega
        have q2 := ow_ix ow2 g2
        have r2 := (ow_ld ow2 g2).trans (by rw [G_get g2, hcc])
        have q3 := o2.rd.idx (P := Try.prog) (ty := 98) (e := 4) (by simp) (i := (c : Int)) (by omega) (by omega)
        simp at q3
        obtain ⟨H3, s3, o3, c3, l3⟩ := o2.put1 (P := Try.prog) (frz := H.length) rfl (et := 4) (ag := false) (by simp) hc64 (x := .bool true) (y := true) rfl rfl rfl (fun j hj => by rw [id9] at hj; have := List.mem_singleton.1 hj; omega)
        rw [id9] at c3
        simp [t2, t3, t4, t5, t9, t10, t11, t12, q2, r2, q3, s3]
        refine ih2 (W.length - (k + 1)) _ _ ⟨k + 1, m'.set c true, rfl, by omega, by simp [t2], by simp [t3], by simp [t4], by simp [t5], by simp [t9], by simp [t10], by simp [t11], ?_, ch2.trans c3, o3, by simpa using hm', fun j hj => ?_⟩ (by omega)
        · simp; rw [w64 (by omega) (by omega)]
        · rw [List.take_succ_eq_append_getElem g2, hcc]
          by_cases hjc : j = c
          · subst hjc
            simp [List.getD_eq_getElem?_getD, hc64]
          · have : (m'.set c true).getD j false = m'.getD j false := by simp [List.getD_eq_getElem?_getD, List.getElem?_set_ne (Ne.symm hjc)]
            have hjc' : ¬ (j : Int) = (c : Int) := by omega
            rw [this, hmk' j hj]
            simp [hjc']
      · have hkl : k = W.length := by omega
        have b0' : H''[H.length]? = some ⟨[.int .i64 w, .int .i64 h, v], 0, 33⟩ := box_chg (get_app' b0 _) ch2 (by simp)
        have b1' : H''[H.length + 1]? = some ⟨[u], 0, 48⟩ := box_chg (get_app' b1 _) ch2 (by simp)
        simp [t2, t3, t4, t5, t9, t10, t11, t12]
        refine ih (ts.length - (i + 1)) _ _ ⟨i + 1, m', rfl, by omega, by simp [t2], by simp [t3], by simp [t4], by simp [t5], by simp [t9], ?_, b0', b1', o2, hm', fun j hj => ?_, (ch.trans (Chg.app [])).trans' ch2 (fun j hj => .inr (by have := List.mem_singleton.1 hj; omega))⟩ (by omega)
        · simp; rw [w64 (by omega) (by omega)]
        · rw [hmk' j hj, hsucc, hkl, List.take_length, List.mem_append]
    · have him : i = ts.length := by omega
      rw [him, List.take_length] at hmk
      simp [t9]
      refine wp_thn (l07Mark_w V9 m _ o (by omega)) ?_
      rintro r H3 ⟨o3, n3, c3⟩
      have l0 := ch.1
      simp
      exact ⟨by rw [← marked_branches h1 hm hmk]; exact o3, fun j hj => by have := n3 j hj; omega, ch.trans c3⟩
  · simp
    refine ⟨?_, Chg.app _⟩
    unfold branches; rw [if_neg h1]
    exact Ow.new (D := Fl.int) (e := 3) (xs := []) (H := H) (k := 3) (by simp) rfl rfl rfl
end Go.Proofs.Ytnakhkfgheapoaa.V
/-! Branching channels: the functions with closures. -/
set_option linter.all false
namespace Go.Proofs.Ytnakhkfgheapoaa.V
open Go Go.VM Go.Proofs
set_option maxRecDepth 10000
variable {frz : Nat} {H : Heap}
/-- the first place where a test holds, or -1 -/
def placeP (p : Int → Bool) (b : List Int) : Int := if b.any p then b.findIdx p else -1
theorem placeP_range (p : Int → Bool) (b : List Int) : -1 ≤ placeP p b ∧ placeP p b < b.length ∧ (0 ≤ placeP p b ↔ b.any p = true) := by
  unfold placeP
  split
  · rename_i h
    obtain ⟨x, hx, hp⟩ := List.any_eq_true.1 h
    have := List.findIdx_lt_length_of_exists ⟨x, hx, hp⟩
    refine ⟨by omega, by omega, ?_⟩
    simp only [h, iff_true]; omega
  · rename_i h
    refine ⟨by omega, by omega, ?_⟩
    simp only [h]; simp
theorem placeP_at {p : Int → Bool} {b : List Int} {i : Nat} (h : i < b.length) (h1 : ∀ x ∈ b.take i, p x = false) (h2 : p b[i] = true) : placeP p b = i := by
  unfold placeP
  rw [if_pos (List.any_eq_true.2 ⟨b[i], List.getElem_mem h, h2⟩)]
  congr 1
  rw [List.findIdx_eq h]
  refine ⟨h2, fun j hj => ?_⟩
  refine Bool.eq_false_iff.1 ?_ |> fun hh => by simpa using hh
  exact h1 _ (by rw [List.mem_take_iff_getElem]; exact ⟨j, by omega, rfl⟩)
theorem indexFunc_c (v f : Value) (p : Int → Bool) (b : List Int) (hI : IsI H v b) (hl : b.length ≤ 1073741824)
    (hf : ∀ x ∈ b, vclos (vcall C H.length) f [.int .i64 x] H = some (.bool (p x), H)) :
   vcall C frz 143 [v, f] H = some (.int .i64 (placeP p b), H) := by
  rw [vcall_go (fn := Try.f143) Try.func143 rfl (by kernel_rfl) rfl]
  simp [hI.len]
  refine go_inv (fun n t H' => ∃ i : Nat, n = b.length - i ∧ i ≤ b.length ∧ t 0 = v ∧ t 1 = f ∧ t 6 = v ∧ t 7 = .int .i64 b.length ∧ t 8 = .int .i64 i ∧ H' = H ∧ ∀ x ∈ b.take i, p x = false) ?_ (n := b.length) ⟨0, by simp⟩
  rintro n t H' ⟨i, rfl, hi, h0, h1, h2, h3, h4, rfl, hj⟩ ih
  simp [h0, h1, h2, h3, h4, hI.len]
  refine br_dec _ ?_ ?_ <;> intro h5
  · simp [h0, h1, h2, h3, h4, h5, hI.idx, hI.load, getD_get, hf]
    refine br_eq _ ?_ ?_ <;> intro h6 <;> simp [h0, h1, h2, h3, h4, h6]
    · rw [placeP_at h5 hj h6]
    · refine ih (b.length - (i + 1)) _ _ ⟨i + 1, rfl, by omega, by simp [h0], by simp [h1], by simp [h2], by simp [h3], ?_, rfl, ?_⟩ (by omega)
      · simp; rw [w64 (by omega) (by omega)]
      · rw [List.take_succ_eq_append_getElem h5]
        intro x hx
        rcases List.mem_append.1 hx with hx | hx
        · exact hj x hx
        · rw [List.mem_singleton.1 hx]; exact h6
  · have : i = b.length := by omega
    subst this
    simp [h0, h1, h2, h3]
    rw [List.take_length] at hj
    rw [placeP, if_neg]
    rw [List.any_eq_true]
    rintro ⟨x, hx, hp⟩
    rw [hj x hx] at hp; cases hp
theorem containsFunc_c (v f : Value) (p : Int → Bool) (b : List Int) (hI : IsI H v b) (hl : b.length ≤ 1073741824)
    (hf : ∀ x ∈ b, vclos (vcall C H.length) f [.int .i64 x] H = some (.bool (p x), H)) :
   vcall C frz 117 [v, f] H = some (.bool (b.any p), H) := by
  rw [vcall_go (fn := Try.f117) Try.func117 rfl (by kernel_rfl) rfl]
  simp [indexFunc_c _ _ _ _ hI hl hf, (placeP_range p b).2.2, -List.any_eq_true]
end Go.Proofs.Ytnakhkfgheapoaa.V
/-! Branching channels. -/
set_option linter.all false
namespace Go.Proofs.Ytnakhkfgheapoaa.V
open Go Go.VM Go.Proofs
set_option maxRecDepth 10000
variable {frz : Nat} {H : Heap}
def ende (w h c : Int) : Int := next w h (c / 4) (c % 4)
def branchAt (w h : Int) (b cs : List Int) (r : Int) (i : Nat) : Prop := has w h b (cs.getD i 0) ∧ ende w h (cs.getD i 0) ∉ r :: (cs.take i).map (ende w h)
instance (w h : Int) (b cs : List Int) (r : Int) (i : Nat) : Decidable (branchAt w h b cs r i) := inferInstanceAs (Decidable (_ ∧ _))
def branching (w h : Int) (b cs : List Int) (r : Int) : Prop := (meshOk w h b ∧ isN w h r) ∧ (∀ i, i < cs.length → branchAt w h b cs r i) ∧ ∀ i, i < cs.length → cs.getD i 0 / 4 ∈ r :: cs.map (ende w h)
instance (w h : Int) (b cs : List Int) (r : Int) : Decidable (branching w h b cs r) := inferInstanceAs (Decidable (_ ∧ _))
end Go.Proofs.Ytnakhkfgheapoaa.V
/-! Tables of the standard rules. -/
set_option linter.all false
namespace Go.Proofs.Ytnakhkfgheapoaa.V
open Go Go.VM Go.Proofs
set_option maxRecDepth 10000
variable {frz : Nat} {H : Heap}
def alongP (x g : Int) : Int := if x < g then 1 else if g < x then 3 else -1
def acrossP (y g : Int) : Int := if y < g then 2 else if g < y then 0 else -1
/-- the port of a rule -/
def stdPort (w r a to : Int) : Int :=
  if a = to then 4 else
  if acrossP (a / w) (to / w) < 0 ∨ (0 ≤ alongP (a % w) (to % w) ∧ ((if r = 4 then 1 + to % 2 else r) = 1 ∨ ((if r = 4 then 1 + to % 2 else r) = 3 ∧ alongP (a % w) (to % w) = 3))) then alongP (a % w) (to % w) else acrossP (a / w) (to / w)
def stdTab (w r : Int) (n : Nat) : List Int := (List.range (n * n)).map fun i => stdPort w r (i / n : Nat) (i % n : Nat)
theorem stdTab_len (w r : Int) (n : Nat) : (stdTab w r n).length = n * n := by simp [stdTab]
theorem along_c (x g : Int) : vcall C frz 141 [.int .i64 x, .int .i64 g] H = some (.int .i64 (alongP x g), H) := by
  rw [vcall_go (fn := Try.f141) Try.func141 rfl (by kernel_rfl) rfl]
  simp
  refine br_dec _ ?_ ?_ <;> intro h1 <;> simp [h1, alongP]
  refine br_dec _ ?_ ?_ <;> intro h2 <;> simp [h2]
theorem across_c (x g : Int) : vcall C frz 142 [.int .i64 x, .int .i64 g] H = some (.int .i64 (acrossP x g), H) := by
  rw [vcall_go (fn := Try.f142) Try.func142 rfl (by kernel_rfl) rfl]
  simp
  refine br_dec _ ?_ ?_ <;> intro h1 <;> simp [h1, acrossP]
  refine br_dec _ ?_ ?_ <;> intro h2 <;> simp [h2]
theorem stdPort_c (w h r a to : Int) (hr : 1 ≤ r ∧ r ≤ 4) (ha : isN w h a) (hto : isN w h to) :
   vcall C frz 115 [.agg #[.int .i64 w, .int .i64 h], .int .i64 r, .int .i64 a, .int .i64 to] H = some (.int .i64 (stdPort w r a to), H) := by
  rw [vcall_go (fn := Try.f115) Try.func115 rfl (by kernel_rfl) rfl]
  obtain ⟨hg, a0, _, a1⟩ := isN_ok ha
  obtain ⟨_, t0, _, t1⟩ := isN_ok hto
  have hw := hg.1
  have hir : inR 1 r 4 := hr
  have wz : ¬ w = 0 := by omega
  have e1 : a.tmod w = a % w := Int.tmod_eq_emod_of_nonneg a0
  have e2 : to.tmod w = to % w := Int.tmod_eq_emod_of_nonneg t0
  have e3 : a.tdiv w = a / w := Int.tdiv_eq_ediv_of_nonneg a0
  have e4 : to.tdiv w = to / w := Int.tdiv_eq_ediv_of_nonneg t0
  have e5 : to.tmod 2 = to % 2 := Int.tmod_eq_emod_of_nonneg t0
  have d1 : 0 ≤ a / w ∧ a / w ≤ a := ⟨Int.ediv_nonneg a0 (by omega), Int.ediv_le_self _ a0⟩
  have d2 : 0 ≤ to / w ∧ to / w ≤ to := ⟨Int.ediv_nonneg t0 (by omega), Int.ediv_le_self _ t0⟩
  have f3 : ∀ [Inhabited Unit], IntKind.i64.wrap (a / w) = a / w := by intro _; exact w64 (by omega) (by omega)
  have f4 : ∀ [Inhabited Unit], IntKind.i64.wrap (to / w) = to / w := by intro _; exact w64 (by omega) (by omega)
  have f5 : ∀ [Inhabited Unit], IntKind.i64.wrap (1 + to % 2) = 1 + to % 2 := by intro _; exact w64 (by omega) (by omega)
  simp [isNode_c, ha, hto, inside_c, hir]
  refine br_dec _ ?_ ?_ <;> intro h4
  · subst h4
    simp [e5, f5]
    rw [go_draw (h := by kernel_rfl)]
    simp [VM.look, wz, e1, e2, e3, e4, f3, f4, along_c, across_c]
    refine br_dec _ ?_ ?_ <;> intro h5
    · simp [h5, stdPort]
    · have est : stdPort w 4 a to = if acrossP (a / w) (to / w) < 0 ∨ (0 ≤ alongP (a % w) (to % w) ∧ (1 + to % 2 = 1 ∨ (1 + to % 2 = 3 ∧ alongP (a % w) (to % w) = 3))) then alongP (a % w) (to % w) else acrossP (a / w) (to / w) := by simp [stdPort, h5]
      rw [est]
      generalize alongP (a % w) (to % w) = X
      generalize acrossP (a / w) (to / w) = Y
      generalize 1 + to % 2 = R
      simp
      by_cases q1 : Y < 0
      · simp [q1]
      · by_cases q2 : 0 ≤ X
        · by_cases q3 : R = 1
          · simp [q1, q2, q3]
          · by_cases q4 : R = 3
            · by_cases q5 : X = 3
              · simp [q1, q2, q3, q4, q5]
              · simp [q1, q2, q3, q4, q5]
            · simp [q1, q2, q3, q4]
        · simp [q1, q2]
  · simp [h4]
    rw [go_draw (h := by kernel_rfl)]
    simp [VM.look, wz, e1, e2, e3, e4, f3, f4, along_c, across_c]
    refine br_dec _ ?_ ?_ <;> intro h5
    · simp [h5, stdPort]
    · have est : stdPort w r a to = if acrossP (a / w) (to / w) < 0 ∨ (0 ≤ alongP (a % w) (to % w) ∧ (r = 1 ∨ (r = 3 ∧ alongP (a % w) (to % w) = 3))) then alongP (a % w) (to % w) else acrossP (a / w) (to / w) := by simp [stdPort, h4, h5]
      rw [est]
      generalize alongP (a % w) (to % w) = X
      generalize acrossP (a / w) (to / w) = Y
      simp
      by_cases q1 : Y < 0
      · simp [q1]
      · by_cases q2 : 0 ≤ X
        · by_cases q3 : r = 1
          · simp [q1, q2, q3]
          · by_cases q4 : r = 3
            · by_cases q5 : X = 3
              · simp [q1, q2, q3, q4, q5]
              · simp [q1, q2, q3, q4, q5]
            · simp [q1, q2, q3, q4]
        · simp [q1, q2]
theorem stdTable_w (w h r : Int) (n : Nat) (hr : 1 ≤ r ∧ r ≤ 4) (hg : okG w h) (hn : cnt w h = n) :
   wp (vcall C frz 65 [.agg #[.int .i64 w, .int .i64 h], .int .i64 r] H) (Made2 dTable H (stdTab w r n) true) := by
  rw [vcall_go (fn := Try.f65) Try.func65 rfl (by kernel_rfl) rfl]
  have hc := cnt_range w h
  have hir : inR 1 r 4 := hr
  have hn2 : n * n ≤ 256 := Nat.mul_le_mul (show n ≤ 16 by omega) (show n ≤ 16 by omega)
  simp [gridOk_c, hg, inside_c, hir, nodeCount_c, hn]
  refine wp_inv (fun m t H' => ∃ (i : Nat) (vo : Value) (o : List Int), m = n - i ∧ i ≤ n ∧ o = (List.range (i * n)).map (fun i => stdPort w r (i / n : Nat) (i % n : Nat)) ∧
      t 1 = .int .i64 r ∧ t 2 = .pointer (some ⟨H.length, 0, some 0⟩) ∧ t 4 = .pointer (some ⟨H.length + 1, 0, some 0⟩) ∧ t 6 = .pointer (some ⟨H.length + 2, 0, some 0⟩) ∧ t 20 = .int .i64 n ∧ t 21 = .int .i64 i ∧
      Chg H H' [] ∧ H'[H.length]? = some ⟨[.int .i64 w, .int .i64 h], 0, 31⟩ ∧ H'[H.length + 1]? = some ⟨[.slice none 0 0], 0, 48⟩ ∧ H'[H.length + 2]? = some ⟨[vo], 0, 48⟩ ∧
      Ow Fl.int 3 H' vo o ∧ (∀ i ∈ ids vo, H.length + 2 < i)) ?_ (n := n) ⟨0, .slice none 0 0, [], by simp, by omega, by simp, by simp, by simp, by simp, by simp, by simp, by simp, Chg.app _, by simp, by simp, by simp, .inl ⟨rfl, rfl⟩, by simp⟩
  rintro m t H' ⟨i, vo, o, rfl, hi, ho, h1, h2, h4, h6, h20, h21, c0, b2, b4, b6, oo, no⟩ ih
  simp [h1, h2, h4, h6, h20, h21]
  refine wp_dec ?_ ?_ <;> intro hin
  · have hin' : i < n := by omega
    simp [h1, h2, h4, h6, h20, h21, VM.look, b2, nodeCount_c, hn]
    refine wp_inv (fun m t H' => ∃ (j : Nat) (vo : Value) (o : List Int), m = n - j ∧ j ≤ n ∧ o = (List.range (i * n + j)).map (fun i => stdPort w r (i / n : Nat) (i % n : Nat)) ∧
      t 1 = .int .i64 r ∧ t 2 = .pointer (some ⟨H.length, 0, some 0⟩) ∧ t 4 = .pointer (some ⟨H.length + 1, 0, some 0⟩) ∧ t 6 = .pointer (some ⟨H.length + 2, 0, some 0⟩) ∧ t 20 = .int .i64 n ∧ t 21 = .int .i64 i ∧
      t 7 = .int .i64 i ∧ t 25 = .int .i64 n ∧ t 26 = .int .i64 j ∧
      Chg H H' [] ∧ H'[H.length]? = some ⟨[.int .i64 w, .int .i64 h], 0, 31⟩ ∧ H'[H.length + 1]? = some ⟨[.slice none 0 0], 0, 48⟩ ∧ H'[H.length + 2]? = some ⟨[vo], 0, 48⟩ ∧
      Ow Fl.int 3 H' vo o ∧ (∀ i ∈ ids vo, H.length + 2 < i)) ?_ (n := n) ⟨0, vo, o, by simp, by omega, by simpa using ho, by simp [h1], by simp [h2], by simp [h4], by simp [h6], by simp [h20], by simp [h21], by simp, by simp, by simp, c0, b2, b4, b6, oo, no⟩
    clear h1 h2 h4 h6 h20 h21 c0 b2 b4 b6 oo no ho
    rintro m t H' ⟨j, vo, o, rfl, hj, ho, h1, h2, h4, h6, h20, h21, h7, h25, h26, c0, b2, b4, b6, oo, no⟩ ih2
    simp [h1, h2, h4, h6, h20, h21, h7, h25, h26]
    refine wp_dec ?_ ?_ <;> intro hjn
    · have hjn' : j < n := by omega
      have hol : o.length = i * n + j := by rw [ho]; simp
      have hsm : i * n + j < n * n := by
        have := Nat.mul_le_mul_right n (show i + 1 ≤ n by omega)
        rw [Nat.succ_mul] at this; omega
      have hdv : (i * n + j) / n = i := by rw [Nat.mul_comm, Nat.mul_add_div (by omega), Nat.div_eq_of_lt hjn']; omega
      have hmd : (i * n + j) % n = j := by rw [Nat.mul_comm, Nat.mul_add_mod, Nat.mod_eq_of_lt hjn']
      have sp := fun F L => stdPort_c (frz := F) (H := L) w h r i j hr ⟨by omega, by omega⟩ ⟨by omega, by omega⟩
      have hx : stdPort w r ((i * n + j) / n : Nat) ((i * n + j) % n : Nat) = stdPort w r i j := by rw [hdv, hmd]
      simp [h1, h2, h4, h6, h20, h21, h7, h25, h26]
      rw [go_draw (h := by kernel_rfl)]
      obtain ⟨vo', H3, e3, oo3, c3, n3⟩ := oo.push (P := Try.prog) (frz := H.length) (ty := 22) (a := stdPort w r i j) (by simp) rfl (by omega) (fun i hi => by have := no i hi; omega)
      simp only [Fl.int_f] at e3
      have lc := box_lt b6
      have b2' := box_chg b2 c3 (fun hh => by have := no _ hh; omega)
      have b4' := box_chg b4 c3 (fun hh => by have := no _ hh; omega)
      have b6' := box_chg b6 c3 (fun hh => by have := no _ hh; omega)
      have no3 : ∀ i ∈ ids vo', H.length + 2 < i := fun i hi => by rcases n3 i hi with h | h; exact no i h; omega
      have one := And.intro oo.rd.one' oo.rd.cells
      have one3 := And.intro oo3.rd.one' oo3.rd.cells
      have hF : H.length ≤ H.length + 2 := by omega
      simp [VM.look, b2, b6, sp, one, e3, b6', one3, h1, h2, h4, h6, h20, h21, h7, h25, h26]
      refine ih2 (n - (j + 1)) _ _ ⟨j + 1, vo', o ++ [stdPort w r i j], rfl, by omega, ?_, by simp [h1], by simp [h2], by simp [h4], by simp [h6], by simp [h20], by simp [h21], by simp [h7], by simp [h25], ?_,
        (c0.trans' c3 (fun i hi => .inr (by have := no i hi; omega))).trans' (chg_set _ _) (fun i hi => .inr (by simp at hi; omega)), box_chg b2' (chg_set _ _) (by simp), box_chg b4' (chg_set _ _) (by simp), set_get b6',
        oo3.chg (chg_set _ _) (fun i hi hh => by have := no3 i hi; simp at hh; omega), no3⟩ (by omega)
      · rw [← Nat.add_assoc, List.range_succ, List.map_append, ← ho]; simp only [List.map_cons, List.map_nil, hdv, hmd]
      · simp; rw [w64 (by omega) (by omega)]
    · have : j = n := by omega
      subst this
      simp [h1, h2, h4, h6, h20, h21, h7, h25, h26]
      refine ih (j - (i + 1)) _ _ ⟨i + 1, vo, o, rfl, by omega, by rw [Nat.succ_mul]; exact ho, by simp [h1], by simp [h2], by simp [h4], by simp [h6], by simp [h20], ?_, c0, b2, b4, b6, oo, no⟩ (by omega)
      simp; rw [w64 (by omega) (by omega)]
  · have : i = n := by omega
    subst this
    have lc := box_lt b6
    have one := And.intro oo.rd.one' oo.rd.cells
    have g4 := set_get (r' := ⟨[vo], 0, 48⟩) b4
    have hol : o.length = i * i := by rw [ho]; simp
    have hF : H.length ≤ H.length + 1 := by omega
    simp [h1, h2, h4, h6, h20, h21, VM.look, b6, b4, one, g4, hF]
    exact ⟨.agg #[vo], rfl, vo, rfl, ⟨(by rw [show stdTab w r i = o from ho.symm]; exact oo.chg (chg_set _ _) (fun i hi hh => by have := no i hi; simp at hh; omega)), by rw [stdTab_len]; omega⟩, c0.trans' (chg_set _ _) (fun i hi => .inr (by simp at hi; omega)), fun i hi => by have := no i hi; omega, ids_nodup vo⟩
end Go.Proofs.Ytnakhkfgheapoaa.V
/-! Tables of the rule xy: valid, and their walks from one node make a tree. -/
set_option linter.all false
namespace Go.Proofs.Ytnakhkfgheapoaa.V
open Go Go.VM Go.Proofs
set_option maxRecDepth 100000
abbrev xyPort (w a to : Int) : Int := stdPort w 1 a to
def walkP (w h to : Int) : Nat → Int → List Int → List Int
  | 0, a, out => if xyPort w a to = 4 then (if a = to then out else []) else []
  | f + 1, a, out => if xyPort w a to = 4 then (if a = to then out else []) else
      if inR 0 (xyPort w a to) 3 ∧ leads w h (4 * a + xyPort w a to) then walkP w h to f (next w h a (xyPort w a to)) (out ++ [4 * a + xyPort w a to]) else []
theorem portOf_xy {w h a to : Int} {n : Nat} (hn : cnt w h = n) (ha : isN w h a) (hto : isN w h to) : portOf w h (stdTab w 1 n) a to = xyPort w a to := by
  obtain ⟨i, rfl⟩ := Int.eq_ofNat_of_zero_le ha.1
  obtain ⟨j, rfl⟩ := Int.eq_ofNat_of_zero_le hto.1
  have h1 := ha.2
  have h2 := hto.2
  unfold portOf rd
  have hj : j < n := by omega
  have hi : i < n := by omega
  have hsm : i * n + j < n * n := by
    have := Nat.mul_le_mul_right n (show i + 1 ≤ n by omega)
    rw [Nat.succ_mul] at this; omega
  have hdv : (i * n + j) / n = i := by rw [Nat.mul_comm, Nat.mul_add_div (by omega), Nat.div_eq_of_lt hj]; omega
  have hmd : (i * n + j) % n = j := by rw [Nat.mul_comm, Nat.mul_add_mod, Nat.mod_eq_of_lt hj]
  rw [hn, show ((i : Int) * (n : Int) + (j : Int)).toNat = i * n + j by rw [← Int.natCast_mul, ← Int.natCast_add]; rfl]
  rw [stdTab, List.getD_eq_getElem?_getD, List.getElem?_map, List.getElem?_range hsm]
  simp only [Option.map_some, Option.getD_some, hdv, hmd]
theorem walkN_xy {w h to : Int} {n : Nat} (hn : cnt w h = n) (hg : okG w h) (hto : isN w h to) : ∀ f a out, isN w h a → walkN w h [] (stdTab w 1 n) to f a out = walkP w h to f a out
  | 0, a, out, ha => by simp only [walkN, walkP, portOf_xy hn ha hto]
  | f + 1, a, out, ha => by
    simp only [walkN, walkP, portOf_xy hn ha hto, stepOk]
    have e : (inR 0 (xyPort w a to) 3 ∧ has w h [] (4 * a + xyPort w a to)) ↔ (inR 0 (xyPort w a to) 3 ∧ leads w h (4 * a + xyPort w a to)) := by simp [has]
    by_cases h1 : xyPort w a to = 4
    · simp [h1]
    · simp only [h1, if_false]
      by_cases h2 : inR 0 (xyPort w a to) 3 ∧ leads w h (4 * a + xyPort w a to)
      · rw [if_pos (e.2 h2), if_pos h2]
        obtain ⟨h3, h4⟩ := e.2 h2
        exact walkN_xy hn hg hto f _ _ (step_next h3 h4).2.2
      · rw [if_neg (fun k => h2 (e.1 k)), if_neg h2]
/-- the walk of the rule xy -/
def wk (w h : Int) (n : Nat) (a to : Int) : List Int := walkP w h to n a []
theorem walk_xy {w h a to : Int} {n : Nat} (hn : cnt w h = n) (hg : okG w h) (ha : isN w h a) (hto : isN w h to) : walk w h [] (stdTab w 1 n) a to = wk w h n a to := by
  unfold walk wk
  rw [walkN_xy hn hg hto _ _ _ ha, hn]; rfl
/-- what is looked at in one walk -/
def chk1 (w h : Int) (n : Nat) (a to : Int) : Bool :=
  (decide (a = to) || !(wk w h n a to).isEmpty) && (wk w h n a to).all fun x => decide (leads w h x) && !decide (next w h (x / 4) (x % 4) = a) && decide (next w h (x / 4) (x % 4) < n) && decide (0 ≤ next w h (x / 4) (x % 4)) && (wk w h n a (next w h (x / 4) (x % 4))).getLast? == some x &&
   (decide (x / 4 = a) || (wk w h n a to).any fun y => decide (next w h (y / 4) (y % 4) = x / 4))
def chk (w h n : Nat) : Bool := (List.range n).all fun a => (List.range n).all fun to => chk1 w h n a to
theorem chk_all : ((List.range 4).all fun w => (List.range 4).all fun h => chk (w + 1) (h + 1) ((w + 1) * (h + 1))) = true := by kernel_rfl
theorem chk_ok {w h a to : Int} {n : Nat} (hg : okG w h) (hn : cnt w h = n) (ha : isN w h a) (hto : isN w h to) : chk1 w h n a to = true := by
  obtain ⟨⟨w0, w1⟩, h0, h1⟩ := hg
  obtain ⟨i, hi⟩ : ∃ i : Nat, w = ((i + 1 : Nat) : Int) := ⟨(w - 1).toNat, by omega⟩
  obtain ⟨j, hj⟩ : ∃ j : Nat, h = ((j + 1 : Nat) : Int) := ⟨(h - 1).toNat, by omega⟩
  obtain ⟨k, rfl⟩ := Int.eq_ofNat_of_zero_le ha.1
  obtain ⟨l, rfl⟩ := Int.eq_ofNat_of_zero_le hto.1
  have e0 := chk_all
  rw [List.all_eq_true] at e0
  have e1 := e0 i (List.mem_range.2 (by omega))
  rw [List.all_eq_true] at e1
  have e2 := e1 j (List.mem_range.2 (by omega))
  have hk := ha.2
  have hl := hto.2
  have hnn : n = (i + 1) * (j + 1) := by
    rw [cnt, if_pos ⟨⟨w0, w1⟩, h0, h1⟩, hi, hj, ← Int.natCast_mul] at hn; omega
  rw [chk, List.all_eq_true] at e2
  have e3 := e2 k (List.mem_range.2 (by omega))
  rw [List.all_eq_true] at e3
  have e4 := e3 l (List.mem_range.2 (by omega))
  rw [hi, hj, hnn]; exact e4
/-- what holds of a channel of a walk -/
theorem wk_facts {w h a to x : Int} {n : Nat} (hg : okG w h) (hn : cnt w h = n) (ha : isN w h a) (hto : isN w h to) (hx : x ∈ wk w h n a to) :
    leads w h x ∧ ende w h x ≠ a ∧ isN w h (ende w h x) ∧ (wk w h n a (ende w h x)).getLast? = some x ∧ (x / 4 = a ∨ ∃ y ∈ wk w h n a to, ende w h y = x / 4) := by
  have c := chk_ok hg hn ha hto
  rw [chk1, Bool.and_eq_true, List.all_eq_true] at c
  have d := c.2 x hx
  simp only [Bool.and_eq_true, Bool.or_eq_true, decide_eq_true_eq, Bool.not_eq_true', decide_eq_false_iff_not, beq_iff_eq, List.any_eq_true] at d
  obtain ⟨⟨⟨⟨⟨d1, d2⟩, d3⟩, d4⟩, d5⟩, d6⟩ := d
  exact ⟨d1, d2, ⟨d4, by rw [hn]; exact d3⟩, d5, d6⟩
theorem wk_ne {w h a to : Int} {n : Nat} (hg : okG w h) (hn : cnt w h = n) (ha : isN w h a) (hto : isN w h to) (hne : a ≠ to) : wk w h n a to ≠ [] := by
  have c := chk_ok hg hn ha hto
  rw [chk1, Bool.and_eq_true] at c
  have d := c.1
  simp [hne] at d
  exact d
theorem xy_ok {w h : Int} {n : Nat} (hg : okG w h) (hn : cnt w h = n) : tableOk w h [] (stdTab w 1 n) := by
  refine ⟨⟨⟨by simp, hg⟩, by rw [stdTab_len, hn, Int.natCast_mul]⟩, fun a ha c hc => ⟨fun e => ?_, fun e => ?_⟩⟩
  · subst e
    rw [portOf_xy hn (isN_nat ha) (isN_nat ha)]; simp [stdPort]
  · rw [walk_xy hn hg (isN_nat ha) (isN_nat hc)]
    exact wk_ne hg hn (isN_nat ha) (isN_nat hc) (by omega)
theorem allW_mem {w h : Int} {b T : List Int} {a : Int} {ts : List Int} {x : Int} : x ∈ allW w h b T a ts ↔ ∃ t ∈ ts, x ∈ walk w h b T a t := by
  unfold allW
  rw [List.mem_flatten]
  constructor
  · rintro ⟨l, hl, hx⟩
    obtain ⟨t, ht, rfl⟩ := List.mem_map.1 hl
    exact ⟨t, ht, hx⟩
  · rintro ⟨t, ht, hx⟩
    exact ⟨_, List.mem_map.2 ⟨t, ht, rfl⟩, hx⟩
theorem branches_mem {w h : Int} {b T : List Int} {a : Int} {ts : List Int} (hc : castOk w h b T a ts) : (branches w h b T a ts).Pairwise (· < ·) ∧ (branches w h b T a ts).length ≤ cost w h b T a ts ∧ ∀ x, x ∈ branches w h b T a ts ↔ ∃ t ∈ ts, x ∈ walk w h b T a t := by
  unfold branches; rw [if_pos hc]
  obtain ⟨h3, h4⟩ := compact_sorted (isort_sorted (allW w h b T a ts))
  refine ⟨h3, ?_, fun x => by rw [h4, (isort_perm _).mem_iff, allW_mem]⟩
  rw [← allW_len, ← isort_len (allW w h b T a ts)]
  refine List.Nodup.length_le_of_subset ?_ fun x hx => (h4 x).1 hx
  exact h3.imp (fun h => Int.ne_of_lt h)
/-- a multicast of the rule xy uses a tree -/
theorem xy_tree {w h a : Int} {n : Nat} {ts : List Int} (hg : okG w h) (hn : cnt w h = n) (ha : isN w h a) (ht : ∀ t ∈ ts, isN w h t) : branching w h [] (branches w h [] (stdTab w 1 n) a ts) a := by
  have hc : castOk w h [] (stdTab w 1 n) a ts := ⟨xy_ok hg hn, ha, ht⟩
  obtain ⟨hs, _, hm⟩ := branches_mem hc
  generalize branches w h [] (stdTab w 1 n) a ts = cs at *
  have hf : ∀ x ∈ cs, leads w h x ∧ ende w h x ≠ a ∧ isN w h (ende w h x) ∧ (wk w h n a (ende w h x)).getLast? = some x ∧ (x / 4 = a ∨ ∃ y ∈ cs, ende w h y = x / 4) := fun x hx => by
    obtain ⟨t, h1, h2⟩ := (hm x).1 hx
    rw [walk_xy hn hg ha (ht t h1)] at h2
    obtain ⟨f1, f2, f3, f4, f5⟩ := wk_facts hg hn ha (ht t h1) h2
    refine ⟨f1, f2, f3, f4, f5.imp_right ?_⟩
    rintro ⟨y, y1, y2⟩
    exact ⟨y, (hm y).2 ⟨t, h1, by rw [walk_xy hn hg ha (ht t h1)]; exact y1⟩, y2⟩
  have hinj : ∀ x ∈ cs, ∀ y ∈ cs, ende w h x = ende w h y → x = y := fun x hx y hy e => by
    have h1 := (hf x hx).2.2.2.1
    have h2 := (hf y hy).2.2.2.1
    rw [e, h2] at h1; exact (Option.some.inj h1).symm
  refine ⟨⟨⟨by simp, hg⟩, ha⟩, fun i hi => ?_, fun i hi => ?_⟩
  · rw [branchAt, getD_get _ _ hi]
    have hx := List.getElem_mem hi
    refine ⟨⟨(hf _ hx).1, by simp⟩, fun hh => ?_⟩
    rcases List.mem_cons.1 hh with hh | hh
    · exact (hf _ hx).2.1 hh
    · obtain ⟨y, y1, y2⟩ := List.mem_map.1 hh
      obtain ⟨j, j1, j2⟩ := List.mem_iff_getElem.1 y1
      have hj : j < i := by simp at j1; omega
      have : y = cs[j] := by rw [← j2]; simp
      rw [this] at y2
      have e := hinj _ (List.getElem_mem (by omega)) _ hx y2
      have := List.pairwise_iff_getElem.1 hs j i (by omega) hi hj
      omega
  · rw [getD_get _ _ hi]
    rcases (hf _ (List.getElem_mem hi)).2.2.2.2 with h1 | ⟨y, y1, y2⟩
    · rw [h1]; simp
    · exact List.mem_cons_of_mem _ (List.mem_map.2 ⟨y, y1, y2⟩)
end Go.Proofs.Ytnakhkfgheapoaa.V
/-! Branching channels: the program's own. -/
set_option linter.all false
namespace Go.Proofs.Ytnakhkfgheapoaa.V
open Go Go.VM Go.Proofs
set_option maxRecDepth 10000
variable {frz : Nat} {H : Heap}
theorem branching1_c (c : Int) (id : Nat) (s : Value) (es : List Int) (hr : H[id]? = some ⟨[s], 0, 22⟩) (hs : IsI H s es) (hn : es.length ≤ 1073741824) (hc : 0 ≤ c ∧ c < 64) :
   vcall C frz 118 [.int .i64 c, .pointer (some ⟨id, 0, some 0⟩)] H = some (.bool (!decide (c / 4 ∈ es)), H) := by
  rw [vcall_go (fn := Try.f118) Try.func118 rfl (by kernel_rfl) rfl]
  have e1 : IntKind.i64.wrap (c.tdiv 4) = c / 4 := by
    rw [Int.tdiv_eq_ediv_of_nonneg hc.1]
    exact w64 (by omega) (by omega)
  simp [VM.look, hr, e1, contains_c _ _ _ hs hn]
theorem branching_c (w h : Int) (v u : Value) (b cs : List Int) (r : Int) (hI : IsI H v b) (hU : IsI H u cs) (hl : b.length ≤ 1073741824) (hl' : cs.length ≤ 1073741823) :
   vcall C frz 67 [.agg #[.int .i64 w, .int .i64 h, v], u, .int .i64 r] H = some (.bool (decide (branching w h b cs r)), H) := by
  rw [vcall_go (fn := Try.f67) Try.func67 rfl (by kernel_rfl) rfl]
  simp [hI.one', hI.cells, isRoot_c _ _ _ _ _ (hI.app _) hl, -Bool.decide_and]
  refine br_dec _ ?_ ?_ <;> intro hm <;> simp [hm, (hU.app _).len]
  · refine go_inv (fun n t H' => ∃ (i g : Nat) (es : List Int) (G : Heap), n = cs.length - i ∧ i ≤ cs.length ∧ t 1 = u ∧ t 2 = .int .i64 r ∧ t 3 = .pointer (some ⟨H.length, 0, some 0⟩) ∧
      t 7 = .pointer (some ⟨H.length + 2, 0, some 0⟩) ∧ t 16 = u ∧ t 17 = .int .i64 cs.length ∧ t 18 = .int .i64 i ∧
      H' = H ++ ⟨[.int .i64 w, .int .i64 h, v], 0, 33⟩ :: ⟨es.map (.int .i64), g, 3⟩ :: ⟨[.slice (some ⟨H.length + 1, 0, some g⟩) (i + 1) 0], 0, 22⟩ :: G ∧ es = r :: (cs.take i).map (ende w h) ∧ es.length = i + 1 ∧ ∀ j < i, branchAt w h b cs r j) ?_ (n := cs.length) ⟨0, 0, [r], [], by simp⟩
    rintro n t H' ⟨i, g, es, G, rfl, hi, h1, h2, h3, h4, h10, h11, h5, rfl, he, hn, hj⟩ ih
    have hE : ∀ L, IsI (H ++ ⟨[.int .i64 w, .int .i64 h, v], 0, 33⟩ :: ⟨es.map (.int .i64), g, 3⟩ :: L) (.slice (some ⟨H.length + 1, 0, some g⟩) (i + 1) 0) es := fun L => by
      have := IsI.row (H := H ++ ⟨[.int .i64 w, .int .i64 h, v], 0, 33⟩ :: ⟨es.map (.int .i64), g, 3⟩ :: L) (id := H.length + 1) (xs := es) (r := ⟨es.map (.int .i64), g, 3⟩) (by simp) rfl
      rwa [hn] at this
    simp [h1, h2, h3, h4, h5, h10, h11, hU.lenA]
    refine br_dec _ ?_ ?_ <;> intro h6
    · simp [h1, h2, h3, h4, h5, h6, h10, h11, hU.idxA, hU.loadA, getD_get]
      rw [go_draw (h := by kernel_rfl)]
      simp [h1, h2, h3, h4, h5, h6, h10, h11, hU.idxA, hU.loadA, getD_get, hasChannel_c _ _ _ _ _ (hI.app _) hl, hI.one', hI.cells, hm.1]
      refine gd_dec _ _ ?_ ?_ <;> intro h7
      · obtain ⟨e1, e2⟩ := chan_div h7.1.1
        simp [h1, h2, h3, h4, h5, h6, h7, h10, h11, endOf_c _ _ _ _ _ (hI.app _) h7.1, hI.one', hI.cells]
        rw [show next w h (cs[i] / 4) (cs[i] % 4) = ende w h cs[i] from rfl]
        simp [contains_c _ _ _ (hE _) (by omega)]
        refine br_dec _ ?_ ?_ <;> intro h8 <;> simp [h1, h2, h3, h4, h5, h6, h10, h11, h8]
        · exact fun hh => (hh.2.1 i h6).2 (by rw [getD_get _ _ h6, ← he]; exact h8)
        · rw [go_draw (h := by kernel_rfl)]
          simp [h1, h2, h3, h4, h5, h6, h7, h10, h11, endOf_c _ _ _ _ _ (hI.app _) h7.1, hI.one', hI.cells, hn]
          refine vneed_eq (by omega) ?_
          refine ih (cs.length - (i + 1)) _ _ ⟨i + 1, g + 1, es ++ [ende w h cs[i]], _, rfl, by omega, by simp [h1], by simp [h2], by simp [h3], by simp [h4], by simp [h10], by simp [h11], ?_, by simp [hn]; exact ⟨rfl, rfl⟩, ?_, by simp [hn], ?_⟩ (by omega)
          · simp; rw [w64 (by omega) (by omega)]
          · rw [List.take_succ_eq_append_getElem h6, he]; simp only [List.map_append, List.map_cons, List.map_nil, List.cons_append]
          · intro j hji
            by_cases hji' : j < i
            · exact hj j hji'
            · have : j = i := by omega
              subst this
              refine ⟨by rw [getD_get _ _ h6]; exact h7, ?_⟩
              rw [getD_get _ _ h6, ← he]
              exact h8
      · simp [h1, h2, h3, h4, h5, h6, h7, h10, h11]
        exact fun hh => h7 (by have := (hh.2.1 i h6).1; rwa [getD_get _ _ h6] at this)
    · simp [h1, h2, h3, h4, h5, h6, h10, h11]
      have : i = cs.length := by omega
      subst this
      rw [List.take_length] at he
      rw [containsFunc_c u _ (fun c => !decide (c / 4 ∈ es)) cs (hU.app _) (by omega) (fun c hc => ?_)]
      · simp
        rw [Bool.eq_iff_iff, List.any_eq_true, Bool.not_eq_true', decide_eq_false_iff_not]
        refine ⟨fun ⟨c, hc, hp⟩ hb => ?_, fun hb => ?_⟩
        · obtain ⟨k, hk, rfl⟩ := List.getElem_of_mem hc
          have := hb.2.2 k hk
          rw [getD_get _ _ hk, ← he] at this
          simp [this] at hp
        · refine Classical.byContradiction fun hno => hb ⟨hm, hj, fun k hk => ?_⟩
          rw [getD_get _ _ hk, ← he]
          refine Classical.byContradiction fun hh => hno ⟨cs[k], List.getElem_mem hk, by simp [hh]⟩
      · obtain ⟨k, hk, rfl⟩ := List.getElem_of_mem hc
        have h7 := (hj k hk).1
        rw [getD_get _ _ hk] at h7
        have := cnt_range w h
        have := h7.1.1
        simp
        rw [branching1_c _ _ _ _ (by simp) (hE _) (by omega) (by omega)]
  · exact fun hh => hm hh.1
end Go.Proofs.Ytnakhkfgheapoaa.V
/-! Draws: the cursor, grids, meshes. -/
set_option linter.all false
namespace Go.Proofs.Ytnakhkfgheapoaa.V
open Go Go.VM Go.Proofs
set_option maxRecDepth 10000
variable {frz : Nat} {H H' : Heap} {vb : Value} {code : List Int} {r : Nat}
theorem iand255 (a : Int) : 0 ≤ iand .i64 a 255 ∧ iand .i64 a 255 < 256 := by
  unfold iand
  have h1 : (BitVec.ofInt IntKind.i64.bits a &&& BitVec.ofInt IntKind.i64.bits 255).toNat ≤ 255 := by
    rw [BitVec.toNat_and]
    exact Nat.le_trans Nat.and_le_right (by decide)
  rw [w64 (by omega) (by omega)]
  omega
/-- a cursor -/
def Cur (H : Heap) (r : Nat) (vb : Value) (code : List Int) : Prop :=
  ∃ (i : Nat) (h : Int), i ≤ code.length ∧ H[r]? = some ⟨[vb, .int .i64 i, .int .i64 h], 0, 108⟩ ∧ Rd Fl.u8 H vb code ∧ r ∉ ids vb ∧ code.length ≤ 1073741824
theorem Cur.lt (h : Cur H r vb code) : r < H.length := by obtain ⟨_, _, _, h2, _⟩ := h; exact box_lt h2
theorem Cur.chg {is : List Nat} (h : Cur H r vb code) (c : Chg H H' is) (k : r ∉ is) (k' : ∀ i ∈ ids vb, i ∉ is) : Cur H' r vb code := by
  obtain ⟨i, x, h1, h2, h3, h4, h5⟩ := h
  exact ⟨i, x, h1, box_chg h2 c k, h3.chg c k', h4, h5⟩
theorem l01New_w (vb : Value) (code : List Int) (hb : Rd Fl.u8 H vb code) (hl : code.length ≤ 1073741824) :
   wp (vcall C frz 75 [vb] H) (fun u H' => ∃ r, u = .pointer (some ⟨r, 0, some 0⟩) ∧ H.length ≤ r ∧ Cur H' r vb code ∧ Chg H H' []) := by
  rw [vcall_go (fn := Try.f75) Try.func75 rfl (by kernel_rfl) rfl]
  simp [hb.len]
  refine wp_joino (F := ?F) (k := ?k) (o := ?o) (Q := ?Q) (fun t H' => H' = H ∧ t 0 = vb ∧ ∃ h, t 3 = .int .i64 h) ?main ?rest
  case main =>
    intro rest
    refine wp_inv (fun n t H' => ∃ i : Nat, n = code.length - i ∧ i ≤ code.length ∧ t 0 = vb ∧ t 4 = .int .i64 i ∧ (∃ h, t 3 = .int .i64 h) ∧ H = H') ?_ (n := code.length)
      ⟨0, rfl, by omega, by simp, by simp, ⟨_, by simp; rfl⟩, rfl⟩
    rintro n t _ ⟨i, rfl, hi, t0, t4, ⟨h, t3⟩, rfl⟩ ih
    simp [t0, t3, t4, hb.len]
    refine wpg_dec ?_ ?_ <;> intro g1
    · simp [t0, t3, t4, g1]
      refine wp_dec ?_ ?_ <;> intro g2
      · have q1 := hb.idx (P := Try.prog) (ty := 28) (e := 5) (by simp) (i := (i : Int)) (by omega) (by omega)
        have r1 := hb.cell1 (P := Try.prog) (e := 5) rfl (by simp) g1
        simp at q1 r1
        simp [t0, t3, t4, q1, r1]
        refine ih (code.length - (i + 1)) _ _ ⟨i + 1, rfl, by omega, by simp [t0], ?_, ⟨_, by simp; rfl⟩, rfl⟩ (by omega)
        simp; rw [w64 (by omega) (by omega)]
      · simp [t0, t3, t4, -go_exit_blk]
        refine rest _ _ ?_
        exact ⟨rfl, by simp [t0], h, by simp [t3]⟩
    · simp [t0, t3, t4, g1, -go_exit_blk]
      refine rest _ _ ?_
      exact ⟨rfl, by simp [t0], h, by simp [t3]⟩
  case rest =>
    rintro t H' ⟨hH, t0, h, t3⟩
    rw [hH]
    simp [t0, t3, hb.one', hb.cells]
    exact ⟨⟨0, h, by omega, by simp, hb.app, fun hh => by have := hb.lt _ hh; omega, hl⟩, Chg.app _⟩
theorem l01Byte_w (c : Cur H r vb code) (hf : frz ≤ r) : wp (vcall C frz 124 [.pointer (some ⟨r, 0, some 0⟩)] H) (fun u H' => (∃ x : Nat, u = .int .i64 x ∧ x < 256) ∧ Chg H H' [r] ∧ Cur H' r vb code) := by
  obtain ⟨i, h, hi, hr, hb, hn, hl⟩ := c
  have lt := box_lt hr
  rw [vcall_go (fn := Try.f124) Try.func124 rfl (by kernel_rfl) rfl]
  simp [vnil, VM.look, hr, hf]
  generalize IntKind.i64.wrap (IntKind.i64.wrap (h * 6364136223846793005) + 1442695040888963407) = h1
  have hr1 := set_get (r' := ⟨[vb, .int .i64 i, .int .i64 h1], 0, 108⟩) hr
  have c1 : Chg H (H.set r ⟨[vb, .int .i64 i, .int .i64 h1], 0, 108⟩) [r] := chg_set _ _
  generalize H.set r ⟨[vb, .int .i64 i, .int .i64 h1], 0, 108⟩ = H1 at *
  have hb1 := hb.chg c1 (fun j hj hh => by have := List.mem_singleton.1 hh; subst this; exact hn hj)
  rw [go_draw (h := by kernel_rfl)]
  simp [vnil, VM.look, hr1]
  obtain ⟨x, hx⟩ : ∃ x : Nat, iand .i64 (ixor .i64 (ishr .i64 h1 33) (ishr .i64 h1 45)) 255 = x := ⟨_, (Int.toNat_of_nonneg (iand255 _).1).symm⟩
  have hx2 := (iand255 (ixor .i64 (ishr .i64 h1 33) (ishr .i64 h1 45))).2
  rw [hx] at hx2
  simp [hx]
  rw [go_draw (h := by kernel_rfl)]
  simp [vnil, VM.look, hr1, hb1.len]
  refine wp_dec ?_ ?_ <;> intro g1
  · have q1 := hb1.idx (P := Try.prog) (ty := 28) (e := 5) (by simp) (i := (i : Int)) (by omega) (by omega)
    have r1 := hb1.cell1 (P := Try.prog) (e := 5) rfl (by simp) g1
    simp at q1 r1
    simp
    rw [go_draw (h := by kernel_rfl)]
    have e1 : IntKind.i64.wrap ((i : Int) + 1) = ((i + 1 : Nat) : Int) := by rw [w64 (by omega) (by omega)]; omega
    simp only [vnil, VM.look, hr1, q1, r1]
    simp [vnil, VM.look, hr1, q1, r1, hf]
    generalize hz : IntKind.i64.wrap ((x : Int) + IntKind.i64.wrap code[i]) = z
    obtain ⟨y, hy⟩ : ∃ y : Nat, iand .i64 z 255 = y := ⟨_, (Int.toNat_of_nonneg (iand255 _).1).symm⟩
    have hy2 := (iand255 z).2
    rw [hy] at hy2
    rw [hy, e1]
    have hr2 := set_get (r' := ⟨[vb, .int .i64 (i + 1 : Nat), .int .i64 h1], 0, 108⟩) hr1
    have c2 : Chg H1 (H1.set r ⟨[vb, .int .i64 (i + 1 : Nat), .int .i64 h1], 0, 108⟩) [r] := chg_set _ _
    exact ⟨⟨y, rfl, by omega⟩, c1.trans c2, i + 1, h1, by omega, hr2, hb1.chg c2 (fun j hj hh => by have := List.mem_singleton.1 hh; subst this; exact hn hj), hn, hl⟩
  · simp
    exact ⟨⟨x, rfl, by omega⟩, c1, i, h1, hi, hr1, hb1, hn, hl⟩
theorem tmod_lt' {x n : Nat} (hn : 0 < n) : (x : Int).tmod (n : Int) = ((x % n : Nat) : Int) := by rw [Int.tmod_eq_emod_of_nonneg (by omega)]; rfl
theorem l01Below_w (c : Cur H r vb code) (hf : frz ≤ r) (n : Nat) (hn : 0 < n) (hn2 : n < 2147483648) : wp (vcall C frz 76 [.pointer (some ⟨r, 0, some 0⟩), .int .i64 n] H) (fun u H' => (∃ x : Nat, u = .int .i64 x ∧ x < n) ∧ Chg H H' [r] ∧ Cur H' r vb code) := by
  have hn0 : ¬ (n : Int) ≤ 0 := by omega
  have hn1 : ¬ n = 0 := by omega
  rw [vcall_go (fn := Try.f76) Try.func76 rfl (by kernel_rfl) rfl]
  simp [hn0, hn1]
  refine wp_dec ?_ ?_ <;> intro g1
  · simp
    refine wp_thn (l01Byte_w c hf) ?_
    rintro _ H1 ⟨⟨x, rfl, hx⟩, c1, d1⟩
    have hm : x % n < n := Nat.mod_lt _ hn
    have e1 : IntKind.i64.wrap ((x % n : Nat) : Int) = ((x % n : Nat) : Int) := w64 (by omega) (by omega)
    simp [hn1, tmod_lt' hn, e1]
    exact ⟨⟨x % n, by simp, hm⟩, c1, d1⟩
  · simp
    refine wp_thn (l01Byte_w c hf) ?_
    rintro _ H1 ⟨⟨x, rfl, hx⟩, c1, d1⟩
    simp
    refine wp_thn (l01Byte_w d1 hf) ?_
    rintro _ H2 ⟨⟨y, rfl, hy⟩, c2, d2⟩
    simp
    refine wp_thn (l01Byte_w d2 hf) ?_
    rintro _ H3 ⟨⟨z, rfl, hz⟩, c3, d3⟩
    simp
    refine wp_thn (l01Byte_w d3 hf) ?_
    rintro _ H4 ⟨⟨w, rfl, hw⟩, c4, d4⟩
    obtain ⟨q, hq⟩ : ∃ q : Nat, q = x * 16777216 + y * 65536 + z * 256 + w := ⟨_, rfl⟩
    have e1 : IntKind.i64.wrap (IntKind.i64.wrap (IntKind.i64.wrap (IntKind.i64.wrap ((x : Int) * 16777216) + IntKind.i64.wrap ((y : Int) * 65536)) + IntKind.i64.wrap ((z : Int) * 256)) + (w : Int)) = (q : Int) := by
      rw [w64 (x := (x : Int) * 16777216) (by omega) (by omega), w64 (x := (y : Int) * 65536) (by omega) (by omega), w64 (x := (z : Int) * 256) (by omega) (by omega), w64 (x := (x : Int) * 16777216 + (y : Int) * 65536) (by omega) (by omega), w64 (x := (x : Int) * 16777216 + (y : Int) * 65536 + (z : Int) * 256) (by omega) (by omega), w64 (by omega) (by omega)]
      omega
    have hm : q % n < n := Nat.mod_lt _ hn
    have e2 : IntKind.i64.wrap ((q % n : Nat) : Int) = ((q % n : Nat) : Int) := w64 (by omega) (by omega)
    simp [hn1, e1, tmod_lt' hn, e2]
    exact ⟨⟨q % n, by simp, hm⟩, c1.trans (c2.trans (c3.trans c4)), d4⟩
theorem l01Once_w (c : Cur H r vb code) (hf : frz ≤ r) (n : Nat) (hn : 0 < n) (hn2 : n < 2147483648) : wp (vcall C frz 122 [.pointer (some ⟨r, 0, some 0⟩), .int .i64 n] H) (fun u H' => (∃ b : Bool, u = .bool b) ∧ Chg H H' [r] ∧ Cur H' r vb code) := by
  rw [vcall_go (fn := Try.f122) Try.func122 rfl (by kernel_rfl) rfl]
  simp
  refine wp_thn (l01Below_w c hf n hn hn2) ?_
  rintro _ H1 ⟨⟨x, rfl, hx⟩, c1, d1⟩
  simp
  exact ⟨by omega, c1, d1⟩
theorem l01PickInt_w (c : Cur H r vb code) (hf : frz ≤ r) (v : Value) (xs : List Int) (hI : IsI H v xs) (hv : r ∉ ids v) (h0 : 0 < xs.length) (hl : xs.length < 2147483648) :
   wp (vcall C frz 140 [.pointer (some ⟨r, 0, some 0⟩), v] H) (fun u H' => (∃ x, u = .int .i64 x ∧ x ∈ xs) ∧ Chg H H' [r] ∧ Cur H' r vb code) := by
  rw [vcall_go (fn := Try.f140) Try.func140 rfl (by kernel_rfl) rfl]
  simp [hI.len]
  refine wp_thn (l01Below_w c hf xs.length h0 hl) ?_
  rintro _ H1 ⟨⟨x, rfl, hx⟩, c1, d1⟩
  have hI1 := (hI.rd.chg c1 (fun i hi hh => by have := List.mem_singleton.1 hh; subst this; exact hv hi)).isI
  have q1 := hI1.idx (P := Try.prog) (ty := 22) (e := 3) (by simp) (i := (x : Int)) (by omega) (by omega)
  have r1 := (hI1.load (P := Try.prog) (e := 3) (by simp) hx).trans (by rw [getD_get _ _ hx])
  simp only [Int.toNat_natCast] at q1
  simp [q1, r1]
  exact ⟨c1, d1⟩
theorem l02Grid_w (c : Cur H r vb code) (hf : frz ≤ r) : wp (vcall C frz 114 [.pointer (some ⟨r, 0, some 0⟩)] H) (fun u H' => (∃ w h, u = .agg #[.int .i64 w, .int .i64 h] ∧ okG w h) ∧ Chg H H' [r] ∧ Cur H' r vb code) := by
  have lt := c.lt
  have nb : ∀ (L : Heap), Cur (H ++ L) r vb code := fun L => by
    obtain ⟨i, x, h1, h2, h3, h4, h5⟩ := c
    exact ⟨i, x, h1, get_app' h2 L, h3.app, h4, h5⟩
  rw [vcall_go (fn := Try.f114) Try.func114 rfl (by kernel_rfl) rfl]
  simp
  have i1 := IsI.at (H := H) (L := [⟨[.int .i64 0, .int .i64 0], 0, 31⟩, ⟨[.int .i64 1, .int .i64 2, .int .i64 2, .int .i64 3, .int .i64 3, .int .i64 4], 0, 3⟩]) (k := 1) (xs := [1, 2, 2, 3, 3, 4]) rfl
  refine wp_thn (l01PickInt_w (nb _) hf _ [1, 2, 2, 3, 3, 4] i1 (by simp; omega) (by simp) (by simp)) ?_
  rintro _ H1 ⟨⟨w, rfl, hw⟩, c1, d1⟩
  have cH : Chg H H1 [r] := (Chg.app [r]).trans c1
  have l0 := cH.1
  have b0 : H1[H.length]? = some ⟨[.int .i64 0, .int .i64 0], 0, 31⟩ := box_chg (by simp) c1 (by simp; omega)
  have lt1 := d1.lt
  have nb1 : ∀ (L : Heap), Cur (H1 ++ L) r vb code := fun L => by
    obtain ⟨i, x, h1, h2, h3, h4, h5⟩ := d1
    exact ⟨i, x, h1, get_app' h2 L, h3.app, h4, h5⟩
  simp
  have i2 := IsI.at0 (H := H1) (L := [⟨[.int .i64 1, .int .i64 2, .int .i64 2, .int .i64 3, .int .i64 3, .int .i64 4], 0, 3⟩]) (xs := [1, 2, 2, 3, 3, 4]) rfl
  refine wp_thn (l01PickInt_w (nb1 _) hf _ [1, 2, 2, 3, 3, 4] i2 (by simp; omega) (by simp) (by simp)) ?_
  rintro _ H2 ⟨⟨h, rfl, hh⟩, c2, d2⟩
  have b2 : H2[H.length]? = some ⟨[.int .i64 0, .int .i64 0], 0, 31⟩ := box_chg (get_app' b0 _) c2 (by simp; omega)
  have g2 := set_get (r' := ⟨[.int .i64 w, .int .i64 h], 0, 31⟩) b2
  have hF : frz ≤ H.length := by omega
  simp [VM.look, b2, g2, hF]
  have hwr : 1 ≤ w ∧ w ≤ 4 := by simp at hw; omega
  have hhr : 1 ≤ h ∧ h ≤ 4 := by simp at hh; omega
  have c3 : Chg H2 (H2.set H.length ⟨[.int .i64 w, .int .i64 h], 0, 31⟩) [H.length] := chg_set _ _
  refine ⟨⟨w, h, ⟨rfl, rfl⟩, hwr, hhr⟩, (cH.trans ((Chg.app [r]).trans c2)).trans' c3 (fun i hi => .inr (by simp at hi; omega)), ?_⟩
  obtain ⟨i, x, h1, h2, h3, h4, h5⟩ := d2
  have vlt := fun i (hi : i ∈ ids vb) => (show i < H.length by obtain ⟨_, _, _, _, k3, _⟩ := c; exact k3.lt i hi)
  exact ⟨i, x, h1, box_chg h2 c3 (by simp; omega), h3.chg c3 (fun j hj hh => by have := vlt j hj; simp at hh; omega), h4, h5⟩
theorem Cur.app (c : Cur H r vb code) (L : Heap) : Cur (H ++ L) r vb code := by
  obtain ⟨i, x, h1, h2, h3, h4, h5⟩ := c
  exact ⟨i, x, h1, get_app' h2 L, h3.app, h4, h5⟩
theorem Cur.vlt (c : Cur H r vb code) : ∀ i ∈ ids vb, i < H.length := by
  obtain ⟨_, _, _, _, k3, _⟩ := c; exact k3.lt
/-- a mesh that has been drawn -/
def MeshD' (H : Heap) (is : List Nat) (u : Value) (H' : Heap) : Prop := ∃ v w h b, u = .agg #[.int .i64 w, .int .i64 h, v] ∧ meshOk w h b ∧ Ow Fl.int 3 H' v b ∧ (∀ i ∈ ids v, H.length ≤ i) ∧ Chg H H' is
theorem l03Mesh_w (c : Cur H r vb code) (hf : frz ≤ r) : wp (vcall C frz 74 [.pointer (some ⟨r, 0, some 0⟩)] H) (fun u H' => MeshD' H [r] u H' ∧ Cur H' r vb code) := by
  have lt := c.lt
  have hF : frz ≤ H.length := by omega
  rw [vcall_go (fn := Try.f74) Try.func74 rfl (by kernel_rfl) rfl]
  simp
  refine wp_thn (l02Grid_w (c.app _) hf) ?_
  rintro _ H1 ⟨⟨w, h, rfl, hg⟩, c1, d1⟩
  have cH : Chg H H1 [r] := (Chg.app [r]).trans c1
  have l0 := cH.1
  have lt1 := d1.lt
  have b0 : H1[H.length]? = some ⟨[.int .i64 0, .int .i64 0, .slice none 0 0], 0, 33⟩ := box_chg (by simp) c1 (by simp; omega)
  have l1 := box_lt b0
  simp [VM.look, hF, Nat.le_trans hF l0]
  refine wp_thn (l01Once_w (d1.app _) hf 3 (by decide) (by decide)) ?_
  rintro _ H2 ⟨⟨bb, rfl⟩, c2, d2⟩
  have b2 : H2[H.length]? = some ⟨[.int .i64 0, .int .i64 0, .slice none 0 0], 0, 33⟩ := box_chg (get_app' b0 _) c2 (by simp; omega)
  have b3 : H2[H1.length]? = some ⟨[.int .i64 w, .int .i64 h, .slice none 0 0], 0, 33⟩ := box_chg (by simp) c2 (by simp; omega)
  have cH2 : Chg H H2 [r] := cH.trans ((Chg.app [r]).trans c2)
  have vlt := c.vlt
  have hne : H1.length ≠ H.length := by omega
  simp
  -- what is handed back
  have fin : ∀ (H' : Heap) (v : Value) (b : List Int), H'[H.length]? = some ⟨[.int .i64 0, .int .i64 0, .slice none 0 0], 0, 33⟩ → Cur H' r vb code → Ow Fl.int 3 H' v b → (∀ i ∈ ids v, H.length + 1 ≤ i) → Chg H H' [r] → meshOk w h b →
      MeshD' H [r] (.agg #[.int .i64 w, .int .i64 h, v]) (H'.set H.length ⟨[.int .i64 w, .int .i64 h, v], 0, 33⟩) ∧ Cur (H'.set H.length ⟨[.int .i64 w, .int .i64 h, v], 0, 33⟩) r vb code := by
    intro H' v b q1 q2 q3 q4 q5 q6
    refine ⟨⟨v, w, h, b, rfl, q6, q3.chg (chg_set _ _) (fun i hi hh => by have := q4 i hi; simp at hh; omega), fun i hi => by have := q4 i hi; omega, q5.trans' (chg_set _ _) (fun i hi => .inr (by simp at hi; omega))⟩, ?_⟩
    exact q2.chg (chg_set _ _) (by simp; omega) (fun i hi hh => by have := vlt i hi; simp at hh; omega)
  refine wp_bool ?_ ?_ <;> intro g1
  · simp
    refine wp_joino (F := ?F) (k := ?k) (o := ?o) (Q := ?Q) (fun t H' => t 2 = .pointer (some ⟨H.length, 0, some 0⟩) ∧ t 3 = .pointer (some ⟨H1.length, 0, some 0⟩) ∧ ∃ v b, H'[H.length]? = some ⟨[.int .i64 0, .int .i64 0, .slice none 0 0], 0, 33⟩ ∧
       H'[H1.length]? = some ⟨[.int .i64 w, .int .i64 h, v], 0, 33⟩ ∧ Cur H' r vb code ∧ Ow Fl.int 3 H' v b ∧ (∀ i ∈ ids v, H.length + 1 ≤ i ∧ i ≠ H1.length) ∧ Chg H H' [r] ∧ meshOk w h b) ?main ?rest
    case main =>
      intro rest
      obtain ⟨N, hN⟩ : ∃ N : Nat, cnt w h = N := ⟨(cnt w h).toNat, by have := cnt_range w h; omega⟩
      have hN2 : N ≤ 16 := by have := cnt_range w h; omega
      have nc := fun F L => (sNodeCount_c (frz := F) (H := L) w h).trans (by rw [hN])
      have e4 : IntKind.i64.wrap (4 * (N : Int)) = 4 * (N : Int) := w64 (by omega) (by omega)
      refine wp_inv (fun n t H' => ∃ (i : Nat) (v : Value) (b : List Int), n = 4 * N - i ∧ i ≤ 4 * N ∧ t 0 = .pointer (some ⟨r, 0, some 0⟩) ∧ t 2 = .pointer (some ⟨H.length, 0, some 0⟩) ∧ t 3 = .pointer (some ⟨H1.length, 0, some 0⟩) ∧ t 4 = .int .i64 i ∧
         H'[H.length]? = some ⟨[.int .i64 0, .int .i64 0, .slice none 0 0], 0, 33⟩ ∧
         H'[H1.length]? = some ⟨[.int .i64 w, .int .i64 h, v], 0, 33⟩ ∧ Cur H' r vb code ∧ Ow Fl.int 3 H' v b ∧ (∀ i ∈ ids v, H.length + 1 ≤ i ∧ i ≠ H1.length) ∧ Chg H H' [r] ∧ meshOk w h b ∧ b.length ≤ i ∧ ∀ x ∈ b, x < i) ?_ (n := 4 * N)
        ⟨0, .slice none 0 0, [], rfl, by omega, by simp, by simp, by simp, by simp, b2, b3, d2, .inl ⟨rfl, rfl⟩, by simp, cH2, ⟨by simp, hg⟩, by simp, by simp⟩
      rintro n t H' ⟨i, v, b, rfl, hi, t0, t2, t3, t4, b2, b3, d2, o, nv, ch, hm, hbl, hbi⟩ ih
      have k3 := box_lt b3
      have ltd := d2.lt
      have one := And.intro o.rd.one' o.rd.cells
      have lo := o.lt
      simp [t0, t2, t3, t4, VM.look, b3, nc, e4]
      refine wp_dec ?_ ?_ <;> intro g2
      · have hi2 : i < 4 * N := by omega
        simp [t0, t2, t3, t4, VM.look, b3, l03Leads_c]
        refine wpg_dec ?_ ?_ <;> intro g3
        · simp [t0, t2, t3, t4, g3]
          refine wp_thn (l01Once_w d2 hf 9 (by decide) (by decide)) ?_
          rintro _ H3 ⟨⟨b9, rfl⟩, c3, d3⟩
          have s2 := box_chg b2 c3 (by simp; omega)
          have s3 := box_chg b3 c3 (by simp; omega)
          have o3 := o.chg c3 (fun j hj hh => by have := nv j hj; simp at hh; omega)
          have ch3 := ch.trans c3
          simp
          refine wp_bool ?_ ?_ <;> intro g4
          · obtain ⟨v', H4, hap, o4, c4, n4⟩ := o3.push (P := Try.prog) (frz := frz) (ty := 22) (a := (i : Int)) (by simp) rfl (by omega) (fun j hj => by have := nv j hj; omega)
            simp only [Fl.int_f] at hap
            have p3 : H4[H1.length]? = some ⟨[.int .i64 w, .int .i64 h, v], 0, 33⟩ := box_chg s3 c4 (fun hh => (nv _ hh).2 rfl)
            have p2 : H4[H.length]? = some ⟨[.int .i64 0, .int .i64 0, .slice none 0 0], 0, 33⟩ := box_chg s2 c4 (fun hh => by have := nv _ hh; omega)
            have c5 : Chg H4 (H4.set H1.length ⟨[.int .i64 w, .int .i64 h, v'], 0, 33⟩) [H1.length] := chg_set _ _
            have p4 := set_get (r' := ⟨[.int .i64 w, .int .i64 h, v'], 0, 33⟩) p3
            have k4 := box_lt s3
            have nv' : ∀ j ∈ ids v', H.length + 1 ≤ j ∧ j ≠ H1.length := fun j hj => by
              rcases n4 j hj with h1 | h1
              · exact nv j h1
              · omega
            have one4 := And.intro o4.rd.one' o4.rd.cells
            have d4 := d3.chg c4 (fun hh => by have := nv _ hh; omega) (fun j hj hh => by have := nv _ hh; have := vlt j hj; omega)
            have d5 := d4.chg c5 (by simp; omega) (fun j hj hh => by have := vlt j hj; simp at hh; omega)
            have hfr : frz ≤ H1.length := by omega
            have hm' : meshOk w h (b ++ [(i : Int)]) := by
              obtain ⟨m1, m2, m3⟩ := (meshOk_iff w h b).1 hm
              refine (meshOk_iff w h _).2 ⟨m1, fun x hx => ?_, ?_⟩
              · rcases List.mem_append.1 hx with hx | hx
                · exact m2 x hx
                · rw [List.mem_singleton.1 hx]; exact g3
              · rw [List.pairwise_append]
                exact ⟨m3, by simp, fun x hx y hy => by rw [List.mem_singleton.1 hy]; exact hbi x hx⟩
            simp [t0, t2, t3, t4, VM.look, s3, one, hap, p3, one4, hfr]
            refine ih (4 * N - (i + 1)) _ _ ⟨i + 1, v', b ++ [(i : Int)], rfl, by omega, by simp [t0], by simp [t2], by simp [t3], ?_, box_chg p2 c5 (by simp; omega), p4, d5, o4.chg c5 (fun j hj hh => (nv' j hj).2 (List.mem_singleton.1 hh)), nv', (ch3.trans' c4 (fun j hj => .inr (by have := nv j hj; omega))).trans' c5 (fun j hj => .inr (by simp at hj; omega)), hm', by simp; omega, fun x hx => ?_⟩ (by omega)
            · simp; rw [w64 (by omega) (by omega)]
            · rcases List.mem_append.1 hx with hx | hx
              · have := hbi x hx; omega
              · rw [List.mem_singleton.1 hx]; omega
          · simp [t0, t2, t3, t4]
            refine ih (4 * N - (i + 1)) _ _ ⟨i + 1, v, b, rfl, by omega, by simp [t0], by simp [t2], by simp [t3], ?_, s2, s3, d3, o3, nv, ch3, hm, by omega, fun x hx => by have := hbi x hx; omega⟩ (by omega)
            simp; rw [w64 (by omega) (by omega)]
        · simp [t0, t2, t3, t4, g3]
          refine ih (4 * N - (i + 1)) _ _ ⟨i + 1, v, b, rfl, by omega, by simp [t0], by simp [t2], by simp [t3], ?_, b2, b3, d2, o, nv, ch, hm, by omega, fun x hx => by have := hbi x hx; omega⟩ (by omega)
          simp; rw [w64 (by omega) (by omega)]
      · simp [t0, t2, t3, t4, -go_exit_blk]
        refine rest _ _ ?_
        exact ⟨by simp [t2], by simp [t3], v, b, b2, b3, d2, o, nv, ch, hm⟩
    case rest =>
      rintro t H' ⟨t2, t3, v, b, b2, b3, d2, o, nv, ch, hm⟩
      have g2 := set_get (r' := ⟨[.int .i64 w, .int .i64 h, v], 0, 33⟩) b2
      have one := And.intro o.rd.one' o.rd.cells
      simp [t2, t3, VM.look, b3, b2, g2, hF, one]
      exact fin H' v b b2 d2 o (fun i hi => (nv i hi).1) ch hm
  · have g2 := set_get (r' := ⟨[.int .i64 w, .int .i64 h, .slice none 0 0], 0, 33⟩) b2
    simp [VM.look, b3, b2, g2, hF]
    exact fin H2 _ [] b2 d2 (.inl ⟨rfl, rfl⟩) (by simp) cH2 ⟨by simp, hg⟩
theorem drawMesh_w (vb : Value) (code : List Int) (hb : Rd Fl.u8 H vb code) (hl : code.length ≤ 1073741824) : wp (vcall C frz 22 [vb] H) (fun u H' => MeshD' H [] u H') := by
  rw [vcall_go (fn := Try.f22) Try.func22 rfl (by kernel_rfl) rfl]
  simp
  refine wp_thn (l01New_w vb code hb.app hl) ?_
  rintro _ H1 ⟨r, rfl, hr, c1, ch1⟩
  have cH : Chg H H1 [] := (Chg.app []).trans ch1
  have b1 : H1[H.length]? = some ⟨[.int .i64 0, .int .i64 0, .slice none 0 0], 0, 33⟩ := box_chg (by simp) ch1 (by simp)
  simp at hr
  simp
  refine wp_thn (l03Mesh_w c1 (by omega)) ?_
  rintro _ H2 ⟨⟨v, w, h, b, rfl, hm, o, nv, c2⟩, d2⟩
  have b2 := box_chg b1 c2 (by simp; omega)
  have g2 := set_get (r' := ⟨[.int .i64 w, .int .i64 h, v], 0, 33⟩) b2
  have one := And.intro o.rd.one' o.rd.cells
  have l1 := cH.1
  have k1 := box_lt b1
  simp [VM.look, b2, g2, one]
  exact ⟨v, w, h, b, rfl, hm, o.chg (chg_set _ _) (fun i hi hh => by have := nv i hi; simp at hh; omega), fun i hi => by have := nv i hi; omega, (cH.trans' c2 (fun i hi => .inr (by simp at hi; omega))).trans' (chg_set _ _) (fun i hi => .inr (by simp at hi; omega))⟩
theorem drawPlaces_w (vb : Value) (code : List Int) (hb : Rd Fl.u8 H vb code) (hl : code.length ≤ 1073741824) :
   wp (vcall C frz 23 [vb] H) (fun u H' => ∃ xs : List Int, Ow Fl.int 3 H' u xs ∧ xs.length = 12 ∧ (∀ x ∈ xs, 0 ≤ x ∧ x < 10000) ∧ (∀ i ∈ ids u, H.length ≤ i) ∧ Chg H H' []) := by
  rw [vcall_go (fn := Try.f23) Try.func23 rfl (by kernel_rfl) rfl]
  simp
  refine wp_thn (l01New_w vb code hb hl) ?_
  rintro _ H1 ⟨r, rfl, hr, c1, ch1⟩
  have lt1 := c1.lt
  have vlt := hb.lt
  simp
  refine wp_inv (fun n t H' => ∃ (i : Nat) (u : Value) (xs : List Int), n = 12 - i ∧ i ≤ 12 ∧ t 3 = .pointer (some ⟨r, 0, some 0⟩) ∧ t 4 = u ∧ t 5 = .int .i64 i ∧ Cur H' r vb code ∧ Ow Fl.int 3 H' u xs ∧ xs.length = i ∧ (∀ x ∈ xs, 0 ≤ x ∧ x < 10000) ∧ (∀ j ∈ ids u, H.length ≤ j ∧ j ≠ r) ∧ Chg H H' []) ?_ (n := 12)
    ⟨0, .slice (some ⟨H1.length, 0, some 0⟩) 0 0, [], rfl, by omega, by simp, by simp, by simp, c1.app _, Ow.new0 (D := Fl.int) (xs := []) rfl rfl rfl rfl, rfl, by simp, by have := ch1.1; simp; omega, ch1.trans (Chg.app [])⟩
  rintro n t H' ⟨i, u, xs, rfl, hi, t3, t4, t5, c, o, hx, hr2, nu, ch⟩ ih
  simp [t3, t4, t5]
  refine wp_dec ?_ ?_ <;> intro g1
  · simp [t3, t4, t5]
    have bl := l01Below_w (frz := H.length) c hr 10000 (by decide) (by decide)
    refine wp_thn (by simpa using bl) ?_
    rintro _ H2 ⟨⟨x, rfl, hx2⟩, c2, d2⟩
    have o2 := o.chg c2 (fun j hj hh => (nu j hj).2 (List.mem_singleton.1 hh))
    obtain ⟨u', H3, hap, o3, c3, n3⟩ := o2.push (P := Try.prog) (frz := H.length) (ty := 22) (a := (x : Int)) (by simp) rfl (by omega) (fun j hj => (nu j hj).1)
    simp only [Fl.int_f] at hap
    have l2 := ch.1
    have l3 := c2.1
    have ltr := d2.lt
    simp [t3, t4, t5, hap]
    refine ih (12 - (i + 1)) _ _ ⟨i + 1, u', xs ++ [(x : Int)], rfl, by omega, by simp [t3], by simp, ?_, d2.chg c3 (fun hh => (nu _ hh).2 rfl) (fun j hj hh => by have := (nu j hh).1; have := vlt j hj; omega), o3, by simp [hx], fun y hy => ?_, fun j hj => ?_, (ch.trans' c2 (fun j hj => .inr (by simp at hj; omega))).trans' c3 (fun j hj => .inr ((nu j hj).1))⟩ (by omega)
    · simp; rw [w64 (by omega) (by omega)]
    · rcases List.mem_append.1 hy with hy | hy
      · exact hr2 y hy
      · rw [List.mem_singleton.1 hy]; omega
    · rcases n3 j hj with h1 | h1
      · exact nu j h1
      · omega
  · simp [t4]
    exact ⟨xs, o, by omega, hr2, fun j hj => (nu j hj).1, ch⟩
theorem big_c (v : Value) (code : List Int) (hb : Rd Fl.u8 H v code) : vcall C frz 21 [v] H = some (.bool (decide ((1048576 : Int) < code.length)), H) := by
  rw [vcall_go (fn := Try.f21) Try.func21 rfl (by kernel_rfl) rfl]
  simp [hb.len]
end Go.Proofs.Ytnakhkfgheapoaa.V
/-! Draws: bytes of an argument. -/
set_option linter.all false
namespace Go.Proofs.Ytnakhkfgheapoaa.V
open Go Go.VM Go.Proofs
theorem cellsOf_u8 : ∀ xs : List Int, cellsOf Fl.u8 xs = xs.map (.int .u8)
  | [] => rfl
  | a :: l => by rw [cellsOf_cons, cellsOf_u8 l]; rfl
theorem IsS_bytes {H : Heap} {v : Value} {xs : List Int} (h : IsS (Kn.int .u8) H v xs) : Rd Fl.u8 H v xs := by
  rcases h with h | ⟨id, off, r, h1, h2, h3, h4⟩
  · exact .inl h
  · have hs : (Kn.int .u8).sz = 1 := rfl
    rw [hs] at h3 h4
    have e0 : cellsOf Fl.u8 xs = xs.map (.int .u8) := cellsOf_u8 xs
    refine .inr ⟨id, off, r, h1, h2, ?_, by simpa using h3⟩
    rw [e0]
    refine List.ext_getElem? fun j => ?_
    by_cases hj : j < xs.length
    · have := h4 j xs[j] (by simp [hj])
      have e : (r.cells.drop (off + j * 1)).take 1 = [.int .u8 xs[j]] := this
      have e2 := congrArg (·[0]?) e
      simp at e2
      rw [List.getElem?_take, if_pos (by simpa using hj), List.getElem?_drop]
      simp [e2, hj]
    · rw [List.getElem?_take, if_neg (by simpa using hj), List.getElem?_eq_none (by rw [List.length_map]; omega)]
end Go.Proofs.Ytnakhkfgheapoaa.V
/-! Channels of a mesh. -/
set_option linter.all false
namespace Go.Proofs.Ytnakhkfgheapoaa.V
open Go Go.VM Go.Proofs
set_option maxRecDepth 10000
variable {frz : Nat} {H : Heap}
theorem ow_ix0 {v : Value} {xs : List Int} {e : TypeId} (o : Ow Fl.int e H v xs) {i : Nat} (h1 : i < xs.length) : vindexAddr Try.prog H 22 v (.int .i64 (i : Nat)) = some (elp v i) ∧ vload Try.prog H 3 (elp v i) = some (.int .i64 xs[i]) := by
  have h2 := o.rd.isI.idx (P := Try.prog) (ty := 22) (e := 3) (by simp) (i := (i : Int)) (by omega) (by omega)
  have h3 := (o.rd.isI.load (P := Try.prog) (e := 3) (by simp) h1).trans (by rw [getD_get _ _ h1])
  exact ⟨by simpa using h2, h3⟩
def chN (w h : Int) (b : List Int) (m : Nat) : List Int := ((List.range m).filter (fun c : Nat => decide (has w h b (c : Int)))).map (fun c : Nat => (c : Int))
theorem chN_succ (w h : Int) (b : List Int) (m : Nat) : chN w h b (m + 1) = if has w h b (m : Int) then chN w h b m ++ [(m : Int)] else chN w h b m := by
  unfold chN
  rw [List.range_succ, List.filter_append, List.map_append]
  by_cases hh : has w h b (m : Int)
  · rw [if_pos hh]; simp [hh]
  · rw [if_neg hh]; simp [hh]
theorem chN_len (w h : Int) (b : List Int) : ∀ m, (chN w h b m).length ≤ m
  | 0 => Nat.le_refl _
  | m + 1 => by
    rw [chN_succ]
    have := chN_len w h b m
    split <;> simp <;> omega
theorem chN_mem {w h : Int} {b : List Int} {m : Nat} {x : Int} (hx : x ∈ chN w h b m) : has w h b x := by
  unfold chN at hx
  obtain ⟨c, hc, rfl⟩ := List.mem_map.1 hx
  simpa using (List.mem_filter.1 hc).2
def chans (w h : Int) (b : List Int) : List Int := if meshOk w h b then chN w h b (4 * (cnt w h).toNat) else []
theorem channels_w (w h : Int) (v : Value) (b : List Int) (hI : IsI H v b) (hl : b.length ≤ 1073741824) :
   wp (vcall C frz 53 [.agg #[.int .i64 w, .int .i64 h, v]] H) (fun u H' => Ow Fl.int 3 H' u (chans w h b) ∧ (∀ i ∈ ids u, H.length ≤ i) ∧ Chg H H' []) := by
  have hc := cnt_range w h
  obtain ⟨N, hN⟩ : ∃ N : Nat, cnt w h = N := ⟨(cnt w h).toNat, by omega⟩
  have hN2 : N ≤ 16 := by omega
  have hNt : (cnt w h).toNat = N := by omega
  rw [vcall_go (fn := Try.f53) Try.func53 rfl (by kernel_rfl) rfl]
  have e4 : IntKind.i64.wrap (4 * (N : Int)) = ((4 * N : Nat) : Int) := by rw [w64 (by omega) (by omega)]; omega
  obtain ⟨M, hM⟩ : ∃ M, M = 4 * N := ⟨_, rfl⟩
  rw [← hM] at e4
  simp [nodeCount_c, hI.one', hI.cells, hN, e4]
  refine wp_inv (fun n t H' => ∃ (i : Nat) (u : Value), n = M - i ∧ i ≤ M ∧ t 1 = .pointer (some ⟨H.length, 0, some 0⟩) ∧ t 3 = u ∧ t 9 = .int .i64 M ∧ t 10 = .int .i64 i ∧ H'[H.length]? = some ⟨[.int .i64 w, .int .i64 h, v], 0, 33⟩ ∧
      Ow Fl.int 3 H' u (if meshOk w h b then chN w h b i else []) ∧ (∀ j ∈ ids u, H.length + 1 ≤ j) ∧ Chg H H' []) ?_ (n := M)
    ⟨0, .slice (some ⟨H.length + 1, 0, some 0⟩) 0 0, rfl, by omega, by simp, by simp, by simp, by simp, by simp, by
      have : (if meshOk w h b then chN w h b 0 else []) = [] := by split <;> rfl
      rw [this]; exact Ow.new (D := Fl.int) (e := 3) (xs := []) (H := H) (k := 1) (by simp) rfl rfl rfl, by simp, Chg.app _⟩
  rintro n t H' ⟨i, u, rfl, hi, t1, t3, t9, t10, b0, o, nu, ch⟩ ih
  have hI1 := ((hI.rd).chg ch (by simp)).isI
  simp [t1, t3, t9, t10]
  refine wp_dec ?_ ?_ <;> intro g1
  · simp [t1, t3, t9, t10, VM.look, b0, hI.one', hI.cells, hasChannel_c _ _ _ _ _ hI1 hl, -Bool.decide_and]
    have e1 : ∀ [Inhabited Unit], IntKind.i64.wrap ((i : Int) + 1) = ((i + 1 : Nat) : Int) := by intro _; rw [w64 (by omega) (by omega)]; omega
    refine wp_dec ?_ ?_ <;> intro g2
    · have hll : (if meshOk w h b then chN w h b i else []).length ≤ i := by rw [if_pos g2.1]; exact chN_len _ _ _ _
      obtain ⟨u', H2, hap, o2, c2, n2⟩ := o.push (P := Try.prog) (frz := H.length) (ty := 22) (a := (i : Int)) (by simp) rfl (by omega) (fun j hj => by have := nu j hj; omega)
      simp only [Fl.int_f] at hap
      have l0 := ch.1
      have k0 := box_lt b0
      simp [t1, t3, t9, t10, hap]
      refine ih (M - (i + 1)) _ _ ⟨i + 1, u', rfl, by omega, by simp [t1], by simp, by simp [t9], by simp [e1], box_chg b0 c2 (fun hh => by have := nu _ hh; omega), ?_, fun j hj => ?_, ch.trans' c2 (fun j hj => .inr (by have := nu j hj; omega))⟩ (by omega)
      · rw [if_pos g2.1] at o2 ⊢
        rw [chN_succ, if_pos g2.2]; exact o2
      · rcases n2 j hj with h1 | h1
        · exact nu j h1
        · omega
    · simp [t1, t3, t9, t10]
      refine ih (M - (i + 1)) _ _ ⟨i + 1, u, rfl, by omega, by simp [t1], by simp [t3], by simp [t9], by simp [e1], b0, ?_, nu, ch⟩ (by omega)
      by_cases hm : meshOk w h b
      · rw [if_pos hm] at o ⊢
        rw [chN_succ, if_neg (fun hh => g2 ⟨hm, hh⟩)]; exact o
      · rw [if_neg hm] at o ⊢; exact o
  · have him : i = M := by omega
    simp [t3]
    refine ⟨?_, fun j hj => by have := nu j hj; omega, ch⟩
    unfold chans; rw [hNt, ← hM, ← him]; exact o
theorem sChannels_w (w h : Int) (v : Value) (b : List Int) (hI : IsI H v b) (hl : b.length ≤ 1073741824) :
   wp (vcall C frz 55 [.agg #[.int .i64 w, .int .i64 h, v]] H) (fun u H' => Ow Fl.int 3 H' u (chans w h b) ∧ (∀ i ∈ ids u, H.length ≤ i) ∧ Chg H H' []) := by
  have hc := cnt_range w h
  obtain ⟨N, hN⟩ : ∃ N : Nat, cnt w h = N := ⟨(cnt w h).toNat, by omega⟩
  have hN2 : N ≤ 16 := by omega
  have hNt : (cnt w h).toNat = N := by omega
  rw [vcall_go (fn := Try.f55) Try.func55 rfl (by kernel_rfl) rfl]
  have e4 : IntKind.i64.wrap (4 * (N : Int)) = ((4 * N : Nat) : Int) := by rw [w64 (by omega) (by omega)]; omega
  obtain ⟨M, hM⟩ : ∃ M, M = 4 * N := ⟨_, rfl⟩
  rw [← hM] at e4
  simp [sMeshOk_c _ _ _ _ (hI.app _) hl, hI.one', hI.cells]
  refine wp_joino (F := ?F) (k := ?k) (o := ?o) (Q := ?Q) (fun t H' => t 3 = t 3 ∧ Ow Fl.int 3 H' (t 3) (chans w h b) ∧ (∀ j ∈ ids (t 3), H.length + 1 ≤ j) ∧ Chg H H' []) ?main ?rest
  case main =>
   intro rest
   refine wp_inv (fun n t H' => ∃ (i : Nat) (u : Value), n = M - i ∧ i ≤ M ∧ t 1 = .pointer (some ⟨H.length, 0, some 0⟩) ∧ t 3 = u ∧ t 4 = .bool (decide (meshOk w h b)) ∧ t 5 = .int .i64 i ∧ H'[H.length]? = some ⟨[.int .i64 w, .int .i64 h, v], 0, 33⟩ ∧
      Ow Fl.int 3 H' u (if meshOk w h b then chN w h b i else []) ∧ (∀ j ∈ ids u, H.length + 1 ≤ j) ∧ Chg H H' []) ?_ (n := M)
    ⟨0, .slice (some ⟨H.length + 1, 0, some 0⟩) 0 0, rfl, by omega, by simp, by simp, by simp, by simp, by simp, by
      have : (if meshOk w h b then chN w h b 0 else []) = [] := by split <;> rfl
      rw [this]; exact Ow.new (D := Fl.int) (e := 3) (xs := []) (H := H) (k := 1) (by simp) rfl rfl rfl, by simp, Chg.app _⟩
   rintro n t H' ⟨i, u, rfl, hi, t1, t3, t4, t5, b0, o, nu, ch⟩ ih
   have hI1 := ((hI.rd).chg ch (by simp)).isI
   have nc := fun F L => (sNodeCount_c (frz := F) (H := L) w h).trans (by rw [hN])
   have e4' : IntKind.i64.wrap (4 * (N : Int)) = (M : Int) := e4
   simp [t1, t3, t4, t5, VM.look, b0, nc, e4']
   refine wpg_dec ?_ ?_ <;> intro g1
   · simp [t1, t3, t4, t5, g1]
     refine wp_dec ?_ ?_ <;> intro hm
     · simp [t1, t3, t4, t5, VM.look, b0, hI.one', hI.cells, l03Has_c _ _ _ _ _ hI1 hl]
       have e1 : ∀ [Inhabited Unit], IntKind.i64.wrap ((i : Int) + 1) = ((i + 1 : Nat) : Int) := by intro _; rw [w64 (by omega) (by omega)]; omega
       rw [if_pos hm] at o
       refine wp_dec ?_ ?_ <;> intro g2
       · have hll : (chN w h b i).length ≤ i := chN_len _ _ _ _
         obtain ⟨u', H2, hap, o2, c2, n2⟩ := o.push (P := Try.prog) (frz := H.length) (ty := 22) (a := (i : Int)) (by simp) rfl (by omega) (fun j hj => by have := nu j hj; omega)
         simp only [Fl.int_f] at hap
         have l0 := ch.1
         have k0 := box_lt b0
         simp [t1, t3, t4, t5, hap]
         refine ih (M - (i + 1)) _ _ ⟨i + 1, u', rfl, by omega, by simp [t1], by simp, by simp [t4], by simp [e1], box_chg b0 c2 (fun hh => by have := nu _ hh; omega), ?_, fun j hj => ?_, ch.trans' c2 (fun j hj => .inr (by have := nu j hj; omega))⟩ (by omega)
         · rw [if_pos hm, chN_succ, if_pos g2]; exact o2
         · rcases n2 j hj with h1 | h1
           · exact nu j h1
           · omega
       · simp [t1, t3, t4, t5]
         refine ih (M - (i + 1)) _ _ ⟨i + 1, u, rfl, by omega, by simp [t1], by simp [t3], by simp [t4], by simp [e1], b0, ?_, nu, ch⟩ (by omega)
         rw [if_pos hm, chN_succ, if_neg g2]; exact o
     · rw [if_neg hm] at o
       simp [t1, t3, t4, t5, -go_exit_blk]
       refine rest _ _ ?_
       have hch : chans w h b = [] := if_neg hm
       exact ⟨rfl, by simp [t3, hch]; exact o, by simp [t3]; exact nu, ch⟩
   · have him : i = M := by omega
     simp [t1, t3, t4, t5, g1, -go_exit_blk]
     refine rest _ _ ?_
     refine ⟨rfl, ?_, by simp [t3]; exact nu, ch⟩
     simp [t3]
     unfold chans; rw [hNt, ← hM, ← him]; exact o
  case rest =>
    rintro t H' ⟨_, o, nu, ch⟩
    simp
    exact ⟨o, fun j hj => by have := nu j hj; omega, ch⟩
theorem sameInts_c (v u : Value) (xs ys : List Int) (hI : IsI H v xs) (hJ : IsI H u ys) (hl : xs.length ≤ 1073741824) : vcall C frz 54 [v, u] H = some (.bool (decide (xs = ys)), H) := by
  refine wp.exact (by simp) ?_ rfl
  rw [vcall_go (fn := Try.f54) Try.func54 rfl (by kernel_rfl) rfl]
  simp [hI.len, hJ.len]
  refine wp_dec ?_ ?_ <;> intro g0
  · have hle : xs.length = ys.length := by omega
    simp
    refine wp_inv (fun n t H' => ∃ i : Nat, n = xs.length - i ∧ i ≤ xs.length ∧ t 0 = v ∧ t 1 = u ∧ t 5 = .int .i64 i ∧ H' = H ∧ xs.take i = ys.take i) ?_ (n := xs.length) ⟨0, rfl, by omega, by simp, by simp, by simp, rfl, rfl⟩
    rintro n t H' ⟨i, rfl, hi, t0, t1, t5, hH, he⟩ ih
    rw [hH]
    simp [t0, t1, t5, hI.len]
    refine wp_dec ?_ ?_ <;> intro g1
    · have q1 := hI.idx (P := Try.prog) (ty := 22) (e := 3) (by simp) (i := (i : Int)) (by omega) (by omega)
      have r1 := (hI.load (P := Try.prog) (e := 3) (by simp) g1).trans (by rw [getD_get _ _ g1])
      have q2 := hJ.idx (P := Try.prog) (ty := 22) (e := 3) (by simp) (i := (i : Int)) (by omega) (by omega)
      have g1' : i < ys.length := by omega
      have r2 := (hJ.load (P := Try.prog) (e := 3) (by simp) g1').trans (by rw [getD_get _ _ g1'])
      simp only [Int.toNat_natCast] at q1 q2
      simp [t0, t1, t5]
      rw [go_draw (h := by kernel_rfl)]
      simp [t0, t1, t5, q1, r1, q2, r2]
      refine wp_dec ?_ ?_ <;> intro g2
      · simp [t0, t1, t5]
        refine ih (xs.length - (i + 1)) _ _ ⟨i + 1, rfl, by omega, by simp [t0], by simp [t1], ?_, rfl, ?_⟩ (by omega)
        · simp; rw [w64 (by omega) (by omega)]
        · rw [List.take_succ_eq_append_getElem g1, List.take_succ_eq_append_getElem g1', he, g2]
      · simp
        intro hh; subst hh; exact g2 rfl
    · have him : i = xs.length := by omega
      simp
      rw [him, List.take_length] at he
      rw [he, hle, List.take_length]
  · simp
    intro hh; exact g0 (by rw [hh])
theorem hasI_c (v : Value) (xs : List Int) (k : Int) (hI : IsI H v xs) (hl : xs.length ≤ 1073741824) : vcall C frz 28 [v, .int .i64 k] H = some (.bool (decide (k ∈ xs)), H) := by
  refine wp.exact (by simp) ?_ rfl
  rw [vcall_go (fn := Try.f28) Try.func28 rfl (by kernel_rfl) rfl]
  simp
  refine wp_inv (fun n t H' => ∃ i : Nat, n = xs.length - i ∧ i ≤ xs.length ∧ t 0 = v ∧ t 1 = .int .i64 k ∧ t 5 = .int .i64 i ∧ H' = H ∧ k ∉ xs.take i) ?_ (n := xs.length) ⟨0, rfl, by omega, by simp, by simp, by simp, rfl, by simp⟩
  rintro n t H' ⟨i, rfl, hi, t0, t1, t5, hH, he⟩ ih
  rw [hH]
  simp [t0, t1, t5, hI.len]
  refine wp_dec ?_ ?_ <;> intro g1
  · have q1 := hI.idx (P := Try.prog) (ty := 22) (e := 3) (by simp) (i := (i : Int)) (by omega) (by omega)
    have r1 := (hI.load (P := Try.prog) (e := 3) (by simp) g1).trans (by rw [getD_get _ _ g1])
    simp only [Int.toNat_natCast] at q1
    simp [t0, t1, t5, q1, r1]
    refine wp_dec ?_ ?_ <;> intro g2
    · simp
      rw [← g2]; exact List.getElem_mem g1
    · simp [t0, t1, t5]
      refine ih (xs.length - (i + 1)) _ _ ⟨i + 1, rfl, by omega, by simp [t0], by simp [t1], ?_, rfl, ?_⟩ (by omega)
      · simp; rw [w64 (by omega) (by omega)]
      · rw [List.take_succ_eq_append_getElem g1]
        intro hh
        rcases List.mem_append.1 hh with hh | hh
        · exact he hh
        · exact g2 (List.mem_singleton.1 hh).symm
  · have him : i = xs.length := by omega
    simp
    rw [him, List.take_length] at he
    exact he
/-! plain: one channel more is broken -/
theorem broke_mem {b : List Int} {c x : Int} : x ∈ broke b c ↔ x ∈ b ∨ x = c := by
  unfold broke
  rw [(isort_perm _).mem_iff]; simp
theorem has_broke {w h : Int} {b : List Int} {c x : Int} : has w h (broke b c) x ↔ has w h b x ∧ x ≠ c := by
  unfold has
  rw [broke_mem]
  constructor
  · rintro ⟨h1, h2⟩; exact ⟨⟨h1, fun hh => h2 (.inl hh)⟩, fun hh => h2 (.inr hh)⟩
  · rintro ⟨⟨h1, h2⟩, h3⟩; exact ⟨h1, fun hh => hh.elim h2 h3⟩
theorem meshOk_broke {w h : Int} {b : List Int} {c : Int} (hok : breakOk w h b c) : meshOk w h (broke b c) := by
  obtain ⟨hm, hl, hn⟩ := hok
  obtain ⟨m1, m2, m3⟩ := (meshOk_iff w h b).1 hm
  refine (meshOk_iff w h _).2 ⟨m1, fun x hx => ?_, ?_⟩
  · rcases broke_mem.1 hx with h1 | h1
    · exact m2 x h1
    · rw [h1]; exact hl
  · have hs := isort_sorted (b ++ [c])
    have hnd : (b ++ [c]).Nodup := by
      rw [List.nodup_append]
      refine ⟨m3.imp (fun h => by omega), by simp, fun x hx y hy => ?_⟩
      rw [List.mem_singleton.1 hy]
      intro e; subst e; exact hn hx
    have hnd2 : (isort (b ++ [c])).Nodup := (isort_perm _).nodup_iff.2 hnd
    have := List.pairwise_and_iff.2 ⟨hs, hnd2⟩
    exact this.imp (fun h => by obtain ⟨h1, h2⟩ := h; omega)
theorem chN_broke {w h : Int} {b : List Int} {k : Nat} (hk : has w h b (k : Int)) : ∀ m, (chN w h (broke b k) m).length + (if k < m then 1 else 0) = (chN w h b m).length
  | 0 => by simp [chN]
  | m + 1 => by
    have ih := chN_broke hk m
    rw [chN_succ, chN_succ]
    by_cases hm : has w h b (m : Int)
    · rw [if_pos hm]
      by_cases hkm : k = m
      · subst hkm
        rw [if_neg (fun hh => (has_broke.1 hh).2 rfl), if_pos (by omega)]
        rw [if_neg (by omega)] at ih
        simp; omega
      · rw [if_pos (has_broke.2 ⟨hm, by omega⟩)]
        simp
        by_cases h1 : k < m
        · rw [if_pos h1] at ih; rw [if_pos (by omega)]; omega
        · rw [if_neg h1] at ih; rw [if_neg (by omega)]; omega
    · rw [if_neg hm, if_neg (fun hh => hm (has_broke.1 hh).1)]
      have : k ≠ m := fun e => by subst e; exact hm hk
      by_cases h1 : k < m
      · rw [if_pos h1] at ih; rw [if_pos (by omega)]; omega
      · rw [if_neg h1] at ih; rw [if_neg (by omega)]; omega
theorem chans_broke {w h : Int} {b : List Int} {c : Int} (hok : breakOk w h b c) : (chans w h (broke b c)).length + 1 = (chans w h b).length ∧ c ∉ chans w h (broke b c) := by
  have hl := hok.2.1.1
  have hc := cnt_range w h
  obtain ⟨k, rfl⟩ := Int.eq_ofNat_of_zero_le hl.1
  unfold chans
  rw [if_pos (meshOk_broke hok), if_pos hok.1]
  have := chN_broke hok.2 (4 * (cnt w h).toNat)
  rw [if_pos (by omega)] at this
  exact ⟨this, fun hh => (has_broke.1 (chN_mem hh)).2 rfl⟩
theorem chans_has {w h : Int} {b : List Int} {x : Int} (hx : x ∈ chans w h b) : breakOk w h b x := by
  unfold chans at hx
  by_cases hm : meshOk w h b
  · rw [if_pos hm] at hx; exact ⟨hm, chN_mem hx⟩
  · rw [if_neg hm] at hx; cases hx
theorem chans_len (w h : Int) (b : List Int) : (chans w h b).length ≤ 64 := by
  have hc := cnt_range w h
  unfold chans
  split
  · have := chN_len w h b (4 * (cnt w h).toNat); omega
  · simp
end Go.Proofs.Ytnakhkfgheapoaa.V
/-! Multicasts: contracts on data. -/
set_option linter.all false
namespace Go.Proofs.Ytnakhkfgheapoaa.V
open Go Go.VM Go.Proofs
set_option maxRecDepth 10000
variable {frz : Nat} {H : Heap}
theorem branches_len (w h : Int) (b T : List Int) (a : Int) (ts : List Int) : (branches w h b T a ts).length ≤ 16 * ts.length := by
  unfold branches
  split
  · have h1 := dk_len (isort (allW w h b T a ts)) (isort (allW w h b T a ts)).length
    rw [isort_len, allW_len] at h1
    have := cost_le w h b T a ts
    unfold compact; rw [isort_len, allW_len]; omega
  · simp
variable {v u s : Value} {w h a : Int} {b T ts : List Int}
theorem branches_d (o1 : dMesh.Ow H v (w, h, b)) (o2 : dTable.Ow H u T) (o3 : dIntS.Ow H s ts) (hs : ts.length ≤ 67108864) :
    wp (vcall C frz 63 [dMesh.val v (w, h, b), dTable.val u T, .int .i64 a, dIntS.val s ts] H) (dIntS.Made H (branches w h b T a ts)) :=
  (branches_w w h v u s b T ts a o1.1.rd.isI o2.1.rd.isI o3.1.rd.isI o1.2 hs).mono fun r H' k => ⟨r, rfl, ⟨k.1, by have := branches_len w h b T a ts; omega⟩, k.2.2, k.2.1, ids_nodup r⟩
theorem sBranches_d (o1 : dMesh.Ow H v (w, h, b)) (o2 : dTable.Ow H u T) (o3 : dIntS.Ow H s ts) (hs : ts.length ≤ 67108864) :
    wp (vcall C frz 62 [dMesh.val v (w, h, b), dTable.val u T, .int .i64 a, dIntS.val s ts] H) (dIntS.Made H (branches w h b T a ts)) :=
  (sBranches_w w h v u s b T ts a o1.1.rd.isI o2.1.rd.isI o3.1.rd.isI o1.2 hs).mono fun r H' k => ⟨r, rfl, ⟨k.1, by have := branches_len w h b T a ts; omega⟩, k.2.2, k.2.1, ids_nodup r⟩
theorem multicast_d (o1 : dMesh.Ow H v (w, h, b)) (o2 : dTable.Ow H u T) (o3 : dIntS.Ow H s ts) (hs : ts.length ≤ 67108864) :
    vcall C frz 61 [dMesh.val v (w, h, b), dTable.val u T, .int .i64 a, dIntS.val s ts] H = some (.int .i64 (if castOk w h b T a ts then (branches w h b T a ts).length else -1), H) :=
  multicast_w w h v u s b T ts a o1.1.rd.isI o2.1.rd.isI o3.1.rd.isI o1.2 hs
theorem sMulticast_d (o1 : dMesh.Ow H v (w, h, b)) (o2 : dTable.Ow H u T) (o3 : dIntS.Ow H s ts) (hs : ts.length ≤ 67108864) :
    vcall C frz 59 [dMesh.val v (w, h, b), dTable.val u T, .int .i64 a, dIntS.val s ts] H = some (.int .i64 (if castOk w h b T a ts then (branches w h b T a ts).length else -1), H) := by
  have hI := o1.1.rd.isI
  have hT := o2.1.rd.isI
  have hS := o3.1.rd.isI
  have hl : b.length ≤ 1073741824 := o1.2
  show vcall C frz 59 [.agg #[.int .i64 w, .int .i64 h, v], .agg #[u], .int .i64 a, s] H = _
  refine wp.exact (by simp) ?_ rfl
  rw [vcall_go (fn := Try.f59) Try.func59 rfl (by kernel_rfl) rfl]
  have hs' : ts.length ≤ 1073741824 := by omega
  have one := And.intro hI.one' (And.intro hI.cells (And.intro hT.one' hT.cells))
  simp [one, l35Ok_c _ _ _ _ _ _ _ _ _ (hI.app _) (hT.app _) (hS.app _) hl hs']
  refine wp_dec ?_ ?_ <;> intro h1
  · simp [one]
    refine wp_thn (sBranches_w w h v u s b T ts a (hI.app _) (hT.app _) (hS.app _) hl hs) ?_
    rintro r H1 ⟨o, _, _⟩
    simp [o.rd.len, h1]
  · simp [h1]
end Go.Proofs.Ytnakhkfgheapoaa.V
/-! The law FnMulticast. -/
set_option linter.all false
namespace Go.Proofs.Ytnakhkfgheapoaa.V
open Go Go.VM Go.Proofs
set_option maxRecDepth 10000
variable {frz : Nat} {H : Heap}
theorem drawGrid_w (vb : Value) (code : List Int) (hb : Rd Fl.u8 H vb code) (hl : code.length ≤ 1073741824) : wp (vcall C frz 64 [vb] H) (fun u H' => H' = H ∧ ∃ w h, u = .agg #[.int .i64 w, .int .i64 h] ∧ okG w h) := by
  rw [vcall_go (fn := Try.f64) Try.func64 rfl (by kernel_rfl) rfl]
  simp
  refine wp_thn (l01New_w vb code hb.app hl) ?_
  rintro _ H1 ⟨r, rfl, hr, c1, ch1⟩
  have cH : Chg H H1 [] := (Chg.app []).trans ch1
  have b1 : H1[H.length]? = some ⟨[.int .i64 0, .int .i64 0], 0, 31⟩ := box_chg (by simp) ch1 (by simp)
  simp at hr
  simp
  refine wp_thn (l02Grid_w c1 (by omega)) ?_
  rintro _ H2 ⟨⟨w, h, rfl, hg⟩, c2, d2⟩
  have b2 := box_chg b1 c2 (by simp; omega)
  have g2 := set_get (r' := ⟨[.int .i64 w, .int .i64 h], 0, 31⟩) b2
  simp [VM.look, b2, g2]
  exact ⟨w, h, ⟨rfl, rfl⟩, hg⟩
theorem walkT_w (w h : Int) (v u : Value) (b T : List Int) (a to : Int) (hI : IsI H v b) (hT : IsI H u T) (hl : b.length ≤ 1073741824) (hz : tableOk w h b T) (ha : isN w h a) (hto : isN w h to) :
   wp (vcall C frz 66 [.agg #[.int .i64 w, .int .i64 h, v], .agg #[u], .int .i64 a, .int .i64 to] H) (fun r H' => Ow Fl.int 3 H' r (walk w h b T a to) ∧ (∀ i ∈ ids r, H.length ≤ i) ∧ Chg H H' []) := by
  rw [walkT_c w h v u b T a to hI hT hl hz ha hto]
  unfold ret
  by_cases h0 : walk w h b T a to = []
  · simp [h0]; exact ⟨.inl ⟨rfl, rfl⟩, Chg.refl _⟩
  · simp [h0]
    exact ⟨Ow.new0 rfl (cellsOf_int _).symm (by simp) rfl, Chg.app _⟩
theorem law_FnMulticast_w {a0 : List Int} {u0 : Value} (s0 : IsS (Kn.int .u8) H u0 a0)
    (w0 : a0.length ≤ maxLen ∧ ∀ x1 ∈ a0, (Lit.int .u8 x1).wf = true) :
    wp (vcall C frz 14 [u0] H) (fun r _ => r = .bool true) := by
  have r0 := IsS_bytes s0
  rw [vcall_go (fn := Try.f14) Try.func14 rfl (by kernel_rfl) rfl]
  simp [big_c _ _ r0]
  refine wp_dec ?_ ?_ <;> intro g0
  · simp
  · simp
    refine wp_thn (drawGrid_w u0 a0 r0 (by omega)) ?_
    rintro _ H1 ⟨rfl, w, h, rfl, hg⟩
    have c1 : Chg H1 H1 [] := Chg.refl _
    obtain ⟨N, hN⟩ : ∃ N : Nat, w * h = N := ⟨(w * h).toNat, by have := mul_small hg; omega⟩
    have hN1 : 1 ≤ N ∧ N ≤ 16 := by have := mul_small hg; omega
    have hcnt : cnt w h = N := by unfold cnt; rw [if_pos hg]; exact hN
    have fN : ∀ [Inhabited Unit], IntKind.i64.wrap (w * h) = (N : Int) := by intro _; rw [hN, w64 (by omega) (by omega)]
    have cn1 := c1.1
    simp [VM.look]
    refine wp_thn (stdTable_w w h 1 N (by decide) hg hcnt) ?_
    rintro _ H2 ⟨_, rfl, vt, rfl, ⟨ot, hT⟩, c2, nt, dt⟩
    have l2 := c2.1
    simp at l2 nt
    have b3 : H2[H1.length]? = some ⟨[.int .i64 w, .int .i64 h], 0, 31⟩ := box_chg (by simp) c2 (by simp)
    have b4 : H2[H1.length + 1]? = some ⟨[.int .i64 w, .int .i64 h, .slice none 0 0], 0, 33⟩ := box_chg (by simp) c2 (by simp)
    have onet := And.intro ot.rd.one' ot.rd.cells
    have cn2 : H1.length ≤ H2.length := by omega
    simp [dTable_val, VM.look, onet, cn2]
    refine wp_thn (drawPlaces_w u0 a0 ((((r0.chg c1 (by simp)).app).chg c2 (by simp)).app) (by omega)) ?_
    rintro u H3 ⟨xs, o, hx, hr, nu, c3⟩
    have l3 := c3.1
    simp at l3 nu
    have b5 : H3[H2.length]? = some ⟨[vt], 0, 48⟩ := box_chg (by simp) c3 (by simp)
    have b3 := box_chg (get_app' b3 _) c3 (by simp)
    have b4 := box_chg (get_app' b4 _) c3 (by simp)
    have ot := (ot.app (L := [⟨[vt], 0, 48⟩])).chg c3 (by simp)
    have pick : ∀ j, (hj : j < xs.length) → ∃ q : Nat, q < N ∧ (xs[j]).tmod (N : Int) = (q : Int) := fun j hj => by
      have e0 := hr xs[j] (List.getElem_mem hj)
      have h1 := Int.emod_lt_of_pos xs[j] (show (0 : Int) < N by omega)
      have h2 := Int.emod_nonneg xs[j] (show (N : Int) ≠ 0 by omega)
      exact ⟨(xs[j] % (N : Int)).toNat, by omega, by rw [Int.tmod_eq_emod_of_nonneg e0.1]; omega⟩
    obtain ⟨A, hA, tA⟩ := pick 0 (by omega)
    obtain ⟨M, hM6, tM⟩ : ∃ q : Nat, q < 6 ∧ (xs[1]).tmod 6 = (q : Int) := by
      have e0 := hr xs[1] (List.getElem_mem (by omega))
      exact ⟨(xs[1] % 6).toNat, by omega, by rw [Int.tmod_eq_emod_of_nonneg e0.1]; omega⟩
    have q0 := ow_ix0 o (i := 0) (by omega)
    have ea : vindexAddr Try.prog H3 22 u (.int .i64 0) = some (elp u 0) := q0.1
    have q0b := q0.2
    have wa : ∀ [Inhabited Unit], IntKind.i64.wrap (A : Int) = (A : Int) := by intro _; exact w64 (by omega) (by omega)
    have hNz : ¬ N = 0 := by omega
    simp [VM.look, b3, fN, ea, q0b, tA, wa, hNz]
    have tlt : ∀ i ∈ ids vt, i < H3.length := fun i hi => ot.rd.lt i hi
    have ult : ∀ i ∈ ids u, i < H3.length := fun i hi => o.rd.lt i hi
    have iA : isN w h A := ⟨by omega, by omega⟩
    refine wp_inv (fun n t H' => ∃ (i : Nat) (vo : Value) (ts : List Int), n = M - i ∧ i ≤ M ∧ ts.length = i ∧ (∀ x ∈ ts, isN w h x) ∧
        t 4 = .pointer (some ⟨H1.length + 1, 0, some 0⟩) ∧ t 5 = .pointer (some ⟨H2.length, 0, some 0⟩) ∧ t 6 = .bool true ∧ t 7 = u ∧ t 8 = .int .i64 N ∧ t 9 = .int .i64 A ∧ t 10 = vo ∧ t 11 = .int .i64 i ∧
        Chg H3 H' [] ∧ H'[H1.length + 1]? = some ⟨[.int .i64 w, .int .i64 h, .slice none 0 0], 0, 33⟩ ∧ H'[H2.length]? = some ⟨[vt], 0, 48⟩ ∧ Ow Fl.int 3 H' vt (stdTab w 1 N) ∧ Ow Fl.int 3 H' u xs ∧
        Ow Fl.int 3 H' vo ts ∧ (∀ i ∈ ids vo, H3.length ≤ i)) ?_ (n := M)
      ⟨0, .slice (some ⟨H3.length, 0, some 0⟩) 0 0, [], rfl, by omega, rfl, by simp, by simp, by simp, by simp, by simp, by simp, by simp, by simp, by simp, Chg.app _, get_app' b4 _, get_app' b5 _, ot.app, o.app, Ow.new0 (D := Fl.int) (xs := []) rfl rfl rfl rfl, by simp⟩
    clear b3 b4 b5 ot o q0 ea q0b
    rintro n t H' ⟨i, vo, ts, rfl, hi, htl, htn, t4, t5, t6, t7, t8, t9, t10, t11, c4, b4, b5, ot, o, oo, no⟩ ih
    have q1 := ow_ix0 o (i := 1) (by omega)
    have ea : vindexAddr Try.prog H' 22 u (.int .i64 1) = some (elp u 1) := q1.1
    have q1b := q1.2
    have wm : ∀ [Inhabited Unit], IntKind.i64.wrap (M : Int) = (M : Int) := by intro _; exact w64 (by omega) (by omega)
    simp [t4, t5, t6, t7, t8, t9, t10, t11, ea, q1b, tM, wm]
    refine wp_dec ?_ ?_ <;> intro g1
    · have hiM : i < M := by omega
      obtain ⟨k, hk⟩ : ∃ k, k = i + 2 := ⟨_, rfl⟩
      obtain ⟨X, hX, tX⟩ := pick k (by omega)
      have q2 := ow_ix0 o (i := k) (by omega)
      have e2 : ∀ [Inhabited Unit], IntKind.i64.wrap ((i : Int) + 2) = (k : Int) := by intro _; rw [w64 (by omega) (by omega)]; omega
      have q2a := q2.1
      have q2b := q2.2
      have wx : ∀ [Inhabited Unit], IntKind.i64.wrap (X : Int) = (X : Int) := by intro _; exact w64 (by omega) (by omega)
      obtain ⟨vo', H4, hap, oo', c5, n5⟩ := oo.push (P := Try.prog) (frz := H1.length) (ty := 22) (a := (X : Int)) (by simp) rfl (by omega) (fun j hj => by have := no j hj; omega)
      simp only [Fl.int_f] at hap
      have l4 := c4.1
      have no' : ∀ j ∈ ids vo', H3.length ≤ j := fun j hj => by rcases n5 j hj with h1 | h1; exact no j h1; omega
      simp [t4, t5, t6, t7, t8, t9, t10, t11, e2, q2a, q2b, tX, wx, hNz, hap]
      refine ih (M - (i + 1)) _ _ ⟨i + 1, vo', ts ++ [(X : Int)], rfl, by omega, by simp [htl], fun y hy => ?_, by simp [t4], by simp [t5], by simp [t6], by simp [t7], by simp [t8], by simp [t9], by simp, ?_, c4.trans' c5 (fun j hj => .inr (no j hj)),
        box_chg b4 c5 (fun hh => by have := no _ hh; omega), box_chg b5 c5 (fun hh => by have := no _ hh; omega), ot.chg c5 (fun j hj hh => by have := no _ hh; have := tlt j hj; omega), o.chg c5 (fun j hj hh => by have := no _ hh; have := ult j hj; omega), oo', no'⟩ (by omega)
      · rcases List.mem_append.1 hy with hy | hy
        · exact htn y hy
        · rw [List.mem_singleton.1 hy]; exact ⟨by omega, by omega⟩
      · simp; rw [w64 (by omega) (by omega)]
    · have hcast : castOk w h [] (stdTab w 1 N) A ts := ⟨xy_ok hg hcnt, iA, htn⟩
      obtain ⟨_, hble, hbm⟩ := branches_mem hcast
      have htree := xy_tree (ts := ts) hg hcnt iA htn
      have htl2 : ts.length ≤ 6 := by omega
      have hn0 : IsI H' (.slice none 0 0) [] := .inl ⟨rfl, rfl⟩
      simp [t4, t5, t6, t7, t8, t9, t10, t11, VM.look, b4, b5, onet]
      refine wp_thn (branches_w w h (.slice none 0 0) vt vo [] (stdTab w 1 N) ts A hn0 ot.rd.isI oo.rd.isI (by simp) (by omega)) ?_
      rintro r H5 ⟨ob, nb, c5⟩
      have b4 := box_chg b4 c5 (by simp)
      have b5 := box_chg b5 c5 (by simp)
      have ot := ot.chg c5 (by simp)
      have oo := oo.chg c5 (by simp)
      have mc := fun F => multicast_w (frz := F) (H := H5) w h (.slice none 0 0) vt vo [] (stdTab w 1 N) ts A (.inl ⟨rfl, rfl⟩) ot.rd.isI oo.rd.isI (by simp) (by omega)
      have hbl := branches_len w h [] (stdTab w 1 N) A ts
      generalize hBB : branches w h [] (stdTab w 1 N) A ts = BB at *
      simp [t4, t5, t6, t7, t8, t9, t10, t11, VM.look, b4, b5, onet, mc, hcast]
      refine wp_inv (fun n t H' => ∃ (i : Nat), n = ts.length - i ∧ i ≤ ts.length ∧
        t 4 = .pointer (some ⟨H1.length + 1, 0, some 0⟩) ∧ t 5 = .pointer (some ⟨H2.length, 0, some 0⟩) ∧ t 6 = .bool true ∧ t 9 = .int .i64 A ∧ t 10 = vo ∧ t 12 = r ∧ t 13 = .int .i64 BB.length ∧ t 14 = .int .i64 i ∧
        H'[H1.length + 1]? = some ⟨[.int .i64 w, .int .i64 h, .slice none 0 0], 0, 33⟩ ∧ H'[H2.length]? = some ⟨[vt], 0, 48⟩ ∧ Ow Fl.int 3 H' vt (stdTab w 1 N) ∧ Ow Fl.int 3 H' vo ts ∧ Ow Fl.int 3 H' r BB) ?_ (n := ts.length)
        ⟨0, rfl, by omega, by simp [t4], by simp [t5], by simp [t6], by simp [t9], by simp [t10], by simp, by simp, by simp, b4, b5, ot, oo, ob⟩
      clear b4 b5 ot oo ob mc t4 t5 t6 t7 t8 t9 t10 t11 ih hn0 c4 o c5 nb no ea q1b q1
      rintro n t H6 ⟨i, rfl, hi2, t4, t5, t6, t9, t10, t12, t13, t14, b4, b5, ot, oo, ob⟩ ih
      have lo := oo.rd.len (P := Try.prog) (ty := 22) (by simp)
      simp [t4, t5, t6, t9, t10, t12, t13, t14, lo]
      refine wp_dec ?_ ?_ <;> intro g2
      · have hit : i < ts.length := by omega
        have q2 := ow_ix0 oo hit
        have q2a := q2.1
        have q2b := q2.2
        have hti := htn _ (List.getElem_mem hit)
        simp [t4, t5, t6, t9, t10, t12, t13, t14]
        rw [go_draw (h := by kernel_rfl)]
        simp [t4, t5, t6, t9, t10, t12, t13, t14, VM.look, b4, b5, onet, q2a, q2b]
        refine wp_thn (walkT_w w h (.slice none 0 0) vt [] (stdTab w 1 N) A ts[i] (.inl ⟨rfl, rfl⟩) ot.rd.isI (by simp) hcast.1 iA hti) ?_
        rintro q H7 ⟨oq, nq, c7⟩
        have b4 := box_chg b4 c7 (by simp)
        have b5 := box_chg b5 c7 (by simp)
        have ot := ot.chg c7 (by simp)
        have oo := oo.chg c7 (by simp)
        have ob := ob.chg c7 (by simp)
        have hwm : ∀ x ∈ walk w h [] (stdTab w 1 N) A ts[i], x ∈ BB := fun x hxm => (hbm x).2 ⟨_, List.getElem_mem hit, hxm⟩
        have hwl := walk_len w h [] (stdTab w 1 N) A ts[i]
        generalize walk w h [] (stdTab w 1 N) A ts[i] = W at *
        simp [t4, t5, t6, t9, t10, t12, t13, t14]
        refine wp_inv (fun n t H' => ∃ (j : Nat), n = W.length - j ∧ j ≤ W.length ∧
          t 4 = .pointer (some ⟨H1.length + 1, 0, some 0⟩) ∧ t 5 = .pointer (some ⟨H2.length, 0, some 0⟩) ∧ t 6 = .bool true ∧ t 9 = .int .i64 A ∧ t 10 = vo ∧ t 12 = r ∧ t 13 = .int .i64 BB.length ∧ t 14 = .int .i64 i ∧ t 15 = q ∧ t 16 = .int .i64 j ∧ H' = H7) ?_ (n := W.length)
          ⟨0, rfl, by omega, by simp [t4], by simp [t5], by simp [t6], by simp [t9], by simp [t10], by simp [t12], by simp [t13], by simp [t14], by simp, by simp, rfl⟩
        clear t4 t5 t6 t9 t10 t12 t13 t14
        rintro n t H' ⟨j, rfl, hj, t4, t5, t6, t9, t10, t12, t13, t14, t15, t16, rfl⟩ ih2
        have lq := oq.rd.len (P := Try.prog) (ty := 22) (by simp)
        simp [t4, t5, t6, t9, t10, t12, t13, t14, t15, t16, lq]
        refine wp_dec ?_ ?_ <;> intro g3
        · have hjw : j < W.length := by omega
          have q3 := ow_ix0 oq hjw
          have q3a := q3.1
          have q3b := q3.2
          have hm := hwm _ (List.getElem_mem hjw)
          have hh := fun F => hasI_c (frz := F) (H := H') r BB W[j] ob.rd.isI (by omega)
          simp [t4, t5, t6, t9, t10, t12, t13, t14, t15, t16, q3a, q3b, hh, hm]
          refine ih2 (W.length - (j + 1)) _ _ ⟨j + 1, rfl, by omega, by simp [t4], by simp [t5], by simp [t6], by simp [t9], by simp [t10], by simp [t12], by simp [t13], by simp [t14], by simp [t15], ?_, rfl⟩ (by omega)
          simp; rw [w64 (by omega) (by omega)]
        · simp [t4, t5, t6, t9, t10, t12, t13, t14, t15, t16]
          refine ih (ts.length - (i + 1)) _ _ ⟨i + 1, rfl, by omega, by simp [t4], by simp [t5], by simp [t6], by simp [t9], by simp [t10], by simp [t12], by simp [t13], ?_, b4, b5, ot, oo, ob⟩ (by omega)
          simp; rw [w64 (by omega) (by omega)]
      · have br := fun F => branching_c (frz := F) (H := H6) w h (.slice none 0 0) r [] BB A (.inl ⟨rfl, rfl⟩) ob.rd.isI (by simp) (by omega)
        have uc := fun F => unicast_c (frz := F) (H := H6) w h (.slice none 0 0) vt vo [] (stdTab w 1 N) ts A (.inl ⟨rfl, rfl⟩) ot.rd.isI oo.rd.isI (by simp) (by omega)
        have lb := ob.rd.len (P := Try.prog) (ty := 22) (by simp)
        have hble2 : (BB.length : Int) ≤ (cost w h [] (stdTab w 1 N) A ts : Int) := by omega
        simp [t4, t5, t6, t9, t10, t12, t13, t14, VM.look, b4, b5, onet, br, htree, uc, hcast, lb, hble2]
theorem law_FnMulticast {a0 : List Int} {u0 : Value} (s0 : IsS (Kn.int .u8) H u0 a0)
    (w0 : a0.length ≤ maxLen ∧ ∀ x1 ∈ a0, (Lit.int .u8 x1).wf = true) :
    vcall C frz 14 [u0] H = some (.bool true, H) :=
  (law_FnMulticast_w s0 w0).exact (by simp) rfl
end Go.Proofs.Ytnakhkfgheapoaa.V
