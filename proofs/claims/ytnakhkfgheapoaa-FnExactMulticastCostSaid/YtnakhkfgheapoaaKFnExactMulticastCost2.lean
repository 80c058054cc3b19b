/- Texts of a proof, joined. -/
import Derived.Test.YtnakhkfgheapoaaKM0
import Derived.Test.YtnakhkfgheapoaaKM1
import Derived.Test.YtnakhkfgheapoaaKFnExactMulticastCost0
import Derived.Test.YtnakhkfgheapoaaKFnExactMulticastCost1
/-! Branches of a multicast. -/
set_option linter.all false
namespace Go.Proofs.Ytnakhkfgheapoaa.V
open Go Go.VM Go.Proofs
set_option maxRecDepth 10000
variable {frz : Nat} {H : Heap}
/-- all channels that single packets take -/
def allW (w h : Int) (b T : List Int) (a : Int) (ts : List Int) : List Int := (ts.map fun x => walk w h b T a x).flatten
theorem allW_succ {w h : Int} {b T : List Int} {a : Int} {ts : List Int} {i : Nat} (hi : i < ts.length) : allW w h b T a (ts.take (i + 1)) = allW w h b T a (ts.take i) ++ walk w h b T a ts[i] := by
  unfold allW
  rw [List.take_succ_eq_append_getElem hi, List.map_append, List.flatten_append]; simp
theorem allW_len (w h : Int) (b T : List Int) (a : Int) (ts : List Int) : (allW w h b T a ts).length = cost w h b T a ts := by
  unfold allW cost
  rw [List.length_flatten, List.map_map]; rfl
def branches (w h : Int) (b T : List Int) (a : Int) (ts : List Int) : List Int := if castOk w h b T a ts then compact (isort (allW w h b T a ts)) else []
theorem branches_w (w h : Int) (v u s : Value) (b T ts : List Int) (a : Int) (hI : IsI H v b) (hT : IsI H u T) (hS : IsI H s ts) (hl : b.length ≤ 1073741824) (hs : ts.length ≤ 67108864) :
   wp (vcall C frz 63 [.agg #[.int .i64 w, .int .i64 h, v], .agg #[u], .int .i64 a, s] H) (fun r H' => Ow Fl.int 3 H' r (branches w h b T a ts) ∧ (∀ i ∈ ids r, H.length ≤ i) ∧ Chg H H' []) := by
  rw [vcall_go (fn := Try.f63) Try.func63 rfl (by kernel_rfl) rfl]
  have hs' : ts.length ≤ 1073741824 := by omega
  have one := And.intro hI.one' (And.intro hI.cells (And.intro hT.one' hT.cells))
  simp [one, canCast_c _ _ _ _ _ _ _ _ _ (hI.app _) (hT.app _) (hS.app _) hl hs']
  refine wp_dec ?_ ?_ <;> intro h1
  · simp [hS.lenA]
    refine wp_inv (fun n t H' => ∃ (i : Nat) (r : Value), n = ts.length - i ∧ i ≤ ts.length ∧ t 2 = .int .i64 a ∧ t 4 = .pointer (some ⟨H.length, 0, some 0⟩) ∧ t 5 = .pointer (some ⟨H.length + 1, 0, some 0⟩) ∧ t 9 = r ∧ t 20 = s ∧ t 21 = .int .i64 ts.length ∧ t 22 = .int .i64 i ∧
        H'[H.length]? = some ⟨[.int .i64 w, .int .i64 h, v], 0, 33⟩ ∧ H'[H.length + 1]? = some ⟨[u], 0, 48⟩ ∧ Ow Fl.int 3 H' r (allW w h b T a (ts.take i)) ∧ (∀ j ∈ ids r, H.length + 2 ≤ j) ∧ Chg H H' []) ?_ (n := ts.length)
      ⟨0, .slice (some ⟨H.length + 2, 0, some 0⟩) 0 0, rfl, by omega, by simp, by simp, by simp, by simp, by simp, by simp, by simp, by simp, by simp, by
        have : allW w h b T a (ts.take 0) = [] := by simp [allW]
        rw [this]; exact Ow.new (D := Fl.int) (e := 3) (xs := []) (H := H) (k := 2) (by simp) rfl rfl rfl, by simp, Chg.app _⟩
    rintro n t H' ⟨i, r, rfl, hi, t2, t4, t5, t9, t20, t21, t22, b0, b1, o, nr, ch⟩ ih
    have hI1 := ((hI.rd).chg ch (by simp)).isI
    have hT1 := ((hT.rd).chg ch (by simp)).isI
    have hS1 := ((hS.rd).chg ch (by simp)).isI
    have hcl := cost_le w h b T a (ts.take i)
    have htl : (ts.take i).length = i := by simp; omega
    simp [t2, t4, t5, t9, t20, t21, t22]
    refine wp_dec ?_ ?_ <;> intro g1
    · have hx : isN w h ts[i] := h1.2.2 _ (List.getElem_mem g1)
      have hwl := walk_len w h b T a ts[i]
      have q1 := hS1.idx (P := Try.prog) (ty := 22) (e := 3) (by simp) (i := (i : Int)) (by omega) (by omega)
      have r1 := (hS1.load (P := Try.prog) (e := 3) (by simp) g1).trans (by rw [getD_get _ _ g1])
      simp only [Int.toNat_natCast] at q1
      simp [t2, t4, t5, t9, t20, t21, t22, q1, r1, VM.look, b0, b1, one]
      refine wp_thn (made_ret (walkT_c w h v u b T a ts[i] hI1 hT1 hl h1.1 h1.2.1 hx)) ?_
      rintro vw _ ⟨L, rfl, ow, nw⟩
      obtain ⟨r', H3, hap, o3, c3, n3⟩ := (o.app (L := L)).append (P := Try.prog) (frz := H.length) (ty := 22) ow.rd (by simp) (ones_ints _) (by rw [allW_len]; omega) (fun j hj => by have := nr j hj; omega)
      have l0 := ch.1
      have k1 := box_lt b1
      simp [t2, t4, t5, t9, t20, t21, t22, hap]
      refine ih (ts.length - (i + 1)) _ _ ⟨i + 1, r', rfl, by omega, by simp [t2], by simp [t4], by simp [t5], by simp, by simp [t20], by simp [t21], ?_, box_chg (get_app' b0 _) c3 (fun hh => by have := nr _ hh; omega), box_chg (get_app' b1 _) c3 (fun hh => by have := nr _ hh; omega), by rw [allW_succ g1]; exact o3, fun j hj => ?_, (ch.trans (Chg.app [])).trans' c3 (fun j hj => .inr (by have := nr j hj; omega))⟩ (by omega)
      · simp; rw [w64 (by omega) (by omega)]
      · rcases n3 j hj with h2 | h2
        · exact nr j h2
        · simp at h2; omega
    · have him : i = ts.length := by omega
      rw [him, List.take_length] at o
      simp [t9]
      have l0 := ch.1
      refine wp_thn (sort_w r _ _ o (by rw [allW_len]; have := cost_le w h b T a ts; omega) (fun j hj => by have := nr j hj; omega) l0) ?_
      rintro _ H3 ⟨o3, c3⟩
      simp [t9]
      refine wp_thn (compact_w r _ o3 (by rw [isort_len, allW_len]; have := cost_le w h b T a ts; omega) (fun j hj => by have := nr j hj; omega)) ?_
      rintro r2 H4 ⟨o4, n4, c4⟩
      simp
      refine ⟨by unfold branches; rw [if_pos h1]; exact o4, fun j hj => by have := nr j (n4 j hj); omega, (ch.trans' c3 (fun j hj => .inr (by have := nr j hj; omega))).trans' c4 (fun j hj => .inr (by have := nr j hj; omega))⟩
  · simp
    refine ⟨?_, Chg.app _⟩
    unfold branches; rw [if_neg h1]
    exact Ow.new (D := Fl.int) (e := 3) (xs := []) (H := H) (k := 2) (by simp) rfl rfl rfl
theorem multicast_w (w h : Int) (v u s : Value) (b T ts : List Int) (a : Int) (hI : IsI H v b) (hT : IsI H u T) (hS : IsI H s ts) (hl : b.length ≤ 1073741824) (hs : ts.length ≤ 67108864) :
   vcall C frz 61 [.agg #[.int .i64 w, .int .i64 h, v], .agg #[u], .int .i64 a, s] H = some (.int .i64 (if castOk w h b T a ts then (branches w h b T a ts).length else -1), H) := by
  refine wp.exact (by simp) ?_ rfl
  rw [vcall_go (fn := Try.f61) Try.func61 rfl (by kernel_rfl) rfl]
  have hs' : ts.length ≤ 1073741824 := by omega
  have one := And.intro hI.one' (And.intro hI.cells (And.intro hT.one' hT.cells))
  simp [one, canCast_c _ _ _ _ _ _ _ _ _ (hI.app _) (hT.app _) (hS.app _) hl hs']
  refine wp_dec ?_ ?_ <;> intro h1
  · simp [one]
    refine wp_thn (branches_w w h v u s b T ts a (hI.app _) (hT.app _) (hS.app _) hl hs) ?_
    rintro r H1 ⟨o, _, _⟩
    simp [o.rd.len, h1]
  · simp [h1]
theorem walkN_mem (w h : Int) (b T : List Int) (to : Int) : ∀ f a out, isN w h a → (∀ x ∈ out, 0 ≤ x ∧ x < 64) → ∀ x ∈ walkN w h b T to f a out, 0 ≤ x ∧ x < 64 := by
  intro f
  induction f with
  | zero =>
    intro a out ha ho x hx
    simp only [walkN] at hx
    split at hx
    · split at hx
      · exact ho x hx
      · simp at hx
    · simp at hx
  | succ f ih =>
    intro a out ha ho x hx
    simp only [walkN] at hx
    split at hx
    · split at hx
      · exact ho x hx
      · simp at hx
    · split at hx
      · rename_i hs
        have hc := cnt_range w h
        obtain ⟨⟨p0, p3⟩, ⟨⟨c0, c1⟩, nx⟩, _⟩ := hs
        have e1 : (4 * a + portOf w h T a to) / 4 = a := by omega
        have e2 : (4 * a + portOf w h T a to) % 4 = portOf w h T a to := by omega
        rw [e1, e2] at nx
        refine ih _ _ (next_isN nx) (fun y hy => ?_) x hx
        rcases List.mem_append.1 hy with hy | hy
        · exact ho y hy
        · rw [List.mem_singleton.1 hy]; omega
      · simp at hx
theorem walk_mem {w h : Int} {b T : List Int} {a to x : Int} (ha : isN w h a) (hx : x ∈ walk w h b T a to) : 0 ≤ x ∧ x < 64 := walkN_mem w h b T to _ a [] ha (by simp) x hx
/-- the marked places -/
def marked (m : List Bool) : Nat → List Int
  | 0 => []
  | i + 1 => if m.getD i false = true then marked m i ++ [(i : Int)] else marked m i
theorem marked_len (m : List Bool) : ∀ i, (marked m i).length ≤ i
  | 0 => Nat.le_refl _
  | i + 1 => by have := marked_len m i; unfold marked; split <;> simp <;> omega
theorem marked_spec (m : List Bool) : ∀ i, (marked m i).Pairwise (· < ·) ∧ ∀ x, x ∈ marked m i ↔ ∃ j : Nat, j < i ∧ x = (j : Int) ∧ m.getD j false = true
  | 0 => by simp [marked]
  | i + 1 => by
    obtain ⟨h1, h2⟩ := marked_spec m i
    unfold marked
    by_cases hm : m.getD i false = true
    · rw [if_pos hm]
      refine ⟨?_, fun x => ?_⟩
      · rw [List.pairwise_append]
        refine ⟨h1, by simp, fun x hx y hy => ?_⟩
        obtain ⟨j, hj, rfl, _⟩ := (h2 x).1 hx
        rw [List.mem_singleton.1 hy]; omega
      · rw [List.mem_append, h2, List.mem_singleton]
        constructor
        · rintro (⟨j, hj, hx, hmj⟩ | hx)
          · exact ⟨j, by omega, hx, hmj⟩
          · exact ⟨i, by omega, hx, hm⟩
        · rintro ⟨j, hj, hx, hmj⟩
          by_cases hji : j = i
          · subst hji; exact .inr hx
          · exact .inl ⟨j, by omega, hx, hmj⟩
    · rw [if_neg hm]
      refine ⟨h1, fun x => ?_⟩
      rw [h2]
      constructor
      · rintro ⟨j, hj, hx, hmj⟩; exact ⟨j, by omega, hx, hmj⟩
      · rintro ⟨j, hj, hx, hmj⟩
        by_cases hji : j = i
        · subst hji; exact absurd hmj hm
        · exact ⟨j, by omega, hx, hmj⟩
theorem l07Mark_w (v : Value) (m : List Bool) (e : TypeId) (hO : Ow Fl.bool e H v m) (hl : m.length ≤ 1073741824) :
   wp (vcall C frz 112 [v] H) (fun r H' => Ow Fl.int 3 H' r (marked m m.length) ∧ (∀ i ∈ ids r, H.length ≤ i) ∧ Chg H H' []) := by
  rw [vcall_go (fn := Try.f112) Try.func112 rfl (by kernel_rfl) rfl]
  simp
  refine wp_inv (fun n t H' => ∃ (i : Nat) (r : Value), n = m.length - i ∧ i ≤ m.length ∧ t 0 = v ∧ t 3 = r ∧ t 4 = .int .i64 i ∧ Ow Fl.int 3 H' r (marked m i) ∧ (∀ j ∈ ids r, H.length ≤ j) ∧ Chg H H' []) ?_ (n := m.length)
    ⟨0, .slice (some ⟨H.length, 0, some 0⟩) 0 0, rfl, by omega, by simp, by simp, by simp, Ow.new0 (D := Fl.int) (e := 3) (xs := []) (H := H) rfl rfl rfl rfl, by simp, Chg.app _⟩
  rintro n t H' ⟨i, r, rfl, hi, t0, t3, t4, o, nr, ch⟩ ih
  have hO1 := hO.rd.chg ch (by simp)
  simp [t0, t3, t4, hO1.len]
  refine wp_dec ?_ ?_ <;> intro g1
  · have q1 := hO1.idx (P := Try.prog) (ty := 98) (e := 4) (by simp) (i := (i : Int)) (by omega) (by omega)
    have r1 := hO1.cell1 (P := Try.prog) (e := 4) rfl (by simp) g1
    simp at q1 r1
    have hg : m.getD i false = m[i] := by simp [List.getD_eq_getElem?_getD, g1]
    simp [t0, t3, t4, q1, r1]
    refine wp_bool ?_ ?_ <;> intro g2
    · obtain ⟨r', H2, hap, o2, c2, n2⟩ := o.push (P := Try.prog) (frz := H.length) (ty := 22) (a := (i : Int)) (by simp) rfl (by have := marked_len m i; omega) nr
      simp only [Fl.int_f] at hap
      have l0 := ch.1
      simp [t0, t3, t4, hap]
      refine ih (m.length - (i + 1)) _ _ ⟨i + 1, r', rfl, by omega, by simp [t0], by simp, ?_, ?_, fun j hj => ?_, ch.trans' c2 (fun j hj => .inr (nr j hj))⟩ (by omega)
      · simp; rw [w64 (by omega) (by omega)]
      · unfold marked; rw [if_pos (by rw [hg]; exact g2)]; exact o2
      · rcases n2 j hj with h1 | h1
        · exact nr j h1
        · omega
    · simp [t0, t3, t4]
      refine ih (m.length - (i + 1)) _ _ ⟨i + 1, r, rfl, by omega, by simp [t0], by simp [t3], ?_, ?_, nr, ch⟩ (by omega)
      · simp; rw [w64 (by omega) (by omega)]
      · unfold marked; rw [if_neg (by rw [hg, g2]; simp)]; exact o
  · have him : i = m.length := by omega
    simp [t3]
    rw [him] at o
    exact ⟨o, nr, ch⟩
theorem marked_branches {w h : Int} {b T : List Int} {a : Int} {ts : List Int} {m : List Bool} (hok : castOk w h b T a ts) (hm : m.length = 64) (hs : ∀ j : Nat, j < 64 → (m.getD j false = true ↔ (j : Int) ∈ allW w h b T a ts)) : marked m m.length = branches w h b T a ts := by
  unfold branches; rw [if_pos hok]
  obtain ⟨h1, h2⟩ := marked_spec m m.length
  obtain ⟨h3, h4⟩ := compact_sorted (isort_sorted (allW w h b T a ts))
  refine asc_ext h1 h3 (fun x => ?_)
  rw [h2, h4, (isort_perm _).mem_iff]
  constructor
  · rintro ⟨j, hj, rfl, hmj⟩; exact (hs j (by omega)).1 hmj
  · intro hx
    have hb : 0 ≤ x ∧ x < 64 := by
      unfold allW at hx
      obtain ⟨l, hl, hxl⟩ := List.mem_flatten.1 hx
      obtain ⟨y, _, rfl⟩ := List.mem_map.1 hl
      exact walk_mem hok.2.1 hxl
    obtain ⟨j, rfl⟩ := Int.eq_ofNat_of_zero_le hb.1
    exact ⟨j, by omega, rfl, (hs j (by omega)).2 hx⟩
theorem sBranches_w (w h : Int) (v u s : Value) (b T ts : List Int) (a : Int) (hI : IsI H v b) (hT : IsI H u T) (hS : IsI H s ts) (hl : b.length ≤ 1073741824) (hs : ts.length ≤ 67108864) :
   wp (vcall C frz 62 [.agg #[.int .i64 w, .int .i64 h, v], .agg #[u], .int .i64 a, s] H) (fun r H' => Ow Fl.int 3 H' r (branches w h b T a ts) ∧ (∀ i ∈ ids r, H.length ≤ i) ∧ Chg H H' []) := by
  rw [vcall_go (fn := Try.f62) Try.func62 rfl (by kernel_rfl) rfl]
  have hs' : ts.length ≤ 1073741824 := by omega
  have one := And.intro hI.one' (And.intro hI.cells (And.intro hT.one' hT.cells))
  simp [one, l35Ok_c _ _ _ _ _ _ _ _ _ (hI.app _) (hT.app _) (hS.app _) hl hs']
  refine wp_dec ?_ ?_ <;> intro h1
  · simp [one]
    obtain ⟨V9, hV9⟩ : ∃ V9, V9 = Value.slice (some ⟨H.length + 2, 0, some 0⟩) 64 0 := ⟨_, rfl⟩
    have id9 : ids V9 = [H.length + 2] := by rw [hV9]; rfl
    refine wp_inv (fun n t H' => ∃ (i : Nat) (m : List Bool), n = ts.length - i ∧ i ≤ ts.length ∧ t 2 = .int .i64 a ∧ t 3 = s ∧ t 4 = .pointer (some ⟨H.length, 0, some 0⟩) ∧ t 5 = .pointer (some ⟨H.length + 1, 0, some 0⟩) ∧ t 9 = V9 ∧ t 10 = .int .i64 i ∧
        H'[H.length]? = some ⟨[.int .i64 w, .int .i64 h, v], 0, 33⟩ ∧ H'[H.length + 1]? = some ⟨[u], 0, 48⟩ ∧ Ow Fl.bool 4 H' V9 m ∧ m.length = 64 ∧ (∀ j : Nat, j < 64 → (m.getD j false = true ↔ (j : Int) ∈ allW w h b T a (ts.take i))) ∧ Chg H H' []) ?_ (n := ts.length)
      ⟨0, List.replicate 64 false, rfl, by omega, by simp, by simp, by simp, by simp, by simp [hV9], by simp, by simp, by simp, by
        rw [hV9]; exact Ow.new (D := Fl.bool) (e := 4) (xs := List.replicate 64 false) (H := H) (k := 2) rfl rfl rfl rfl, by rw [List.length_replicate], fun j hj => by
          have e : (List.replicate 64 false).getD j false = false := by rw [List.getD_eq_getElem?_getD, List.getElem?_replicate, if_pos hj]; rfl
          rw [e]; simp [allW], Chg.app _⟩
    rintro n t H' ⟨i, m, rfl, hi, t2, t3, t4, t5, t9, t10, b0, b1, o, hm, hmk, ch⟩ ih
    have hI1 := ((hI.rd).chg ch (by simp)).isI
    have hT1 := ((hT.rd).chg ch (by simp)).isI
    have hS1 := ((hS.rd).chg ch (by simp)).isI
    have hSl := hS1.len (P := Try.prog) (ty := 22) (by simp)
    simp [t2, t3, t4, t5, t9, t10, hSl]
    refine wp_dec ?_ ?_ <;> intro g1
    · have hx : isN w h ts[i] := h1.2.2 _ (List.getElem_mem g1)
      have q1 := hS1.idx (P := Try.prog) (ty := 22) (e := 3) (by simp) (i := (i : Int)) (by omega) (by omega)
      have r1 := (hS1.load (P := Try.prog) (e := 3) (by simp) g1).trans (by rw [getD_get _ _ g1])
      simp only [Int.toNat_natCast] at q1
      simp [t2, t3, t4, t5, t9, t10]
      rw [go_draw (h := by kernel_rfl)]
      simp [t2, t3, t4, t5, t9, t10, q1, r1, VM.look, b0, b1, one]
      refine wp_thn (made_row (sWalk_c w h v u b T a ts[i] hI1 hT1 hl h1.1.1 h1.2.1 hx)) ?_
      rintro vw _ ⟨L, rfl, ow, nw⟩
      have hwl := walk_len w h b T a ts[i]
      have hwm := fun x (hx : x ∈ walk w h b T a ts[i]) => walk_mem h1.2.1 hx
      have hsucc := allW_succ (w := w) (h := h) (b := b) (T := T) (a := a) g1
      generalize walk w h b T a ts[i] = W at *
      have k1 := box_lt b1
      have l0 := ch.1
      simp [t2, t3, t4, t5, t9, t10]
      refine wp_inv (fun n t H'' => ∃ (k : Nat) (m' : List Bool), n = W.length - k ∧ k ≤ W.length ∧ t 2 = .int .i64 a ∧ t 3 = s ∧ t 4 = .pointer (some ⟨H.length, 0, some 0⟩) ∧ t 5 = .pointer (some ⟨H.length + 1, 0, some 0⟩) ∧ t 9 = V9 ∧ t 10 = .int .i64 i ∧ t 11 = vw ∧ t 12 = .int .i64 k ∧
          Chg (H' ++ L) H'' [H.length + 2] ∧ Ow Fl.bool 4 H'' V9 m' ∧ m'.length = 64 ∧ (∀ j : Nat, j < 64 → (m'.getD j false = true ↔ (j : Int) ∈ allW w h b T a (ts.take i) ∨ (j : Int) ∈ W.take k))) ?_ (n := W.length)
        ⟨0, m, rfl, by omega, by simp [t2], by simp [t3], by simp [t4], by simp [t5], by simp [t9], by simp [t10], by simp, by simp, Chg.refl _, o.app, hm, fun j hj => by rw [hmk j hj]; simp⟩
      clear t2 t3 t4 t5 t9 t10
      rintro n t H'' ⟨k, m', rfl, hk, t2, t3, t4, t5, t9, t10, t11, t12, ch2, o2, hm', hmk'⟩ ih2
      have hltV : H.length + 2 < (H' ++ L).length := by have := o.lt (H.length + 2) (by rw [id9]; simp); simp; omega
      have nvw : H.length + 2 ∉ ids vw := fun hh => by have := nw _ hh; have := o.lt (H.length + 2) (by rw [id9]; simp); omega
      have ow2 := ow.chg ch2 (fun j hj hh => by have := List.mem_singleton.1 hh; subst this; exact nvw hj)
      simp [t2, t3, t4, t5, t9, t10, t11, t12, ow2.rd.len]
      refine wp_dec ?_ ?_ <;> intro g2
      · have hc := hwm W[k] (List.getElem_mem g2)
        obtain ⟨c, hcc⟩ := Int.eq_ofNat_of_zero_le hc.1
        have hc64 : c < m'.length := by omega
        have q2 := ow_ix ow2 g2
        have r2 := (ow_ld ow2 g2).trans (by rw [G_get g2, hcc])
        have q3 := o2.rd.idx (P := Try.prog) (ty := 98) (e := 4) (by simp) (i := (c : Int)) (by omega) (by omega)
        simp at q3
        obtain ⟨H3, s3, o3, c3, l3⟩ := o2.put1 (P := Try.prog) (frz := H.length) rfl (et := 4) (ag := false) (by simp) hc64 (x := .bool true) (y := true) rfl rfl rfl (fun j hj => by rw [id9] at hj; have := List.mem_singleton.1 hj; omega)
        rw [id9] at c3
        simp [t2, t3, t4, t5, t9, t10, t11, t12, q2, r2, q3, s3]
        refine ih2 (W.length - (k + 1)) _ _ ⟨k + 1, m'.set c true, rfl, by omega, by simp [t2], by simp [t3], by simp [t4], by simp [t5], by simp [t9], by simp [t10], by simp [t11], ?_, ch2.trans c3, o3, by simpa using hm', fun j hj => ?_⟩ (by omega)
        · simp; rw [w64 (by omega) (by omega)]
        · rw [List.take_succ_eq_append_getElem g2, hcc]
          by_cases hjc : j = c
          · subst hjc
            simp [List.getD_eq_getElem?_getD, hc64]
          · have : (m'.set c true).getD j false = m'.getD j false := by simp [List.getD_eq_getElem?_getD, List.getElem?_set_ne (Ne.symm hjc)]
            have hjc' : ¬ (j : Int) = (c : Int) := by omega
            rw [this, hmk' j hj]
            simp [hjc']
      · have hkl : k = W.length := by omega
        have b0' : H''[H.length]? = some ⟨[.int .i64 w, .int .i64 h, v], 0, 33⟩ := box_chg (get_app' b0 _) ch2 (by simp)
        have b1' : H''[H.length + 1]? = some ⟨[u], 0, 48⟩ := box_chg (get_app' b1 _) ch2 (by simp)
        simp [t2, t3, t4, t5, t9, t10, t11, t12]
        refine ih (ts.length - (i + 1)) _ _ ⟨i + 1, m', rfl, by omega, by simp [t2], by simp [t3], by simp [t4], by simp [t5], by simp [t9], ?_, b0', b1', o2, hm', fun j hj => ?_, (ch.trans (Chg.app [])).trans' ch2 (fun j hj => .inr (by have := List.mem_singleton.1 hj; omega))⟩ (by omega)
        · simp; rw [w64 (by omega) (by omega)]
        · rw [hmk' j hj, hsucc, hkl, List.take_length, List.mem_append]
    · have him : i = ts.length := by omega
      rw [him, List.take_length] at hmk
      simp [t9]
      refine wp_thn (l07Mark_w V9 m _ o (by omega)) ?_
      rintro r H3 ⟨o3, n3, c3⟩
      have l0 := ch.1
      simp
      exact ⟨by rw [← marked_branches h1 hm hmk]; exact o3, fun j hj => by have := n3 j hj; omega, ch.trans c3⟩
  · simp
    refine ⟨?_, Chg.app _⟩
    unfold branches; rw [if_neg h1]
    exact Ow.new (D := Fl.int) (e := 3) (xs := []) (H := H) (k := 3) (by simp) rfl rfl rfl
end Go.Proofs.Ytnakhkfgheapoaa.V
/-! Multicasts: contracts on data. -/
set_option linter.all false
namespace Go.Proofs.Ytnakhkfgheapoaa.V
open Go Go.VM Go.Proofs
set_option maxRecDepth 10000
variable {frz : Nat} {H : Heap}
theorem branches_len (w h : Int) (b T : List Int) (a : Int) (ts : List Int) : (branches w h b T a ts).length ≤ 16 * ts.length := by
  unfold branches
  split
  · have h1 := dk_len (isort (allW w h b T a ts)) (isort (allW w h b T a ts)).length
    rw [isort_len, allW_len] at h1
    have := cost_le w h b T a ts
    unfold compact; rw [isort_len, allW_len]; omega
  · simp
variable {v u s : Value} {w h a : Int} {b T ts : List Int}
theorem branches_d (o1 : dMesh.Ow H v (w, h, b)) (o2 : dTable.Ow H u T) (o3 : dIntS.Ow H s ts) (hs : ts.length ≤ 67108864) :
    wp (vcall C frz 63 [dMesh.val v (w, h, b), dTable.val u T, .int .i64 a, dIntS.val s ts] H) (dIntS.Made H (branches w h b T a ts)) :=
  (branches_w w h v u s b T ts a o1.1.rd.isI o2.1.rd.isI o3.1.rd.isI o1.2 hs).mono fun r H' k => ⟨r, rfl, ⟨k.1, by have := branches_len w h b T a ts; omega⟩, k.2.2, k.2.1, ids_nodup r⟩
theorem sBranches_d (o1 : dMesh.Ow H v (w, h, b)) (o2 : dTable.Ow H u T) (o3 : dIntS.Ow H s ts) (hs : ts.length ≤ 67108864) :
    wp (vcall C frz 62 [dMesh.val v (w, h, b), dTable.val u T, .int .i64 a, dIntS.val s ts] H) (dIntS.Made H (branches w h b T a ts)) :=
  (sBranches_w w h v u s b T ts a o1.1.rd.isI o2.1.rd.isI o3.1.rd.isI o1.2 hs).mono fun r H' k => ⟨r, rfl, ⟨k.1, by have := branches_len w h b T a ts; omega⟩, k.2.2, k.2.1, ids_nodup r⟩
theorem multicast_d (o1 : dMesh.Ow H v (w, h, b)) (o2 : dTable.Ow H u T) (o3 : dIntS.Ow H s ts) (hs : ts.length ≤ 67108864) :
    vcall C frz 61 [dMesh.val v (w, h, b), dTable.val u T, .int .i64 a, dIntS.val s ts] H = some (.int .i64 (if castOk w h b T a ts then (branches w h b T a ts).length else -1), H) :=
  multicast_w w h v u s b T ts a o1.1.rd.isI o2.1.rd.isI o3.1.rd.isI o1.2 hs
theorem sMulticast_d (o1 : dMesh.Ow H v (w, h, b)) (o2 : dTable.Ow H u T) (o3 : dIntS.Ow H s ts) (hs : ts.length ≤ 67108864) :
    vcall C frz 59 [dMesh.val v (w, h, b), dTable.val u T, .int .i64 a, dIntS.val s ts] H = some (.int .i64 (if castOk w h b T a ts then (branches w h b T a ts).length else -1), H) := by
  have hI := o1.1.rd.isI
  have hT := o2.1.rd.isI
  have hS := o3.1.rd.isI
  have hl : b.length ≤ 1073741824 := o1.2
  show vcall C frz 59 [.agg #[.int .i64 w, .int .i64 h, v], .agg #[u], .int .i64 a, s] H = _
  refine wp.exact (by simp) ?_ rfl
  rw [vcall_go (fn := Try.f59) Try.func59 rfl (by kernel_rfl) rfl]
  have hs' : ts.length ≤ 1073741824 := by omega
  have one := And.intro hI.one' (And.intro hI.cells (And.intro hT.one' hT.cells))
  simp [one, l35Ok_c _ _ _ _ _ _ _ _ _ (hI.app _) (hT.app _) (hS.app _) hl hs']
  refine wp_dec ?_ ?_ <;> intro h1
  · simp [one]
    refine wp_thn (sBranches_w w h v u s b T ts a (hI.app _) (hT.app _) (hS.app _) hl hs) ?_
    rintro r H1 ⟨o, _, _⟩
    simp [o.rd.len, h1]
  · simp [h1]
end Go.Proofs.Ytnakhkfgheapoaa.V
/-! The law FnExactMulticastCost. -/
set_option linter.all false
namespace Go.Proofs.Ytnakhkfgheapoaa.V
open Go Go.VM Go.Proofs
set_option maxRecDepth 10000
variable {frz : Nat} {H : Heap}
theorem law_FnExactMulticastCost_w {a0_0 : Int} {a0_1 : Int} {a0_2 : List (Int)} {u0_2 : Value} {a1_0 : List (Int)} {u1_0 : Value} {a2 : Int} {a3 : List (Int)} {u3 : Value} (s0_2 : IsS (Kn.int .i64) H u0_2 a0_2) (s1_0 : IsS (Kn.int .i64) H u1_0 a1_0) (s3 : IsS (Kn.int .i64) H u3 a3)
    (w0 : (((Lit.int .i64 a0_0).wf = true) ∧ ((Lit.int .i64 a0_1).wf = true)) ∧ (a0_2.length ≤ maxLen ∧ ∀ x1 ∈ a0_2, (Lit.int .i64 x1).wf = true)) (w1 : (a1_0.length ≤ maxLen ∧ ∀ x2 ∈ a1_0, (Lit.int .i64 x2).wf = true)) (w2 : (Lit.int .i64 a2).wf = true) (w3 : a3.length ≤ maxLen ∧ ∀ x3 ∈ a3, (Lit.int .i64 x3).wf = true) :
    wp (vcall C frz 12 [.agg #[.int .i64 a0_0, .int .i64 a0_1, u0_2], .agg #[u1_0], .int .i64 a2, u3] H) (fun r _ => r = .bool true) := by
  have r0_2 := s0_2.ints.rd
  have r1_0 := s1_0.ints.rd
  have r3 := s3.ints.rd
  have rl0_2 := fun (L : Heap) => (Rd.app (L := L) r0_2).len (P := Try.prog) (ty := 22) (by simp)
  have rm0_2 := r0_2.len (P := Try.prog) (ty := 22) (by simp)
  have rl1_0 := fun (L : Heap) => (Rd.app (L := L) r1_0).len (P := Try.prog) (ty := 22) (by simp)
  have rm1_0 := r1_0.len (P := Try.prog) (ty := 22) (by simp)
  have rl3 := fun (L : Heap) => (Rd.app (L := L) r3).len (P := Try.prog) (ty := 22) (by simp)
  have rm3 := r3.len (P := Try.prog) (ty := 22) (by simp)
  rw [vcall_go (fn := Try.f12) Try.func12 rfl (by kernel_rfl) rfl]
  have ro0_2 := And.intro r0_2.one' r0_2.cells
  have ro1_0 := And.intro r1_0.one' r1_0.cells
  have ro3 := And.intro r3.one' r3.cells
  simp [VM.look, ro0_2, rl0_2, rm0_2, ro1_0, rl1_0, rm1_0, ro3, rl3, rm3]
  refine wp_dec ?_ ?_ <;> intro g1 <;> simp [g1]
  try simp [VM.look, ro0_2, rl0_2, rm0_2, ro1_0, rl1_0, rm1_0, ro3, rl3, rm3]
  have sz0 := fun F (L : Heap) => szMesh_c (frz := F) (H := H ++ L) a0_0 a0_1 u0_2 a0_2 1048576 (Rd.isI (Rd.chg r0_2 ((Chg.refl (H := H) []).trans (Chg.app [])) (by simp))) (by omega) (by omega) w0.2.1
  simp [VM.look, ro0_2, rl0_2, rm0_2, ro1_0, rl1_0, rm1_0, ro3, rl3, rm3, sz0]
  refine wp_dec ?_ ?_ <;> intro g2 <;> simp [g2]
  have t0 : (a0_2.length : Int) ≤ 1048576 := by split at g2 <;> omega
  have f0 : ¬ (1048576 : Int) < (a0_2.length : Int) := by omega
  simp only [if_neg f0]
  try simp [VM.look, ro0_2, rl0_2, rm0_2, ro1_0, rl1_0, rm1_0, ro3, rl3, rm3, f0]
  have sz1 := fun F (L : Heap) => szTable_c (frz := F) (H := H ++ L) u1_0 a1_0 (1048576 - (a0_2.length : Int)) (Rd.isI (Rd.chg r1_0 ((Chg.refl (H := H) []).trans (Chg.app [])) (by simp))) (by omega) (by omega) w1.1
  simp [VM.look, ro0_2, rl0_2, rm0_2, ro1_0, rl1_0, rm1_0, ro3, rl3, rm3, sz1, f0]
  refine wp_dec ?_ ?_ <;> intro g3 <;> simp [g3]
  have t1 : (a1_0.length : Int) ≤ (1048576 - (a0_2.length : Int)) := by split at g3 <;> omega
  have f1 : ¬ ((1048576 - (a0_2.length : Int)) : Int) < (a1_0.length : Int) := by omega
  simp only [if_neg f1]
  try simp [VM.look, ro0_2, rl0_2, rm0_2, ro1_0, rl1_0, rm1_0, ro3, rl3, rm3, f0, f1]
  rw [go_draw (h := by kernel_rfl)]
  simp [VM.look, ro0_2, rl0_2, rm0_2, ro1_0, rl1_0, rm1_0, ro3, rl3, rm3, f0, f1]
  refine wp_thn (toMesh_w a0_0 a0_1 u0_2 a0_2 (Rd.isI (Rd.chg r0_2 ((Chg.refl (H := H) []).trans (Chg.app [])) (by simp))) (by omega)) ?_
  rintro _ H1 ⟨v_x0, rfl, o_x0, c1, n_x0, d_x0⟩
  have l1 := c1.1
  try simp at l1
  have b1_4 := box_chg ((app_get0 _ _).trans rfl) c1 (by simp)
  have b1_5 := box_chg ((app_get _ _ 1).trans rfl) c1 (by simp)
  have cH1 : Chg H H1 [] := ((Chg.refl (H := H) []).trans (Chg.app [])).trans c1
  have h_x0 := dMesh.lt o_x0
  try simp at n_x0
  have one_x0 := dMesh_one o_x0
  simp [VM.look, b1_4, b1_5, get_app' b1_4, get_app' b1_5, cH1.1, Nat.le_add_right_of_le cH1.1, one_x0, ro0_2, ro1_0, ro3, dMesh_val, f0, f1]
  refine wp_thn (toTable_w u1_0 a1_0 (Rd.isI (Rd.chg r1_0 cH1 (by simp))) (by omega)) ?_
  rintro _ H2 ⟨v_x1, rfl, o_x1, c2, n_x1, d_x1⟩
  have l2 := c2.1
  try simp at l2
  have b2_4 := box_chg b1_4 c2 (by simp)
  have b2_5 := box_chg b1_5 c2 (by simp)
  have o2_x0 := Dt.chg0 o_x0 c2
  have cH2 : Chg H H2 [] := (cH1).trans c2
  have h_x1 := dTable.lt o_x1
  try simp at n_x1
  have one_x1 := dTable_one o_x1
  simp [VM.look, b2_4, b2_5, get_app' b2_4, get_app' b2_5, cH2.1, Nat.le_add_right_of_le cH2.1, one_x0, one_x1, ro0_2, ro1_0, ro3, dMesh_val, dTable_val, f0, f1]
  refine wp_thn (toIntS_w u3 a3 (Rd.isI (Rd.chg r3 cH2 (by simp))) (by omega)) ?_
  rintro _ H3 ⟨v_x2, rfl, o_x2, c3, n_x2, d_x2⟩
  have l3 := c3.1
  try simp at l3
  have b3_4 := box_chg b2_4 c3 (by simp)
  have b3_5 := box_chg b2_5 c3 (by simp)
  have o3_x0 := Dt.chg0 o2_x0 c3
  have o3_x1 := Dt.chg0 o_x1 c3
  have cH3 : Chg H H3 [] := (cH2).trans c3
  have h_x2 := dIntS.lt o_x2
  try simp at n_x2
  have one_x2 := dIntS_one o_x2
  simp [VM.look, b3_4, b3_5, get_app' b3_4, get_app' b3_5, cH3.1, Nat.le_add_right_of_le cH3.1, one_x0, one_x1, one_x2, ro0_2, ro1_0, ro3, dMesh_val, dTable_val, dIntS_val, f0, f1]
  have ex4 := fun F => sMulticast_d (frz := F) (a := a2) o3_x0 o3_x1 o_x2 (by omega)
  try simp only [dMesh_val] at ex4
  try simp only [dTable_val] at ex4
  try simp only [dIntS_val] at ex4
  simp [VM.look, b3_4, b3_5, get_app' b3_4, get_app' b3_5, cH3.1, Nat.le_add_right_of_le cH3.1, one_x0, one_x1, one_x2, ro0_2, ro1_0, ro3, dMesh_val, dTable_val, dIntS_val, ex4, f0, f1]
  refine wp_thn (toMesh_w a0_0 a0_1 u0_2 a0_2 (Rd.isI (Rd.chg r0_2 cH3 (by simp))) (by omega)) ?_
  rintro _ H5 ⟨v_x3, rfl, o_x3, c5, n_x3, d_x3⟩
  have l5 := c5.1
  try simp at l5
  have b5_4 := box_chg b3_4 c5 (by simp)
  have b5_5 := box_chg b3_5 c5 (by simp)
  have o5_x0 := Dt.chg0 o3_x0 c5
  have o5_x1 := Dt.chg0 o3_x1 c5
  have o5_x2 := Dt.chg0 o_x2 c5
  have cH5 : Chg H H5 [] := (cH3).trans c5
  have h_x3 := dMesh.lt o_x3
  try simp at n_x3
  have one_x3 := dMesh_one o_x3
  simp [VM.look, b5_4, b5_5, get_app' b5_4, get_app' b5_5, cH5.1, Nat.le_add_right_of_le cH5.1, one_x0, one_x1, one_x2, one_x3, ro0_2, ro1_0, ro3, dMesh_val, dTable_val, dIntS_val, f0, f1]
  refine wp_thn (toTable_w u1_0 a1_0 (Rd.isI (Rd.chg r1_0 (cH5.trans (Chg.app [])) (by simp))) (by omega)) ?_
  rintro _ H6 ⟨v_x4, rfl, o_x4, c6, n_x4, d_x4⟩
  have l6 := c6.1
  try simp at l6
  have b6_11 := box_chg ((app_get0 _ _).trans rfl) c6 (by simp)
  have b6_4 := box_chg (get_app' b5_4 _) c6 (by simp)
  have b6_5 := box_chg (get_app' b5_5 _) c6 (by simp)
  have o6_x0 := Dt.chg0 (Dt.app o5_x0) c6
  have o6_x1 := Dt.chg0 (Dt.app o5_x1) c6
  have o6_x2 := Dt.chg0 (Dt.app o5_x2) c6
  have o6_x3 := Dt.chg0 (Dt.app o_x3) c6
  have cH6 : Chg H H6 [] := (cH5.trans (Chg.app [])).trans c6
  have h_x4 := dTable.lt o_x4
  try simp at n_x4
  have one_x4 := dTable_one o_x4
  simp [VM.look, b6_4, b6_5, b6_11, get_app' b6_4, get_app' b6_5, get_app' b6_11, cH6.1, Nat.le_add_right_of_le cH6.1, one_x0, one_x1, one_x2, one_x3, one_x4, ro0_2, ro1_0, ro3, dMesh_val, dTable_val, dIntS_val, f0, f1]
  refine wp_thn (toIntS_w u3 a3 (Rd.isI (Rd.chg r3 (cH6.trans (Chg.app [])) (by simp))) (by omega)) ?_
  rintro _ H7 ⟨v_x5, rfl, o_x5, c7, n_x5, d_x5⟩
  have l7 := c7.1
  try simp at l7
  have b7_12 := box_chg ((app_get0 _ _).trans rfl) c7 (by simp)
  have b7_4 := box_chg (get_app' b6_4 _) c7 (by simp)
  have b7_5 := box_chg (get_app' b6_5 _) c7 (by simp)
  have b7_11 := box_chg (get_app' b6_11 _) c7 (by simp)
  have o7_x0 := Dt.chg0 (Dt.app o6_x0) c7
  have o7_x1 := Dt.chg0 (Dt.app o6_x1) c7
  have o7_x2 := Dt.chg0 (Dt.app o6_x2) c7
  have o7_x3 := Dt.chg0 (Dt.app o6_x3) c7
  have o7_x4 := Dt.chg0 (Dt.app o_x4) c7
  have cH7 : Chg H H7 [] := (cH6.trans (Chg.app [])).trans c7
  have h_x5 := dIntS.lt o_x5
  try simp at n_x5
  have one_x5 := dIntS_one o_x5
  simp [VM.look, b7_4, b7_5, b7_11, b7_12, get_app' b7_4, get_app' b7_5, get_app' b7_11, get_app' b7_12, cH7.1, Nat.le_add_right_of_le cH7.1, one_x0, one_x1, one_x2, one_x3, one_x4, one_x5, ro0_2, ro1_0, ro3, dMesh_val, dTable_val, dIntS_val, f0, f1]
  have ex8 := fun F => multicast_d (frz := F) (a := a2) o7_x3 o7_x4 o_x5 (by omega)
  try simp only [dMesh_val] at ex8
  try simp only [dTable_val] at ex8
  try simp only [dIntS_val] at ex8
  simp [VM.look, b7_4, b7_5, b7_11, b7_12, get_app' b7_4, get_app' b7_5, get_app' b7_11, get_app' b7_12, cH7.1, Nat.le_add_right_of_le cH7.1, one_x0, one_x1, one_x2, one_x3, one_x4, one_x5, ro0_2, ro1_0, ro3, dMesh_val, dTable_val, dIntS_val, ex8, f0, f1]
  rw [go_draw (h := by kernel_rfl)]
  simp [VM.look, b7_4, b7_5, b7_11, b7_12, get_app' b7_4, get_app' b7_5, get_app' b7_11, get_app' b7_12, cH7.1, Nat.le_add_right_of_le cH7.1, one_x0, one_x1, one_x2, one_x3, one_x4, one_x5, ro0_2, ro1_0, ro3, dMesh_val, dTable_val, dIntS_val, f0, f1]
  refine wp_thn (toMesh_w a0_0 a0_1 u0_2 a0_2 (Rd.isI (Rd.chg r0_2 cH7 (by simp))) (by omega)) ?_
  rintro _ H9 ⟨v_x6, rfl, o_x6, c9, n_x6, d_x6⟩
  have l9 := c9.1
  try simp at l9
  have b9_4 := box_chg b7_4 c9 (by simp)
  have b9_5 := box_chg b7_5 c9 (by simp)
  have b9_11 := box_chg b7_11 c9 (by simp)
  have b9_12 := box_chg b7_12 c9 (by simp)
  have o9_x0 := Dt.chg0 o7_x0 c9
  have o9_x1 := Dt.chg0 o7_x1 c9
  have o9_x2 := Dt.chg0 o7_x2 c9
  have o9_x3 := Dt.chg0 o7_x3 c9
  have o9_x4 := Dt.chg0 o7_x4 c9
  have o9_x5 := Dt.chg0 o_x5 c9
  have cH9 : Chg H H9 [] := (cH7).trans c9
  have h_x6 := dMesh.lt o_x6
  try simp at n_x6
  have one_x6 := dMesh_one o_x6
  simp [VM.look, b9_4, b9_5, b9_11, b9_12, get_app' b9_4, get_app' b9_5, get_app' b9_11, get_app' b9_12, cH9.1, Nat.le_add_right_of_le cH9.1, one_x0, one_x1, one_x2, one_x3, one_x4, one_x5, one_x6, ro0_2, ro1_0, ro3, dMesh_val, dTable_val, dIntS_val, f0, f1]
  have eq10 := fun F => eqMesh_d (frz := F) o9_x3 o_x6
  try simp only [dMesh_val] at eq10
  simp [eq10, VM.look, b9_4, b9_5, b9_11, b9_12, get_app' b9_4, get_app' b9_5, get_app' b9_11, get_app' b9_12, cH9.1, Nat.le_add_right_of_le cH9.1, one_x0, one_x1, one_x2, one_x3, one_x4, one_x5, one_x6, ro0_2, ro1_0, ro3, dMesh_val, dTable_val, dIntS_val, f0, f1]
  rw [go_draw (h := by kernel_rfl)]
  simp [VM.look, b9_4, b9_5, b9_11, b9_12, get_app' b9_4, get_app' b9_5, get_app' b9_11, get_app' b9_12, cH9.1, Nat.le_add_right_of_le cH9.1, one_x0, one_x1, one_x2, one_x3, one_x4, one_x5, one_x6, ro0_2, ro1_0, ro3, dMesh_val, dTable_val, dIntS_val, f0, f1]
  refine wp_thn (toTable_w u1_0 a1_0 (Rd.isI (Rd.chg r1_0 cH9 (by simp))) (by omega)) ?_
  rintro _ H11 ⟨v_x7, rfl, o_x7, c11, n_x7, d_x7⟩
  have l11 := c11.1
  try simp at l11
  have b11_4 := box_chg b9_4 c11 (by simp)
  have b11_5 := box_chg b9_5 c11 (by simp)
  have b11_11 := box_chg b9_11 c11 (by simp)
  have b11_12 := box_chg b9_12 c11 (by simp)
  have o11_x0 := Dt.chg0 o9_x0 c11
  have o11_x1 := Dt.chg0 o9_x1 c11
  have o11_x2 := Dt.chg0 o9_x2 c11
  have o11_x3 := Dt.chg0 o9_x3 c11
  have o11_x4 := Dt.chg0 o9_x4 c11
  have o11_x5 := Dt.chg0 o9_x5 c11
  have o11_x6 := Dt.chg0 o_x6 c11
  have cH11 : Chg H H11 [] := (cH9).trans c11
  have h_x7 := dTable.lt o_x7
  try simp at n_x7
  have one_x7 := dTable_one o_x7
  simp [VM.look, b11_4, b11_5, b11_11, b11_12, get_app' b11_4, get_app' b11_5, get_app' b11_11, get_app' b11_12, cH11.1, Nat.le_add_right_of_le cH11.1, one_x0, one_x1, one_x2, one_x3, one_x4, one_x5, one_x6, one_x7, ro0_2, ro1_0, ro3, dMesh_val, dTable_val, dIntS_val, f0, f1]
  have eq12 := fun F => eqTable_d (frz := F) o11_x4 o_x7
  try simp only [dTable_val] at eq12
  simp [eq12, VM.look, b11_4, b11_5, b11_11, b11_12, get_app' b11_4, get_app' b11_5, get_app' b11_11, get_app' b11_12, cH11.1, Nat.le_add_right_of_le cH11.1, one_x0, one_x1, one_x2, one_x3, one_x4, one_x5, one_x6, one_x7, ro0_2, ro1_0, ro3, dMesh_val, dTable_val, dIntS_val, f0, f1]
  refine wp_thn (toIntS_w u3 a3 (Rd.isI (Rd.chg r3 cH11 (by simp))) (by omega)) ?_
  rintro _ H13 ⟨v_x8, rfl, o_x8, c13, n_x8, d_x8⟩
  have l13 := c13.1
  try simp at l13
  have b13_4 := box_chg b11_4 c13 (by simp)
  have b13_5 := box_chg b11_5 c13 (by simp)
  have b13_11 := box_chg b11_11 c13 (by simp)
  have b13_12 := box_chg b11_12 c13 (by simp)
  have o13_x0 := Dt.chg0 o11_x0 c13
  have o13_x1 := Dt.chg0 o11_x1 c13
  have o13_x2 := Dt.chg0 o11_x2 c13
  have o13_x3 := Dt.chg0 o11_x3 c13
  have o13_x4 := Dt.chg0 o11_x4 c13
  have o13_x5 := Dt.chg0 o11_x5 c13
  have o13_x6 := Dt.chg0 o11_x6 c13
  have o13_x7 := Dt.chg0 o_x7 c13
  have cH13 : Chg H H13 [] := (cH11).trans c13
  have h_x8 := dIntS.lt o_x8
  try simp at n_x8
  have one_x8 := dIntS_one o_x8
  simp [VM.look, b13_4, b13_5, b13_11, b13_12, get_app' b13_4, get_app' b13_5, get_app' b13_11, get_app' b13_12, cH13.1, Nat.le_add_right_of_le cH13.1, one_x0, one_x1, one_x2, one_x3, one_x4, one_x5, one_x6, one_x7, one_x8, ro0_2, ro1_0, ro3, dMesh_val, dTable_val, dIntS_val, f0, f1]
  have eq14 := fun F => eqIntS_d (frz := F) o13_x5 o_x8
  try simp only [dIntS_val] at eq14
  simp [eq14, VM.look, b13_4, b13_5, b13_11, b13_12, get_app' b13_4, get_app' b13_5, get_app' b13_11, get_app' b13_12, cH13.1, Nat.le_add_right_of_le cH13.1, one_x0, one_x1, one_x2, one_x3, one_x4, one_x5, one_x6, one_x7, one_x8, ro0_2, ro1_0, ro3, dMesh_val, dTable_val, dIntS_val, f0, f1]
theorem law_FnExactMulticastCost {a0_0 : Int} {a0_1 : Int} {a0_2 : List (Int)} {u0_2 : Value} {a1_0 : List (Int)} {u1_0 : Value} {a2 : Int} {a3 : List (Int)} {u3 : Value} (s0_2 : IsS (Kn.int .i64) H u0_2 a0_2) (s1_0 : IsS (Kn.int .i64) H u1_0 a1_0) (s3 : IsS (Kn.int .i64) H u3 a3)
    (w0 : (((Lit.int .i64 a0_0).wf = true) ∧ ((Lit.int .i64 a0_1).wf = true)) ∧ (a0_2.length ≤ maxLen ∧ ∀ x1 ∈ a0_2, (Lit.int .i64 x1).wf = true)) (w1 : (a1_0.length ≤ maxLen ∧ ∀ x2 ∈ a1_0, (Lit.int .i64 x2).wf = true)) (w2 : (Lit.int .i64 a2).wf = true) (w3 : a3.length ≤ maxLen ∧ ∀ x3 ∈ a3, (Lit.int .i64 x3).wf = true) :
    vcall C frz 12 [.agg #[.int .i64 a0_0, .int .i64 a0_1, u0_2], .agg #[u1_0], .int .i64 a2, u3] H = some (.bool true, H) :=
  (law_FnExactMulticastCost_w s0_2 s1_0 s3 w0 w1 w2 w3).exact (by simp) rfl
end Go.Proofs.Ytnakhkfgheapoaa.V
