/- Parts of a proof that the law FnExactIsLink holds for every input: contracts of the program's functions and plain laws on what they compute. -/
import Derived.Test.YtohkocaalbndoaaQFnExactIsLink0
import Derived.Test.YtohkocaalbndoaaQFnExactIsLink6
import Derived.Test.YtohkocaalbndoaaQFnExactIsLink5
import Derived.Test.YtohkocaalbndoaaQFnExactIsLink2
import Derived.Test.YtohkocaalbndoaaQFnExactIsLink1
import Derived.Test.YtohkocaalbndoaaQFnExactIsLink3
import Derived.Test.YtohkocaalbndoaaQFnExactIsLink4
section
namespace Go.Proofs.Ytohkocaalbndoaa.F
open Go.RowKit Go.Proofs.YtohkocaalbndoaaW.PrintWords Go.Proofs.YtohkocaalbndoaaW.PrintLast Go.Proofs.YtohkocaalbndoaaW.PrintMore
attribute [local go_sem] max2_int min2_int max_two min_two max_three min_three max_four min_four   -- for this text's walks alone
set_option linter.unusedVariables false
set_option linter.unusedSimpArgs false

/-! ### laws_heldIntS: function 23 -/
def laws_heldIntS.l0 : Nat → List Int → Int → Int → Option (Int)
  | 0, _, _, _ => none
  | k + 1, x0, x1, x5 => if x5 < (x0.length : Int) then (if 0 ≤ x5 then (if (rd x0 x5) = x1 then (laws_heldIntS.l0 k x0 (wrap64 (x1 + 1)) (wrap64 (x5 + 1))) else (some (-1))) else (none)) else (some x1)
def laws_heldIntS.f (k : Nat) (l0 : List Int) (a1 : Int) : Option (Int) := laws_heldIntS.l0 k l0 a1 0
theorem laws_heldIntS.mono_l : ∀ k, (∀ y0 y1 y2, LeO (laws_heldIntS.l0 k y0 y1 y2) (laws_heldIntS.l0 (k + 1) y0 y1 y2))
  | 0 => fun _ _ _ r h => by simp [laws_heldIntS.l0] at h
  | k + 1 => by
    have ih0 := laws_heldIntS.mono_l k
    · intro y0 y1 y2
      unfold laws_heldIntS.l0
      repeat' first
      | (with_reducible exact ih0 _ _ _)
      | (with_reducible exact LeO.refl _)
      | (with_reducible exact LeO.none _)
      | (with_reducible refine LeO.ite ?_ ?_)
      | (with_reducible refine LeO.bind ?_ (fun _ => ?_))
      | exact ih0 _ _ _
      | exact LeO.none _
      | refine LeO.ite ?_ ?_
      | refine LeO.bind ?_ (fun _ => ?_)
theorem laws_heldIntS.mono : ∀ a0 a1 k, LeO (laws_heldIntS.f k a0 a1) (laws_heldIntS.f (k + 1) a0 a1) := by
  intro a0 a1 k
  have ih0 := laws_heldIntS.mono_l k
  unfold laws_heldIntS.f
  repeat' first
      | (with_reducible exact ih0 _ _ _)
      | (with_reducible exact LeO.refl _)
      | (with_reducible exact LeO.none _)
      | (with_reducible refine LeO.ite ?_ ?_)
      | (with_reducible refine LeO.bind ?_ (fun _ => ?_))
      | exact ih0 _ _ _
      | exact LeO.none _
      | refine LeO.ite ?_ ?_
      | refine LeO.bind ?_ (fun _ => ?_)
set_option maxHeartbeats 8000000 in
set_option maxRecDepth 100000 in
theorem laws_heldIntS.calls (k : Nat) (A0 : Option Addr) (c0 : Nat) (l0 : List Int) (a1 : Int) (r : Int) (w : World) (hr0 : Kd.C (Kd.int .i64) w A0 l0.length l0) (hc0 : l0.length ≤ c0) (h : laws_heldIntS.f k l0 a1 = some r) :
    Calls Try.prog 23 #[.slice A0 l0.length c0, .int .i64 a1] w fun e w' => e = .returned (.int .i64 r) ∧ Drawn0 w w' := by
  have HR0 := Aside0.mk hr0
  have HC0 := Aside0.mk hc0
  clear hr0 hc0
  have H : (laws_heldIntS.l0 k l0 a1 0) = some r := h
  clear h
  have H' := Aside0.mk H
  clear H
  go_enter Try.func23, Try.ntmps23
  go_wp2
  go_loopg [1, 5] k (fun kq v1 v5 w' => ∃ (x1_1 : Int) (x5_1 : Int), v1 = .int .i64 x1_1 ∧ v5 = .int .i64 x5_1 ∧ Aside0 (laws_heldIntS.l0 kq l0 x1_1 x5_1 = some r) ∧ Aside0 (kq ≤ k) ∧ Drawn0 w w')
  case atStart => exact ⟨(a1), (0), (by first | rfl | (simp; done) | (simp [*]; done)), (by first | rfl | (simp; done) | (simp [*]; done)), H', ⟨Nat.le_refl _⟩, by repeat (first | exact Drawn0.refl _ | apply Drawn0.step)⟩
  case round =>
    clear H'
    try clear c2
    try clear p2
    obtain ⟨x1_1, x5_1, rfl, rfl, HA, HK1, ⟨m1, rfl⟩⟩ := hrel
    cases gk with
    | zero => exact absurd HA.out (by simp [laws_heldIntS.l0])
    | succ k1 =>
      have H := HA.out
      clear HA
      simp only [laws_heldIntS.l0] at H
      by_cases c3 : x5_1 < (l0.length : Int)
      · rw [if_pos c3] at H
        have c3b0 : decide (x5_1 < (l0.length : Int)) = true := decide_eq_true c3
        clear c3
        by_cases c4 : 0 ≤ x5_1
        · rw [if_pos c4] at H
          have c4b0 : decide (0 ≤ x5_1) = true := decide_eq_true c4
          clear c4
          by_cases c5 : (rd l0 x5_1) = x1_1
          · rw [if_pos c5] at H
            have c5b0 : ((rd l0 x5_1) == x1_1) = true := beq_iff_eq.mpr c5
            have c5b1 : ((rd l0 x5_1) != x1_1) = false := bne_eq_false_iff_eq.mpr c5
            clear c5
            have H' := Aside0.mk H
            clear H
            have p101 : 0 ≤ (x5_1 : Int) := of_decide_eq_true (by first | (with_reducible assumption) | assumption)
            have q101 : x5_1 < (l0.length : Int) := of_decide_eq_true (by first | (with_reducible assumption) | assumption)
            obtain ⟨ad101, e101, hx101_0⟩ := Kd.at_int HR0.out x5_1 p101 q101
            cases e101
            replace p101 := eq_true p101
            replace q101 := eq_true q101
            go_wp2
            go_roundg k1
            case measure => have := HK1.out; omega
            case rel => exact ⟨(wrap64 (x1_1 + 1)), (wrap64 (x5_1 + 1)), (by first | rfl | (simp; done) | (simp [*]; done)), (by first | rfl | (simp; done) | (simp [*]; done)), H', ⟨by have := HK1.out; omega⟩, by repeat (first | exact Drawn0.refl _ | apply Drawn0.step)⟩
          · rw [if_neg c5] at H
            have c5b0 : ((rd l0 x5_1) == x1_1) = false := beq_eq_false_iff_ne.mpr c5
            have c5b1 : ((rd l0 x5_1) != x1_1) = true := bne_iff_ne.mpr c5
            obtain rfl := Option.some.inj H
            have p101 : 0 ≤ (x5_1 : Int) := of_decide_eq_true (by first | (with_reducible assumption) | assumption)
            have q101 : x5_1 < (l0.length : Int) := of_decide_eq_true (by first | (with_reducible assumption) | assumption)
            obtain ⟨ad101, e101, hx101_0⟩ := Kd.at_int HR0.out x5_1 p101 q101
            cases e101
            replace p101 := eq_true p101
            replace q101 := eq_true q101
            go_wp2
            go_ret
            exact ⟨by first | rfl | (simp; done) | (simp [*]; done), by repeat (first | exact Drawn0.refl _ | apply Drawn0.step)⟩
        · rw [if_neg c4] at H
          exact absurd H (by simp)
      · rw [if_neg c3] at H
        have c3b0 : decide (x5_1 < (l0.length : Int)) = false := decide_eq_false c3
        clear c3
        obtain rfl := Option.some.inj H
        go_wp2
        go_ret
        exact ⟨by first | rfl | (simp; done) | (simp [*]; done), by repeat (first | exact Drawn0.refl _ | apply Drawn0.step)⟩

end Go.Proofs.Ytohkocaalbndoaa.F
end

section
/-! The laws' own helpers on slices of whole numbers: a copy, equality, marks. -/
namespace Go.Proofs.Ytohkocaalbndoaa.Pure
open Go.RowKit Go.Proofs.Ytohkocaalbndoaa.F Go.Proofs.YtohkocaalbndoaaW.PrintWords Go.Proofs.YtohkocaalbndoaaW.PrintLast Go.Proofs.YtohkocaalbndoaaW.PrintMore
set_option linter.unusedVariables false
set_option linter.unusedSimpArgs false

theorem toIntS_ev (l : List Int) (hl : l.length ≤ 35184372088832) : Ev (fun k => laws_toIntS.f k l) l := by
  have key : ∀ d j (x : List Int), j + d = l.length → x.length = l.length → (∀ i, i < j → x[i]? = l[i]?) → Ev (fun k => laws_toIntS.l0 k l x (j : Int)) l := by
    intro d
    induction d with
    | zero =>
      intro j x hj hx hi
      refine Ev.step (f := fun _ => some x) (fun k => by simp only [laws_toIntS.l0]; rw [if_neg (by omega)]) ?_
      have : x = l := List.ext_getElem? (fun i => by
        by_cases h : i < j
        · exact hi i h
        · rw [List.getElem?_eq_none (by omega), List.getElem?_eq_none (by omega)])
      rw [this]; exact Ev.now _
    | succ d ih =>
      intro j x hj hx hi
      have h := ih (j + 1) (x.set j l[j]) (by omega) (by simpa using hx) (fun i hi' => by
        by_cases h : i = j
        · subst h; rw [List.getElem?_set_self (by omega)]; simp
        · rw [List.getElem?_set_ne (by omega)]; exact hi i (by omega))
      refine Ev.step (fun k => ?_) h
      simp only [laws_toIntS.l0]
      rw [if_pos (by omega), if_pos (by omega), if_pos (by omega), w64 (by omega) (by omega), rd_at (by omega)]
      simp
  have h := key l.length 0 (List.replicate l.length 0) (by omega) (by simp) (by intro i hi; omega)
  refine Ev.congr (fun k => ?_) h
  unfold laws_toIntS.f
  rw [if_pos (by omega)]
  simp only [Int.toNat_natCast]
  rw [if_pos hl]; rfl

theorem eqIntS_ev (a b : List Int) (ha : a.length ≤ 9223372036854775807) : Ev (fun k => laws_eqIntS.f k a b) (decide (a = b)) := by
  by_cases hl : a.length = b.length
  · have key : ∀ d j, j + d = a.length → (∀ i, i < j → a[i]? = b[i]?) → Ev (fun k => laws_eqIntS.l0 k a b (j : Int)) (decide (a = b)) := by
      intro d
      induction d with
      | zero =>
        intro j hj hi
        have e : a = b := List.ext_getElem? (fun i => by
          by_cases h : i < j
          · exact hi i h
          · rw [List.getElem?_eq_none (by omega), List.getElem?_eq_none (by omega)])
        rw [decide_eq_true e]
        exact Ev.step (f := fun _ => some true) (fun k => by simp only [laws_eqIntS.l0]; rw [if_neg (by omega)]) (Ev.now _)
      | succ d ih =>
        intro j hj hi
        by_cases h : a[j]'(by omega) = b[j]'(by omega)
        · refine Ev.step (fun k => ?_) (ih (j + 1) (by omega) (fun i hi' => by
            by_cases h' : i = j
            · subst h'; rw [List.getElem?_eq_getElem (by omega), List.getElem?_eq_getElem (by omega), h]
            · exact hi i (by omega)))
          simp only [laws_eqIntS.l0]
          rw [if_pos (by omega), if_pos (by omega), if_pos (by omega), w64 (by omega) (by omega), rd_at (by omega), rd_at (by omega), if_pos h]
          simp
        · have e : a ≠ b := by intro e; subst e; exact h rfl
          rw [decide_eq_false e]
          refine Ev.step (f := fun _ => some false) (fun k => ?_) (Ev.now _)
          simp only [laws_eqIntS.l0]
          rw [if_pos (by omega), if_pos (by omega), if_pos (by omega), rd_at (by omega), rd_at (by omega), if_neg h]
    refine Ev.congr (fun k => ?_) (key a.length 0 (by omega) (by intro i hi; omega))
    unfold laws_eqIntS.f
    rw [if_pos (by omega)]; rfl
  · have e : a ≠ b := by intro e; subst e; exact hl rfl
    rw [decide_eq_false e]
    exact Ev.congr (f := fun _ => some false) (fun k => by unfold laws_eqIntS.f; rw [if_neg (by omega)]) (Ev.now _)

/-- The marks m, m+1, .. -/
def marks (m n : Nat) : List Int := (List.range n).map fun i => ((m + i : Nat) : Int)
theorem marks_length (m n : Nat) : (marks m n).length = n := by simp [marks]
theorem markIntS_ev (l : List Int) (m : Nat) (hm : m + l.length ≤ 9223372036854775807) : Ev (fun k => laws_markIntS.f k l (m : Int)) (((m + l.length : Nat) : Int), marks m l.length) := by
  have key : ∀ d j (x : List Int), j + d = l.length → x.length = l.length → (∀ i, i < j → x[i]? = (marks m l.length)[i]?) → Ev (fun k => laws_markIntS.l0 k x ((m + j : Nat) : Int) (j : Int)) (((m + l.length : Nat) : Int), marks m l.length) := by
    intro d
    induction d with
    | zero =>
      intro j x hj hx hi
      have e : x = marks m l.length := List.ext_getElem? (fun i => by
        by_cases h : i < j
        · exact hi i h
        · rw [List.getElem?_eq_none (by omega), List.getElem?_eq_none (by rw [marks_length]; omega)])
      have e2 : j = l.length := by omega
      subst e2
      rw [← e]
      exact Ev.step (f := fun _ => some (((m + l.length : Nat) : Int), x)) (fun k => by simp only [laws_markIntS.l0]; rw [if_neg (by omega)]) (Ev.now _)
    | succ d ih =>
      intro j x hj hx hi
      have h := ih (j + 1) (x.set j ((m + j : Nat) : Int)) (by omega) (by simpa using hx) (fun i hi' => by
        by_cases h : i = j
        · subst h; rw [List.getElem?_set_self (by omega)]; simp [marks, show i < l.length by omega]
        · rw [List.getElem?_set_ne (by omega)]; exact hi i (by omega))
      refine Ev.step (fun k => ?_) h
      simp only [laws_markIntS.l0]
      rw [if_pos (by omega), if_pos (by omega), w64 (by omega) (by omega), w64 (by omega) (by omega)]
      simp [Int.add_assoc]
  refine Ev.congr (fun k => ?_) (key l.length 0 l (by omega) rfl (by intro i hi; omega))
  rfl
theorem heldIntS_ev (n m : Nat) (hm : m + n ≤ 9223372036854775807) : Ev (fun k => laws_heldIntS.f k (marks m n) (m : Int)) ((m + n : Nat) : Int) := by
  have key : ∀ d j, j + d = n → Ev (fun k => laws_heldIntS.l0 k (marks m n) ((m + j : Nat) : Int) (j : Int)) ((m + n : Nat) : Int) := by
    intro d
    induction d with
    | zero =>
      intro j hj
      have e2 : j = n := by omega
      subst e2
      exact Ev.step (f := fun _ => some ((m + j : Nat) : Int)) (fun k => by simp only [laws_heldIntS.l0, marks_length]; rw [if_neg (by omega)]) (Ev.now _)
    | succ d ih =>
      intro j hj
      refine Ev.step (fun k => ?_) (ih (j + 1) (by omega))
      simp only [laws_heldIntS.l0, marks_length]
      rw [if_pos (by omega), if_pos (by omega), rd_at (by rw [marks_length]; omega), if_pos (by simp [marks]), w64 (by omega) (by omega), w64 (by omega) (by omega)]
      simp [Int.add_assoc]
  exact key n 0 (by omega)
end Go.Proofs.Ytohkocaalbndoaa.Pure
end

section
namespace Go.Proofs.Ytohkocaalbndoaa.F
open Go.RowKit Go.Proofs.YtohkocaalbndoaaW.PrintWords Go.Proofs.YtohkocaalbndoaaW.PrintLast Go.Proofs.YtohkocaalbndoaaW.PrintMore
attribute [local go_sem] max2_int min2_int max_two min_two max_three min_three max_four min_four   -- for this text's walks alone
set_option linter.unusedVariables false
set_option linter.unusedSimpArgs false

/-! ### spec_AncestorsOf: function 20 -/
def spec_AncestorsOf.l0 : Nat → List Int → List Int → Int → Option (List Int)
  | 0, _, _, _ => none
  | k + 1, x0, x5, x6 => (spec_l01In.f x6 0 (wrap64 ((x0.length : Int) - 1))).bind fun t104 => (if t104 = true then (if (x5.length : Int) = (x0.length : Int) then (some (([] : List Int))) else (if x5.length < 17592186044416 then (if 0 ≤ x6 then (if x6 < (x0.length : Int) then (spec_AncestorsOf.l0 k x0 (x5 ++ [x6]) (rd x0 x6)) else (none)) else (none)) else (none))) else (if x6 = (-1) then (if (x5.length : Int) = 0 then (some (([] : List Int))) else (some x5)) else (some (([] : List Int)))))
def spec_AncestorsOf.f (k : Nat) (l0 : List Int) (a1 : Int) : Option (List Int) := spec_AncestorsOf.l0 k l0 (([] : List Int)) a1
theorem spec_AncestorsOf.mono_l : ∀ k, (∀ y0 y1 y2, LeO (spec_AncestorsOf.l0 k y0 y1 y2) (spec_AncestorsOf.l0 (k + 1) y0 y1 y2))
  | 0 => fun _ _ _ r h => by simp [spec_AncestorsOf.l0] at h
  | k + 1 => by
    have ih0 := spec_AncestorsOf.mono_l k
    · intro y0 y1 y2
      unfold spec_AncestorsOf.l0
      repeat' first
      | (with_reducible exact ih0 _ _ _)
      | (with_reducible exact LeO.refl _)
      | (with_reducible exact LeO.none _)
      | (with_reducible refine LeO.ite ?_ ?_)
      | (with_reducible refine LeO.bind ?_ (fun _ => ?_))
      | exact ih0 _ _ _
      | exact LeO.none _
      | refine LeO.ite ?_ ?_
      | refine LeO.bind ?_ (fun _ => ?_)
theorem spec_AncestorsOf.mono : ∀ a0 a1 k, LeO (spec_AncestorsOf.f k a0 a1) (spec_AncestorsOf.f (k + 1) a0 a1) := by
  intro a0 a1 k
  have ih0 := spec_AncestorsOf.mono_l k
  unfold spec_AncestorsOf.f
  repeat' first
      | (with_reducible exact ih0 _ _ _)
      | (with_reducible exact LeO.refl _)
      | (with_reducible exact LeO.none _)
      | (with_reducible refine LeO.ite ?_ ?_)
      | (with_reducible refine LeO.bind ?_ (fun _ => ?_))
      | exact ih0 _ _ _
      | exact LeO.none _
      | refine LeO.ite ?_ ?_
      | refine LeO.bind ?_ (fun _ => ?_)
set_option maxHeartbeats 8000000 in
set_option maxRecDepth 100000 in
theorem spec_AncestorsOf.calls (k : Nat) (A0 : Option Addr) (c0 : Nat) (l0 : List Int) (a1 : Int) (r : List Int) (w : World) (hr0 : Kd.C (Kd.int .i64) w A0 l0.length l0) (hc0 : l0.length ≤ c0) (h : spec_AncestorsOf.f k l0 a1 = some r) :
    Calls Try.prog 20 #[.slice A0 l0.length c0, .int .i64 a1] w fun e w' => ∃ v0_ : Value, e = .returned (v0_) ∧ Kd.R (Kd.int .i64) 3 w' w.heap.size (fun _ => True) v0_ r ∧ Below w.heap.size w w' := by
  have HR0 := Aside0.mk hr0
  have HC0 := Aside0.mk hc0
  clear hr0 hc0
  have HB := Aside0.mk (Below.refl w.heap.size w)
  have H : (spec_AncestorsOf.l0 k l0 (([] : List Int)) a1) = some r := h
  clear h
  obtain ⟨y101, hy101⟩ : ∃ y_ : List Int, y_ = (([] : List Int)) := ⟨_, rfl⟩
  replace H : (spec_AncestorsOf.l0 k l0 y101 a1) = some r := by first | (rw [hy101]; with_reducible exact H) | (have H2_ := (Option.bind_some _ _).symm.trans H; rw [hy101]; with_reducible exact H2_) | (have H2_ := (Option.bind_some _ _).symm.trans H; with_reducible exact H2_) | with_reducible exact H | (rw [hy101]; exact H) | exact H
  have Ny101 := Aside0.mk hy101
  clear hy101
  have H' := Aside0.mk H
  clear H
  go_enter Try.func20, Try.ntmps20
  go_wp2_with (first | ((with_reducible refine gate_dst (N := 7) rfl ?_); (try (refine gate_guard (by rfl) ?_; dsimp only)); refine Kd.R_lit (Kd.int .i64) _ 3 ?hg (N := 7) ?hd (xs := ([] : List Int)) (inner := []) (ok := fun _ => True) (okp := fun _ => True) ?hr ?hp (fun _ hk => hk) trivial (Below.refl _ _) (Nat.le_refl _) (by simp) ?_; (case hd => rfl); (case hg => rfl); (case hr => first | (go_simp; done) | (go_simp; rfl)); (case hp => exact (Reps.none _ _)); intro v102 w3 ho4 hb hg_ hnew_; clear hg_ hnew_; (first | rw [← Ny101.out] at ho4 | (simp only [Int.reduceToNat] at ho4; rw [← Ny101.out] at ho4)); have n0_ := Aside0.mk (Kd.R_lower ho4 (below_size (by repeat (first | (with_reducible first | exact HB.out | apply below_alloc | apply pw_below_drewN | apply below_drew1) | exact HB.out)))); have n1_ := Aside0.mk (below_step (by repeat (first | (with_reducible first | exact HB.out | apply below_alloc | apply pw_below_drewN | apply below_drew1) | exact HB.out)) hb); clear HB; have HO103 := n0_; have HB := n1_; clear n0_ n1_; clear hb ho4))
  go_loopg [5, 6] k (fun kq v5 v6 w' => ∃ (x5_1 : List Int) (x6_1 : Int), v6 = .int .i64 x6_1 ∧ Aside0 (spec_AncestorsOf.l0 kq l0 x5_1 x6_1 = some r) ∧ Aside0 (kq ≤ k) ∧ Aside0 (Kd.R (Kd.int .i64) 3 w' w.heap.size (fun _ => True) v5 x5_1) ∧ Aside0 (Below w.heap.size w w'))
  case atStart => exact ⟨(y101), (a1), (by first | rfl | (simp; done) | (simp [*]; done)), H', ⟨Nat.le_refl _⟩, ⟨by (with_reducible repeat (first | apply Kd.R_alloc | apply Kd.R_drewN | apply Kd.R_drew)); exact HO103.out⟩, ⟨by repeat (first | (with_reducible first | exact HB.out | apply below_alloc | apply pw_below_drewN | apply below_drew1) | exact HB.out)⟩⟩
  case round =>
    clear H'
    try clear c2
    try clear p2
    obtain ⟨x5_1, x6_1, rfl, HA, HK1, HO_5, HB⟩ := hrel
    cases gk with
    | zero => exact absurd HA.out (by simp [spec_AncestorsOf.l0])
    | succ k1 =>
      have H := HA.out
      clear HA
      simp only [spec_AncestorsOf.l0] at H
      replace H := Option.bind_eq_some_iff.mp H
      obtain ⟨t104, A50, H⟩ := H
      replace H : (if t104 = true then (if (x5_1.length : Int) = (l0.length : Int) then (some (([] : List Int))) else (if x5_1.length < 17592186044416 then (if 0 ≤ x6_1 then (if x6_1 < (l0.length : Int) then (spec_AncestorsOf.l0 k1 l0 (x5_1 ++ [x6_1]) (rd l0 x6_1)) else (none)) else (none)) else (none))) else (if x6_1 = (-1) then (if (x5_1.length : Int) = 0 then (some (([] : List Int))) else (some x5_1)) else (some (([] : List Int))))) = some r := H
      have A5 := Aside0.mk A50
      clear A50
      by_cases c6 : t104 = true
      · subst c6
        have H1 : (if (x5_1.length : Int) = (l0.length : Int) then (some (([] : List Int))) else (if x5_1.length < 17592186044416 then (if 0 ≤ x6_1 then (if x6_1 < (l0.length : Int) then (spec_AncestorsOf.l0 k1 l0 (x5_1 ++ [x6_1]) (rd l0 x6_1)) else (none)) else (none)) else (none))) = some r := by rw [if_pos rfl] at H; exact H
        clear H
        have H := H1
        clear H1
        by_cases c7 : (x5_1.length : Int) = (l0.length : Int)
        · rw [if_pos c7] at H
          have c7b0 : ((x5_1.length : Int) == (l0.length : Int)) = true := beq_iff_eq.mpr c7
          have c7b1 : ((x5_1.length : Int) != (l0.length : Int)) = false := bne_eq_false_iff_eq.mpr c7
          have c7b2 : (x5_1.length == l0.length) = true := by first | simpa using c7 | (simp at c7 ⊢; omega)
          clear c7
          obtain ⟨y105, hy105⟩ : ∃ y_ : List Int, y_ = (([] : List Int)) := ⟨_, rfl⟩
          replace H : (some y105) = some r := by first | (rw [hy105]; with_reducible exact H) | (have H2_ := (Option.bind_some _ _).symm.trans H; rw [hy105]; with_reducible exact H2_) | (have H2_ := (Option.bind_some _ _).symm.trans H; with_reducible exact H2_) | with_reducible exact H | (rw [hy105]; exact H) | exact H
          have Ny105 := Aside0.mk hy105
          clear hy105
          obtain rfl := Option.some.inj H
          go_wp2_with (first | ((with_reducible refine gate_callee (f := 49) rfl ?_); refine goesL_ (some 13) rfl rfl Try.func49 (by kernel_rfl) rfl #[.int .i64 x6_1, .int .i64 0, .int .i64 (wrap64 ((l0.length : Int) - 1))] rfl (by (try simp only [List.map_toArray, List.map_cons, List.map_nil]); first | done | rfl | (simp only [List.length_drop, List.length_take]; rfl)) ?_; (with_reducible refine (spec_l01In.calls x6_1 0 (wrap64 ((l0.length : Int) - 1)) true _ A5.out).mono ?_); rintro e w' ⟨rfl, ⟨nd, rfl⟩⟩; refine ⟨_, rfl, ?_⟩; obtain ⟨Ao8, co8, eo8⟩ := Kd.R_slice HO_5.out; subst eo8) | ((with_reducible refine gate_dst (N := 19) rfl ?_); (try (refine gate_guard (by rfl) ?_; dsimp only)); refine Kd.R_lit (Kd.int .i64) _ 3 ?hg (N := 19) ?hd (xs := ([] : List Int)) (inner := []) (ok := fun _ => True) (okp := fun _ => True) ?hr ?hp (fun _ hk => hk) trivial (Below.refl _ _) (Nat.le_refl _) (by simp) ?_; (case hd => rfl); (case hg => rfl); (case hr => first | (go_simp; done) | (go_simp; rfl)); (case hp => exact (Reps.none _ _)); intro v106 w9 ho10 hb hg_ hnew_; clear hg_ hnew_; (first | rw [← Ny105.out] at ho10 | (simp only [Int.reduceToNat] at ho10; rw [← Ny105.out] at ho10)); have n0_ := Aside0.mk (Kd.R_elder' (by (with_reducible repeat (first | apply Kd.R_alloc | apply Kd.R_drewN | apply Kd.R_drew)); exact HO_5.out) (Kd.R_base ho10) hb); have n1_ := Aside0.mk (Kd.R_lower (Kd.R_new' ho10 (Kd.R_lt (by (with_reducible repeat (first | apply Kd.R_alloc | apply Kd.R_drewN | apply Kd.R_drew)); exact HO_5.out))) (below_size (by repeat (first | (with_reducible first | exact HB.out | apply below_alloc | apply pw_below_drewN | apply below_drew1) | exact HB.out)))); have n2_ := Aside0.mk (below_step (by repeat (first | (with_reducible first | exact HB.out | apply below_alloc | apply pw_below_drewN | apply below_drew1) | exact HB.out)) hb); clear HO_5; clear HB; have HO_5 := n0_; have HO107 := n1_; have HB := n2_; clear n0_ n1_ n2_; clear hb ho10))
          go_ret
          exact ⟨_, by first | rfl | (simp [errW_none, errW_some] <;> rfl) | (simp [*, errW_none, errW_some] <;> rfl), by (with_reducible repeat (first | apply Kd.R_alloc | apply Kd.R_drewN | apply Kd.R_drew)); exact Kd.R_mono HO107.out (fun _ hk => trivial), by repeat (first | (with_reducible first | exact HB.out | apply below_alloc | apply pw_below_drewN | apply below_drew1) | exact HB.out)⟩
        · rw [if_neg c7] at H
          have c7b0 : ((x5_1.length : Int) == (l0.length : Int)) = false := beq_eq_false_iff_ne.mpr c7
          have c7b1 : ((x5_1.length : Int) != (l0.length : Int)) = true := bne_iff_ne.mpr c7
          have c7b2 : (x5_1.length == l0.length) = false := by first | simpa using c7 | (simp at c7 ⊢; omega)
          by_cases c11 : x5_1.length < 17592186044416
          · rw [if_pos c11] at H
            have LMc11 := Aside0.mk c11
            clear c11
            obtain ⟨y108, hy108⟩ : ∃ y_ : List Int, y_ = (x5_1 ++ [x6_1]) := ⟨_, rfl⟩
            replace H : (if 0 ≤ x6_1 then (if x6_1 < (l0.length : Int) then (spec_AncestorsOf.l0 k1 l0 y108 (rd l0 x6_1)) else (none)) else (none)) = some r := by first | (rw [hy108]; with_reducible exact H) | (have H2_ := (Option.bind_some _ _).symm.trans H; rw [hy108]; with_reducible exact H2_) | (have H2_ := (Option.bind_some _ _).symm.trans H; with_reducible exact H2_) | with_reducible exact H | (rw [hy108]; exact H) | exact H
            have Ny108 := Aside0.mk hy108
            clear hy108
            by_cases c12 : 0 ≤ x6_1
            · rw [if_pos c12] at H
              have c12b0 : decide (0 ≤ x6_1) = true := decide_eq_true c12
              clear c12
              by_cases c13 : x6_1 < (l0.length : Int)
              · rw [if_pos c13] at H
                have c13b0 : decide (x6_1 < (l0.length : Int)) = true := decide_eq_true c13
                clear c13
                have H' := Aside0.mk H
                clear H
                go_wp2_with (first | ((with_reducible refine gate_callee (f := 49) rfl ?_); refine goesL_ (some 13) rfl rfl Try.func49 (by kernel_rfl) rfl #[.int .i64 x6_1, .int .i64 0, .int .i64 (wrap64 ((l0.length : Int) - 1))] rfl (by (try simp only [List.map_toArray, List.map_cons, List.map_nil]); first | done | rfl | (simp only [List.length_drop, List.length_take]; rfl)) ?_; (with_reducible refine (spec_l01In.calls x6_1 0 (wrap64 ((l0.length : Int) - 1)) true _ A5.out).mono ?_); rintro e w' ⟨rfl, ⟨nd, rfl⟩⟩; refine ⟨_, rfl, ?_⟩; obtain ⟨Ao14, co14, eo14⟩ := Kd.R_slice HO_5.out; subst eo14) | ((with_reducible refine gate_builtin (b := .append) (xs := #[.tmp 20, .tmp 22]) rfl ?_); (try (refine gate_guard (by rfl) ?_; dsimp only)); at_builtin; refine Kd.R_append (Kd.int .i64) (w0 := w) w.heap.size rfl (.tmp 20) (.tmp 22) 28 3 (.int .i64 0) 8 rfl Try.underlying28 info3 rfl (by decide) (by omega) (.slice Ao14 x5_1.length co14) x5_1 x6_1 [.int .i64 x6_1] (fun _ => True) (fun _ => False) rfl rfl ?aP (fun _ hk => hk.elim) ?aF ?aO ?aB ?aS ?aL ?_; (case aP => exact rfl); (case aB => exact (by repeat (first | (with_reducible first | exact HB.out | apply below_alloc | apply pw_below_drewN | apply below_drew1) | exact HB.out))); (case aF => exact (fun _ _ => trivial)); (case aO => exact (by (with_reducible repeat (first | apply Kd.R_alloc | apply Kd.R_drewN | apply Kd.R_drew)); exact HO_5.out)); (case aS => exact (below_size (by repeat (first | (with_reducible first | exact HB.out | apply below_alloc | apply pw_below_drewN | apply below_drew1) | exact HB.out)))); (case aL => have := LMc11.out; omega); intro v109 w15 ho hb hg hat; rw [← Ny108.out] at ho; have n0_ := Aside0.mk (hb); have n1_ := Aside0.mk (ho); clear HB; clear HO_5; have HB := n0_; have HO110 := n1_; clear n0_ n1_; clear ho hb hg hat; have p111 : 0 ≤ (x6_1 : Int) := of_decide_eq_true (by first | (with_reducible assumption) | assumption); have q111 : x6_1 < (l0.length : Int) := of_decide_eq_true (by first | (with_reducible assumption) | assumption); obtain ⟨ad111, e111, hx111_0⟩ := Kd.at_int HR0.out x6_1 p111 q111; cases e111; replace hx111_0 := (HB.out.cell (World.block_lt_of_cell? w _ hx111_0)).trans hx111_0; replace p111 := eq_true p111; replace q111 := eq_true q111))
                go_roundg k1
                case measure => have := HK1.out; omega
                case rel => exact ⟨(y108), (rd l0 x6_1), (by first | rfl | (simp; done) | (simp [*]; done)), H', ⟨by have := HK1.out; omega⟩, ⟨by (with_reducible repeat (first | apply Kd.R_alloc | apply Kd.R_drewN | apply Kd.R_drew)); exact HO110.out⟩, ⟨by repeat (first | (with_reducible first | exact HB.out | apply below_alloc | apply pw_below_drewN | apply below_drew1) | exact HB.out)⟩⟩
              · rw [if_neg c13] at H
                exact absurd H (by simp)
            · rw [if_neg c12] at H
              exact absurd H (by simp)
          · rw [if_neg c11] at H
            exact absurd H (by simp)
      · replace c6 := Bool.eq_false_iff.mpr c6
        subst c6
        have H1 : (if x6_1 = (-1) then (if (x5_1.length : Int) = 0 then (some (([] : List Int))) else (some x5_1)) else (some (([] : List Int)))) = some r := by rw [if_neg (show ¬ (false = true) by decide)] at H; exact H
        clear H
        have H := H1
        clear H1
        by_cases c16 : x6_1 = (-1)
        · rw [if_pos c16] at H
          have c16b0 : (x6_1 == (-1)) = true := beq_iff_eq.mpr c16
          have c16b1 : (x6_1 != (-1)) = false := bne_eq_false_iff_eq.mpr c16
          clear c16
          by_cases c17 : (x5_1.length : Int) = 0
          · rw [if_pos c17] at H
            have c17b0 : ((x5_1.length : Int) == 0) = true := beq_iff_eq.mpr c17
            have c17b1 : ((x5_1.length : Int) != 0) = false := bne_eq_false_iff_eq.mpr c17
            clear c17
            obtain ⟨y112, hy112⟩ : ∃ y_ : List Int, y_ = (([] : List Int)) := ⟨_, rfl⟩
            replace H : (some y112) = some r := by first | (rw [hy112]; with_reducible exact H) | (have H2_ := (Option.bind_some _ _).symm.trans H; rw [hy112]; with_reducible exact H2_) | (have H2_ := (Option.bind_some _ _).symm.trans H; with_reducible exact H2_) | with_reducible exact H | (rw [hy112]; exact H) | exact H
            have Ny112 := Aside0.mk hy112
            clear hy112
            obtain rfl := Option.some.inj H
            go_wp2_with (first | ((with_reducible refine gate_callee (f := 49) rfl ?_); refine goesL_ (some 13) rfl rfl Try.func49 (by kernel_rfl) rfl #[.int .i64 x6_1, .int .i64 0, .int .i64 (wrap64 ((l0.length : Int) - 1))] rfl (by (try simp only [List.map_toArray, List.map_cons, List.map_nil]); first | done | rfl | (simp only [List.length_drop, List.length_take]; rfl)) ?_; (with_reducible refine (spec_l01In.calls x6_1 0 (wrap64 ((l0.length : Int) - 1)) false _ A5.out).mono ?_); rintro e w' ⟨rfl, ⟨nd, rfl⟩⟩; refine ⟨_, rfl, ?_⟩; obtain ⟨Ao18, co18, eo18⟩ := Kd.R_slice HO_5.out; subst eo18) | ((with_reducible refine gate_dst (N := 35) rfl ?_); (try (refine gate_guard (by rfl) ?_; dsimp only)); refine Kd.R_lit (Kd.int .i64) _ 3 ?hg (N := 35) ?hd (xs := ([] : List Int)) (inner := []) (ok := fun _ => True) (okp := fun _ => True) ?hr ?hp (fun _ hk => hk) trivial (Below.refl _ _) (Nat.le_refl _) (by simp) ?_; (case hd => rfl); (case hg => rfl); (case hr => first | (go_simp; done) | (go_simp; rfl)); (case hp => exact (Reps.none _ _)); intro v113 w19 ho20 hb hg_ hnew_; clear hg_ hnew_; (first | rw [← Ny112.out] at ho20 | (simp only [Int.reduceToNat] at ho20; rw [← Ny112.out] at ho20)); have n0_ := Aside0.mk (Kd.R_elder' (by (with_reducible repeat (first | apply Kd.R_alloc | apply Kd.R_drewN | apply Kd.R_drew)); exact HO_5.out) (Kd.R_base ho20) hb); have n1_ := Aside0.mk (Kd.R_lower (Kd.R_new' ho20 (Kd.R_lt (by (with_reducible repeat (first | apply Kd.R_alloc | apply Kd.R_drewN | apply Kd.R_drew)); exact HO_5.out))) (below_size (by repeat (first | (with_reducible first | exact HB.out | apply below_alloc | apply pw_below_drewN | apply below_drew1) | exact HB.out)))); have n2_ := Aside0.mk (below_step (by repeat (first | (with_reducible first | exact HB.out | apply below_alloc | apply pw_below_drewN | apply below_drew1) | exact HB.out)) hb); clear HO_5; clear HB; have HO_5 := n0_; have HO114 := n1_; have HB := n2_; clear n0_ n1_ n2_; clear hb ho20))
            go_ret
            exact ⟨_, by first | rfl | (simp [errW_none, errW_some] <;> rfl) | (simp [*, errW_none, errW_some] <;> rfl), by (with_reducible repeat (first | apply Kd.R_alloc | apply Kd.R_drewN | apply Kd.R_drew)); exact Kd.R_mono HO114.out (fun _ hk => trivial), by repeat (first | (with_reducible first | exact HB.out | apply below_alloc | apply pw_below_drewN | apply below_drew1) | exact HB.out)⟩
          · rw [if_neg c17] at H
            have c17b0 : ((x5_1.length : Int) == 0) = false := beq_eq_false_iff_ne.mpr c17
            have c17b1 : ((x5_1.length : Int) != 0) = true := bne_iff_ne.mpr c17
            have c17b2 : ¬ (x5_1 = []) := fun h_ => c17 (by rw [h_]; rfl)
            obtain rfl := Option.some.inj H
            go_wp2_with (first | ((with_reducible refine gate_callee (f := 49) rfl ?_); refine goesL_ (some 13) rfl rfl Try.func49 (by kernel_rfl) rfl #[.int .i64 x6_1, .int .i64 0, .int .i64 (wrap64 ((l0.length : Int) - 1))] rfl (by (try simp only [List.map_toArray, List.map_cons, List.map_nil]); first | done | rfl | (simp only [List.length_drop, List.length_take]; rfl)) ?_; (with_reducible refine (spec_l01In.calls x6_1 0 (wrap64 ((l0.length : Int) - 1)) false _ A5.out).mono ?_); rintro e w' ⟨rfl, ⟨nd, rfl⟩⟩; refine ⟨_, rfl, ?_⟩; obtain ⟨Ao21, co21, eo21⟩ := Kd.R_slice HO_5.out; subst eo21))
            go_ret
            exact ⟨_, by first | rfl | (simp [errW_none, errW_some] <;> rfl) | (simp [*, errW_none, errW_some] <;> rfl), by (with_reducible repeat (first | apply Kd.R_alloc | apply Kd.R_drewN | apply Kd.R_drew)); exact HO_5.out, by repeat (first | (with_reducible first | exact HB.out | apply below_alloc | apply pw_below_drewN | apply below_drew1) | exact HB.out)⟩
        · rw [if_neg c16] at H
          have c16b0 : (x6_1 == (-1)) = false := beq_eq_false_iff_ne.mpr c16
          have c16b1 : (x6_1 != (-1)) = true := bne_iff_ne.mpr c16
          obtain ⟨y115, hy115⟩ : ∃ y_ : List Int, y_ = (([] : List Int)) := ⟨_, rfl⟩
          replace H : (some y115) = some r := by first | (rw [hy115]; with_reducible exact H) | (have H2_ := (Option.bind_some _ _).symm.trans H; rw [hy115]; with_reducible exact H2_) | (have H2_ := (Option.bind_some _ _).symm.trans H; with_reducible exact H2_) | with_reducible exact H | (rw [hy115]; exact H) | exact H
          have Ny115 := Aside0.mk hy115
          clear hy115
          obtain rfl := Option.some.inj H
          go_wp2_with (first | ((with_reducible refine gate_callee (f := 49) rfl ?_); refine goesL_ (some 13) rfl rfl Try.func49 (by kernel_rfl) rfl #[.int .i64 x6_1, .int .i64 0, .int .i64 (wrap64 ((l0.length : Int) - 1))] rfl (by (try simp only [List.map_toArray, List.map_cons, List.map_nil]); first | done | rfl | (simp only [List.length_drop, List.length_take]; rfl)) ?_; (with_reducible refine (spec_l01In.calls x6_1 0 (wrap64 ((l0.length : Int) - 1)) false _ A5.out).mono ?_); rintro e w' ⟨rfl, ⟨nd, rfl⟩⟩; refine ⟨_, rfl, ?_⟩) | ((with_reducible refine gate_dst (N := 35) rfl ?_); (try (refine gate_guard (by rfl) ?_; dsimp only)); refine Kd.R_lit (Kd.int .i64) _ 3 ?hg (N := 35) ?hd (xs := ([] : List Int)) (inner := []) (ok := fun _ => True) (okp := fun _ => True) ?hr ?hp (fun _ hk => hk) trivial (Below.refl _ _) (Nat.le_refl _) (by simp) ?_; (case hd => rfl); (case hg => rfl); (case hr => first | (go_simp; done) | (go_simp; rfl)); (case hp => exact (Reps.none _ _)); intro v116 w22 ho23 hb hg_ hnew_; clear hg_ hnew_; (first | rw [← Ny115.out] at ho23 | (simp only [Int.reduceToNat] at ho23; rw [← Ny115.out] at ho23)); have n0_ := Aside0.mk (Kd.R_elder' (by (with_reducible repeat (first | apply Kd.R_alloc | apply Kd.R_drewN | apply Kd.R_drew)); exact HO_5.out) (Kd.R_base ho23) hb); have n1_ := Aside0.mk (Kd.R_lower (Kd.R_new' ho23 (Kd.R_lt (by (with_reducible repeat (first | apply Kd.R_alloc | apply Kd.R_drewN | apply Kd.R_drew)); exact HO_5.out))) (below_size (by repeat (first | (with_reducible first | exact HB.out | apply below_alloc | apply pw_below_drewN | apply below_drew1) | exact HB.out)))); have n2_ := Aside0.mk (below_step (by repeat (first | (with_reducible first | exact HB.out | apply below_alloc | apply pw_below_drewN | apply below_drew1) | exact HB.out)) hb); clear HO_5; clear HB; have HO_5 := n0_; have HO117 := n1_; have HB := n2_; clear n0_ n1_ n2_; clear hb ho23))
          go_ret
          exact ⟨_, by first | rfl | (simp [errW_none, errW_some] <;> rfl) | (simp [*, errW_none, errW_some] <;> rfl), by (with_reducible repeat (first | apply Kd.R_alloc | apply Kd.R_drewN | apply Kd.R_drew)); exact Kd.R_mono HO117.out (fun _ hk => trivial), by repeat (first | (with_reducible first | exact HB.out | apply below_alloc | apply pw_below_drewN | apply below_drew1) | exact HB.out)⟩

end Go.Proofs.Ytohkocaalbndoaa.F
end

section
namespace Go.Proofs.Ytohkocaalbndoaa.F
open Go.RowKit Go.Proofs.YtohkocaalbndoaaW.PrintWords Go.Proofs.YtohkocaalbndoaaW.PrintLast Go.Proofs.YtohkocaalbndoaaW.PrintMore
attribute [local go_sem] max2_int min2_int max_two min_two max_three min_three max_four min_four   -- for this text's walks alone
set_option linter.unusedVariables false
set_option linter.unusedSimpArgs false

/-! ### impl_AncestorsOf: function 21 -/
mutual
def impl_AncestorsOf.l0 : Nat → List Int → List Int → Int → Option (List Int)
  | 0, _, _, _ => none
  | k + 1, x0, x5, x6 => if x6 = (-1) then (impl_AncestorsOf.j1 k x0 x5 x6 ((x5.length : Int) == 0)) else (impl_AncestorsOf.j1 k x0 x5 x6 true)
def impl_AncestorsOf.j1 : Nat → List Int → List Int → Int → Bool → Option (List Int)
  | 0, _, _, _, _ => none
  | k + 1, x0, x5, x6, x15 => if x15 = true then ((impl_inside.f x6 0 (wrap64 ((x0.length : Int) - 1))).bind fun t104 => (if t104 = true then (if (x5.length : Int) = (x0.length : Int) then (some ([] : List Int)) else (if x5.length < 17592186044416 then (if 0 ≤ x6 then (if x6 < (x0.length : Int) then (impl_AncestorsOf.l0 k x0 (x5 ++ [x6]) (rd x0 x6)) else (none)) else (none)) else (none))) else (some ([] : List Int)))) else (some x5)
end
def impl_AncestorsOf.f (k : Nat) (l0 : List Int) (a1 : Int) : Option (List Int) := impl_AncestorsOf.l0 k l0 (([] : List Int)) a1
theorem impl_AncestorsOf.mono_l : ∀ k, (∀ y0 y1 y2, LeO (impl_AncestorsOf.l0 k y0 y1 y2) (impl_AncestorsOf.l0 (k + 1) y0 y1 y2)) ∧ (∀ y0 y1 y2 y3, LeO (impl_AncestorsOf.j1 k y0 y1 y2 y3) (impl_AncestorsOf.j1 (k + 1) y0 y1 y2 y3))
  | 0 => ⟨fun _ _ _ r h => by simp [impl_AncestorsOf.l0] at h, fun _ _ _ _ r h => by simp [impl_AncestorsOf.j1] at h⟩
  | k + 1 => by
    obtain ⟨ih0, ih1⟩ := impl_AncestorsOf.mono_l k
    refine ⟨?_, ?_⟩
    · intro y0 y1 y2
      unfold impl_AncestorsOf.l0
      repeat' first
      | (with_reducible exact ih0 _ _ _)
      | (with_reducible exact ih1 _ _ _ _)
      | (with_reducible exact LeO.refl _)
      | (with_reducible exact LeO.none _)
      | (with_reducible refine LeO.ite ?_ ?_)
      | (with_reducible refine LeO.bind ?_ (fun _ => ?_))
      | exact ih0 _ _ _
      | exact ih1 _ _ _ _
      | exact LeO.none _
      | refine LeO.ite ?_ ?_
      | refine LeO.bind ?_ (fun _ => ?_)
    · intro y0 y1 y2 y3
      unfold impl_AncestorsOf.j1
      repeat' first
      | (with_reducible exact ih0 _ _ _)
      | (with_reducible exact ih1 _ _ _ _)
      | (with_reducible exact LeO.refl _)
      | (with_reducible exact LeO.none _)
      | (with_reducible refine LeO.ite ?_ ?_)
      | (with_reducible refine LeO.bind ?_ (fun _ => ?_))
      | exact ih0 _ _ _
      | exact ih1 _ _ _ _
      | exact LeO.none _
      | refine LeO.ite ?_ ?_
      | refine LeO.bind ?_ (fun _ => ?_)
theorem impl_AncestorsOf.mono : ∀ a0 a1 k, LeO (impl_AncestorsOf.f k a0 a1) (impl_AncestorsOf.f (k + 1) a0 a1) := by
  intro a0 a1 k
  obtain ⟨ih0, ih1⟩ := impl_AncestorsOf.mono_l k
  unfold impl_AncestorsOf.f
  repeat' first
      | (with_reducible exact ih0 _ _ _)
      | (with_reducible exact ih1 _ _ _ _)
      | (with_reducible exact LeO.refl _)
      | (with_reducible exact LeO.none _)
      | (with_reducible refine LeO.ite ?_ ?_)
      | (with_reducible refine LeO.bind ?_ (fun _ => ?_))
      | exact ih0 _ _ _
      | exact ih1 _ _ _ _
      | exact LeO.none _
      | refine LeO.ite ?_ ?_
      | refine LeO.bind ?_ (fun _ => ?_)
set_option maxHeartbeats 8000000 in
set_option maxRecDepth 100000 in
theorem impl_AncestorsOf.calls (k : Nat) (A0 : Option Addr) (c0 : Nat) (l0 : List Int) (a1 : Int) (r : List Int) (w : World) (hr0 : Kd.C (Kd.int .i64) w A0 l0.length l0) (hc0 : l0.length ≤ c0) (h : impl_AncestorsOf.f k l0 a1 = some r) :
    Calls Try.prog 21 #[.slice A0 l0.length c0, .int .i64 a1] w fun e w' => ∃ v0_ : Value, e = .returned (v0_) ∧ Kd.R (Kd.int .i64) 3 w' w.heap.size (fun _ => True) v0_ r ∧ Below w.heap.size w w' := by
  have HR0 := Aside0.mk hr0
  have HC0 := Aside0.mk hc0
  clear hr0 hc0
  have HB := Aside0.mk (Below.refl w.heap.size w)
  have H : (impl_AncestorsOf.l0 k l0 (([] : List Int)) a1) = some r := h
  clear h
  obtain ⟨y101, hy101⟩ : ∃ y_ : List Int, y_ = (([] : List Int)) := ⟨_, rfl⟩
  replace H : (impl_AncestorsOf.l0 k l0 y101 a1) = some r := by first | (rw [hy101]; with_reducible exact H) | (have H2_ := (Option.bind_some _ _).symm.trans H; rw [hy101]; with_reducible exact H2_) | (have H2_ := (Option.bind_some _ _).symm.trans H; with_reducible exact H2_) | with_reducible exact H | (rw [hy101]; exact H) | exact H
  have Ny101 := Aside0.mk hy101
  clear hy101
  have H' := Aside0.mk H
  clear H
  go_enter Try.func21, Try.ntmps21
  go_wp2_with (first | ((with_reducible refine gate_dst (N := 7) rfl ?_); (try (refine gate_guard (by rfl) ?_; dsimp only)); refine Kd.R_lit (Kd.int .i64) _ 3 ?hg (N := 7) ?hd (xs := ([] : List Int)) (inner := []) (ok := fun _ => True) (okp := fun _ => True) ?hr ?hp (fun _ hk => hk) trivial (Below.refl _ _) (Nat.le_refl _) (by simp) ?_; (case hd => rfl); (case hg => rfl); (case hr => first | (go_simp; done) | (go_simp; rfl)); (case hp => exact (Reps.none _ _)); intro v102 w3 ho4 hb hg_ hnew_; clear hg_ hnew_; (first | rw [← Ny101.out] at ho4 | (simp only [Int.reduceToNat] at ho4; rw [← Ny101.out] at ho4)); have n0_ := Aside0.mk (Kd.R_lower ho4 (below_size (by repeat (first | (with_reducible first | exact HB.out | apply below_alloc | apply pw_below_drewN | apply below_drew1) | exact HB.out)))); have n1_ := Aside0.mk (below_step (by repeat (first | (with_reducible first | exact HB.out | apply below_alloc | apply pw_below_drewN | apply below_drew1) | exact HB.out)) hb); clear HB; have HO103 := n0_; have HB := n1_; clear n0_ n1_; clear hb ho4))
  go_loopg [5, 6] k (fun kq v5 v6 w' => ∃ (x5_1 : List Int) (x6_1 : Int), v6 = .int .i64 x6_1 ∧ Aside0 (impl_AncestorsOf.l0 kq l0 x5_1 x6_1 = some r) ∧ Aside0 (kq ≤ k) ∧ Aside0 (Kd.R (Kd.int .i64) 3 w' w.heap.size (fun _ => True) v5 x5_1) ∧ Aside0 (Below w.heap.size w w'))
  case atStart => exact ⟨(y101), (a1), (by first | rfl | (simp; done) | (simp [*]; done)), H', ⟨Nat.le_refl _⟩, ⟨by (with_reducible repeat (first | apply Kd.R_alloc | apply Kd.R_drewN | apply Kd.R_drew)); exact HO103.out⟩, ⟨by repeat (first | (with_reducible first | exact HB.out | apply below_alloc | apply pw_below_drewN | apply below_drew1) | exact HB.out)⟩⟩
  case round =>
    clear H'
    try clear c2
    try clear p2
    obtain ⟨x5_1, x6_1, rfl, HA, HK1, HO_5, HB⟩ := hrel
    cases gk with
    | zero => exact absurd HA.out (by simp [impl_AncestorsOf.l0])
    | succ k1 =>
      have H := HA.out
      clear HA
      simp only [impl_AncestorsOf.l0] at H
      have HC5 := Aside0.mk H
      clear H
      go_upto_region 3 with (fail)
      go_cut [15] (fun v15 wc => ∃ (kq : Nat) (x15_4 : Bool), v15 = .bool x15_4 ∧ Aside0 (impl_AncestorsOf.j1 kq l0 x5_1 x6_1 x15_4 = some r) ∧ Aside0 (kq ≤ k1) ∧ Aside0 (Kd.R (Kd.int .i64) 3 wc w.heap.size (fun _ => True) u5 x5_1) ∧ Aside0 (Below w.heap.size w wc))
      case first =>
        have H := HC5.out
        clear HC5
        by_cases c6 : x6_1 = (-1)
        · rw [if_pos c6] at H
          have c6b0 : (x6_1 == (-1)) = true := beq_iff_eq.mpr c6
          have c6b1 : (x6_1 != (-1)) = false := bne_eq_false_iff_eq.mpr c6
          clear c6
          (first | rw [c6b0] | (simp only [i64_w, i32_w]; rw [c6b0]) | skip)
          have H' := Aside0.mk H
          clear H
          obtain ⟨Ao7, co7, eo7⟩ := Kd.R_slice HO_5.out
          subst eo7
          go_wp2
          go_meet
          case rel => exact ⟨_, (((x5_1.length : Int) == 0)), (by first | rfl | (simp; done) | (simp [*]; done)), H', ⟨by have := HK1.out; first | omega | exact Nat.le_refl _⟩, ⟨by (with_reducible repeat (first | apply Kd.R_alloc | apply Kd.R_drewN | apply Kd.R_drew)); exact HO_5.out⟩, ⟨by repeat (first | (with_reducible first | exact HB.out | apply below_alloc | apply pw_below_drewN | apply below_drew1) | exact HB.out)⟩⟩
        · rw [if_neg c6] at H
          have c6b0 : (x6_1 == (-1)) = false := beq_eq_false_iff_ne.mpr c6
          have c6b1 : (x6_1 != (-1)) = true := bne_iff_ne.mpr c6
          (first | rw [c6b0] | (simp only [i64_w, i32_w]; rw [c6b0]) | skip)
          have H' := Aside0.mk H
          clear H
          go_wp2
          go_meet
          case rel => exact ⟨_, (true), (by first | rfl | (simp; done) | (simp [*]; done)), H', ⟨by have := HK1.out; first | omega | exact Nat.le_refl _⟩, ⟨by (with_reducible repeat (first | apply Kd.R_alloc | apply Kd.R_drewN | apply Kd.R_drew)); exact HO_5.out⟩, ⟨by repeat (first | (with_reducible first | exact HB.out | apply below_alloc | apply pw_below_drewN | apply below_drew1) | exact HB.out)⟩⟩
      case rest =>
        clear HC5
        try clear c2
        try clear p2
        try clear c6
        try clear c6b0
        try clear c6b1
        try clear p2
        obtain ⟨kq, x15_4, rfl, HA, HJ4, HO_5, HB⟩ := hcut
        cases kq with
        | zero => exact absurd HA.out (by simp [impl_AncestorsOf.j1])
        | succ kj4 =>
          have H := HA.out
          clear HA
          simp only [impl_AncestorsOf.j1] at H
          by_cases c8 : x15_4 = true
          · subst c8
            have H1 : ((impl_inside.f x6_1 0 (wrap64 ((l0.length : Int) - 1))).bind fun t104 => (if t104 = true then (if (x5_1.length : Int) = (l0.length : Int) then (some ([] : List Int)) else (if x5_1.length < 17592186044416 then (if 0 ≤ x6_1 then (if x6_1 < (l0.length : Int) then (impl_AncestorsOf.l0 kj4 l0 (x5_1 ++ [x6_1]) (rd l0 x6_1)) else (none)) else (none)) else (none))) else (some ([] : List Int)))) = some r := by rw [if_pos rfl] at H; exact H
            clear H
            have H := H1
            clear H1
            replace H := Option.bind_eq_some_iff.mp H
            obtain ⟨t104, A90, H⟩ := H
            replace H : (if t104 = true then (if (x5_1.length : Int) = (l0.length : Int) then (some ([] : List Int)) else (if x5_1.length < 17592186044416 then (if 0 ≤ x6_1 then (if x6_1 < (l0.length : Int) then (impl_AncestorsOf.l0 kj4 l0 (x5_1 ++ [x6_1]) (rd l0 x6_1)) else (none)) else (none)) else (none))) else (some ([] : List Int))) = some r := H
            have A9 := Aside0.mk A90
            clear A90
            by_cases c10 : t104 = true
            · subst c10
              have H1 : (if (x5_1.length : Int) = (l0.length : Int) then (some ([] : List Int)) else (if x5_1.length < 17592186044416 then (if 0 ≤ x6_1 then (if x6_1 < (l0.length : Int) then (impl_AncestorsOf.l0 kj4 l0 (x5_1 ++ [x6_1]) (rd l0 x6_1)) else (none)) else (none)) else (none))) = some r := by rw [if_pos rfl] at H; exact H
              clear H
              have H := H1
              clear H1
              by_cases c11 : (x5_1.length : Int) = (l0.length : Int)
              · rw [if_pos c11] at H
                have c11b0 : ((x5_1.length : Int) == (l0.length : Int)) = true := beq_iff_eq.mpr c11
                have c11b1 : ((x5_1.length : Int) != (l0.length : Int)) = false := bne_eq_false_iff_eq.mpr c11
                have c11b2 : (x5_1.length == l0.length) = true := by first | simpa using c11 | (simp at c11 ⊢; omega)
                clear c11
                obtain rfl := Option.some.inj H
                go_wp2_with (first | ((with_reducible refine gate_callee (f := 50) rfl ?_); refine goesL_ (some 24) rfl rfl Try.func50 (by kernel_rfl) rfl #[.int .i64 x6_1, .int .i64 0, .int .i64 (wrap64 ((l0.length : Int) - 1))] rfl (by (try simp only [List.map_toArray, List.map_cons, List.map_nil]); first | done | rfl | (simp only [List.length_drop, List.length_take]; rfl)) ?_; (with_reducible refine (impl_inside.calls x6_1 0 (wrap64 ((l0.length : Int) - 1)) true _ A9.out).mono ?_); rintro e w' ⟨rfl, ⟨nd, rfl⟩⟩; refine ⟨_, rfl, ?_⟩; obtain ⟨Ao12, co12, eo12⟩ := Kd.R_slice HO_5.out; subst eo12))
                go_ret
                exact ⟨_, by first | rfl | (simp [errW_none, errW_some] <;> rfl) | (simp [*, errW_none, errW_some] <;> rfl), by first | exact Kd.R_nil _ _ _ _ _ | exact Kd.N_nil _ _ _ _ _ | exact Kd.V_nil _ _ _ _ _ | exact Kd.Q_nil _ _ _ _ _ | exact Kd.S_nil _ _ _ _ _, by repeat (first | (with_reducible first | exact HB.out | apply below_alloc | apply pw_below_drewN | apply below_drew1) | exact HB.out)⟩
              · rw [if_neg c11] at H
                have c11b0 : ((x5_1.length : Int) == (l0.length : Int)) = false := beq_eq_false_iff_ne.mpr c11
                have c11b1 : ((x5_1.length : Int) != (l0.length : Int)) = true := bne_iff_ne.mpr c11
                have c11b2 : (x5_1.length == l0.length) = false := by first | simpa using c11 | (simp at c11 ⊢; omega)
                by_cases c13 : x5_1.length < 17592186044416
                · rw [if_pos c13] at H
                  have LMc13 := Aside0.mk c13
                  clear c13
                  obtain ⟨y105, hy105⟩ : ∃ y_ : List Int, y_ = (x5_1 ++ [x6_1]) := ⟨_, rfl⟩
                  replace H : (if 0 ≤ x6_1 then (if x6_1 < (l0.length : Int) then (impl_AncestorsOf.l0 kj4 l0 y105 (rd l0 x6_1)) else (none)) else (none)) = some r := by first | (rw [hy105]; with_reducible exact H) | (have H2_ := (Option.bind_some _ _).symm.trans H; rw [hy105]; with_reducible exact H2_) | (have H2_ := (Option.bind_some _ _).symm.trans H; with_reducible exact H2_) | with_reducible exact H | (rw [hy105]; exact H) | exact H
                  have Ny105 := Aside0.mk hy105
                  clear hy105
                  by_cases c14 : 0 ≤ x6_1
                  · rw [if_pos c14] at H
                    have c14b0 : decide (0 ≤ x6_1) = true := decide_eq_true c14
                    clear c14
                    by_cases c15 : x6_1 < (l0.length : Int)
                    · rw [if_pos c15] at H
                      have c15b0 : decide (x6_1 < (l0.length : Int)) = true := decide_eq_true c15
                      clear c15
                      have H' := Aside0.mk H
                      clear H
                      go_wp2_with (first | ((with_reducible refine gate_callee (f := 50) rfl ?_); refine goesL_ (some 24) rfl rfl Try.func50 (by kernel_rfl) rfl #[.int .i64 x6_1, .int .i64 0, .int .i64 (wrap64 ((l0.length : Int) - 1))] rfl (by (try simp only [List.map_toArray, List.map_cons, List.map_nil]); first | done | rfl | (simp only [List.length_drop, List.length_take]; rfl)) ?_; (with_reducible refine (impl_inside.calls x6_1 0 (wrap64 ((l0.length : Int) - 1)) true _ A9.out).mono ?_); rintro e w' ⟨rfl, ⟨nd, rfl⟩⟩; refine ⟨_, rfl, ?_⟩; obtain ⟨Ao16, co16, eo16⟩ := Kd.R_slice HO_5.out; subst eo16) | ((with_reducible refine gate_builtin (b := .append) (xs := #[.tmp 33, .tmp 35]) rfl ?_); (try (refine gate_guard (by rfl) ?_; dsimp only)); at_builtin; refine Kd.R_append (Kd.int .i64) (w0 := w) w.heap.size rfl (.tmp 33) (.tmp 35) 28 3 (.int .i64 0) 8 rfl Try.underlying28 info3 rfl (by decide) (by omega) (.slice Ao16 x5_1.length co16) x5_1 x6_1 [.int .i64 x6_1] (fun _ => True) (fun _ => False) rfl rfl ?aP (fun _ hk => hk.elim) ?aF ?aO ?aB ?aS ?aL ?_; (case aP => exact rfl); (case aB => exact (by repeat (first | (with_reducible first | exact HB.out | apply below_alloc | apply pw_below_drewN | apply below_drew1) | exact HB.out))); (case aF => exact (fun _ _ => trivial)); (case aO => exact (by (with_reducible repeat (first | apply Kd.R_alloc | apply Kd.R_drewN | apply Kd.R_drew)); exact HO_5.out)); (case aS => exact (below_size (by repeat (first | (with_reducible first | exact HB.out | apply below_alloc | apply pw_below_drewN | apply below_drew1) | exact HB.out)))); (case aL => have := LMc13.out; omega); intro v106 w17 ho hb hg hat; rw [← Ny105.out] at ho; have n0_ := Aside0.mk (hb); have n1_ := Aside0.mk (ho); clear HB; clear HO_5; have HB := n0_; have HO107 := n1_; clear n0_ n1_; clear ho hb hg hat; have p108 : 0 ≤ (x6_1 : Int) := of_decide_eq_true (by first | (with_reducible assumption) | assumption); have q108 : x6_1 < (l0.length : Int) := of_decide_eq_true (by first | (with_reducible assumption) | assumption); obtain ⟨ad108, e108, hx108_0⟩ := Kd.at_int HR0.out x6_1 p108 q108; cases e108; replace hx108_0 := (HB.out.cell (World.block_lt_of_cell? w _ hx108_0)).trans hx108_0; replace p108 := eq_true p108; replace q108 := eq_true q108))
                      go_roundg kj4
                      case measure => have := HK1.out; have := HJ4.out; omega
                      case rel => exact ⟨(y105), (rd l0 x6_1), (by first | rfl | (simp; done) | (simp [*]; done)), H', ⟨by have := HK1.out; have := HJ4.out; omega⟩, ⟨by (with_reducible repeat (first | apply Kd.R_alloc | apply Kd.R_drewN | apply Kd.R_drew)); exact HO107.out⟩, ⟨by repeat (first | (with_reducible first | exact HB.out | apply below_alloc | apply pw_below_drewN | apply below_drew1) | exact HB.out)⟩⟩
                    · rw [if_neg c15] at H
                      exact absurd H (by simp)
                  · rw [if_neg c14] at H
                    exact absurd H (by simp)
                · rw [if_neg c13] at H
                  exact absurd H (by simp)
            · replace c10 := Bool.eq_false_iff.mpr c10
              subst c10
              have H1 : (some ([] : List Int)) = some r := by rw [if_neg (show ¬ (false = true) by decide)] at H; exact H
              clear H
              have H := H1
              clear H1
              obtain rfl := Option.some.inj H
              go_wp2_with (first | ((with_reducible refine gate_callee (f := 50) rfl ?_); refine goesL_ (some 24) rfl rfl Try.func50 (by kernel_rfl) rfl #[.int .i64 x6_1, .int .i64 0, .int .i64 (wrap64 ((l0.length : Int) - 1))] rfl (by (try simp only [List.map_toArray, List.map_cons, List.map_nil]); first | done | rfl | (simp only [List.length_drop, List.length_take]; rfl)) ?_; (with_reducible refine (impl_inside.calls x6_1 0 (wrap64 ((l0.length : Int) - 1)) false _ A9.out).mono ?_); rintro e w' ⟨rfl, ⟨nd, rfl⟩⟩; refine ⟨_, rfl, ?_⟩))
              go_ret
              exact ⟨_, by first | rfl | (simp [errW_none, errW_some] <;> rfl) | (simp [*, errW_none, errW_some] <;> rfl), by first | exact Kd.R_nil _ _ _ _ _ | exact Kd.N_nil _ _ _ _ _ | exact Kd.V_nil _ _ _ _ _ | exact Kd.Q_nil _ _ _ _ _ | exact Kd.S_nil _ _ _ _ _, by repeat (first | (with_reducible first | exact HB.out | apply below_alloc | apply pw_below_drewN | apply below_drew1) | exact HB.out)⟩
          · replace c8 := Bool.eq_false_iff.mpr c8
            subst c8
            have H1 : (some x5_1) = some r := by rw [if_neg (show ¬ (false = true) by decide)] at H; exact H
            clear H
            have H := H1
            clear H1
            obtain rfl := Option.some.inj H
            go_wp2
            go_ret
            exact ⟨_, by first | rfl | (simp [errW_none, errW_some] <;> rfl) | (simp [*, errW_none, errW_some] <;> rfl), by (with_reducible repeat (first | apply Kd.R_alloc | apply Kd.R_drewN | apply Kd.R_drew)); exact HO_5.out, by repeat (first | (with_reducible first | exact HB.out | apply below_alloc | apply pw_below_drewN | apply below_drew1) | exact HB.out)⟩

end Go.Proofs.Ytohkocaalbndoaa.F
end

section
/-! AncestorsOf, of the program and of the reference: one plain function. -/
namespace Go.Proofs.Ytohkocaalbndoaa.Pure
open Go.RowKit Go.Proofs.Ytohkocaalbndoaa.F Go.Proofs.YtohkocaalbndoaaW.PrintWords Go.Proofs.YtohkocaalbndoaaW.PrintLast Go.Proofs.YtohkocaalbndoaaW.PrintMore
set_option linter.unusedVariables false
set_option linter.unusedSimpArgs false

theorem inside_f (a b c : Int) : impl_inside.f a b c = some (decide (b ≤ a ∧ a ≤ c)) := by
  unfold impl_inside.f; by_cases h : b ≤ a <;> simp [h]
theorem l01In_f (a b c : Int) : spec_l01In.f a b c = some (decide (b ≤ a ∧ a ≤ c)) := by
  unfold spec_l01In.f; by_cases h : b ≤ a <;> simp [h]

def ancGo (p : List Int) : Nat → Int → List Int → List Int
  | 0, v, out => if 0 ≤ v ∧ v < p.length then [] else if v = -1 ∧ out ≠ [] then out else []
  | n + 1, v, out => if 0 ≤ v ∧ v < p.length then ancGo p n (rd p v) (out ++ [v]) else if v = -1 ∧ out ≠ [] then out else []
def anc (p : List Int) (v : Int) : List Int := ancGo p p.length v []

theorem ancGo_length (p : List Int) : ∀ n v out, (ancGo p n v out).length ≤ out.length + n
  | 0, v, out => by unfold ancGo; split <;> (try split) <;> simp
  | n + 1, v, out => by
    unfold ancGo
    split
    · have := ancGo_length p n (rd p v) (out ++ [v]); simp at this; omega
    · split <;> simp
theorem anc_length (p : List Int) (v : Int) : (anc p v).length ≤ p.length := by have := ancGo_length p p.length v []; simpa [anc] using this

theorem specAnc_ev (p : List Int) (v : Int) (hp : p.length ≤ 1048576) : Ev (fun k => spec_AncestorsOf.f k p v) (anc p v) := by
  have key : ∀ n v out, out.length + n = p.length → Ev (fun k => spec_AncestorsOf.l0 k p out v) (ancGo p n v out) := by
    intro n
    induction n with
    | zero =>
      intro v out h
      refine Ev.step (f := fun _ => some (ancGo p 0 v out)) (fun k => ?_) (Ev.now _)
      simp only [spec_AncestorsOf.l0, l01In_f, Option.bind_some, ancGo]
      rw [w64 (by omega) (by omega)]
      by_cases h1 : 0 ≤ v ∧ v < p.length
      · rw [if_pos (by simp; omega), if_pos (by omega), if_pos h1]
      · rw [if_neg (by simp; omega), if_neg h1]
        by_cases h2 : v = -1
        · cases out <;> simp [h2] <;> omega
        · simp [h2]
    | succ n ih =>
      intro v out h
      by_cases h1 : 0 ≤ v ∧ v < p.length
      · refine Ev.step (fun k => ?_) (show Ev _ (ancGo p (n + 1) v out) from (by
          rw [ancGo, if_pos h1]; exact ih (rd p v) (out ++ [v]) (by simp; omega)))
        simp only [spec_AncestorsOf.l0, l01In_f, Option.bind_some]
        rw [w64 (by omega) (by omega), if_pos (by simp; omega), if_neg (by omega), if_pos (by omega), if_pos h1.1, if_pos h1.2]
      · refine Ev.step (f := fun _ => some (ancGo p (n + 1) v out)) (fun k => ?_) (Ev.now _)
        simp only [spec_AncestorsOf.l0, l01In_f, Option.bind_some, ancGo]
        rw [w64 (by omega) (by omega), if_neg (by simp; omega), if_neg h1]
        by_cases h2 : v = -1
        · cases out <;> simp [h2] <;> omega
        · simp [h2]
  exact key p.length v [] (by simp)
theorem implAnc_ev (p : List Int) (v : Int) (hp : p.length ≤ 1048576) : Ev (fun k => impl_AncestorsOf.f k p v) (anc p v) := by
  have key : ∀ n v out, out.length + n = p.length → Ev (fun k => impl_AncestorsOf.l0 k p out v) (ancGo p n v out) := by
    have j1 : ∀ n v out, out.length + n = p.length → (∀ v out, n ≠ 0 → out.length + (n - 1) = p.length → Ev (fun k => impl_AncestorsOf.l0 k p out v) (ancGo p (n - 1) v out)) → (v ≠ -1 ∨ out = []) → Ev (fun k => impl_AncestorsOf.j1 k p out v true) (ancGo p n v out) := by
      intro n v out h ih h0
      by_cases h1 : 0 ≤ v ∧ v < p.length
      · cases n with
        | zero =>
          refine Ev.step (f := fun _ => some (ancGo p 0 v out)) (fun k => ?_) (Ev.now _)
          simp only [impl_AncestorsOf.j1, inside_f, Option.bind_some, ancGo]
          rw [if_pos trivial, w64 (by omega) (by omega), if_pos (by simp; omega), if_pos (by omega), if_pos h1]
        | succ n =>
          refine Ev.step (fun k => ?_) (show Ev _ (ancGo p (n + 1) v out) from (by
            rw [ancGo, if_pos h1]; exact ih (rd p v) (out ++ [v]) (by omega) (by simp; omega)))
          simp only [impl_AncestorsOf.j1, inside_f, Option.bind_some]
          rw [if_pos trivial, w64 (by omega) (by omega), if_pos (by simp; omega), if_neg (by omega), if_pos (by omega), if_pos h1.1, if_pos h1.2]
      · have e : ancGo p n v out = [] := by
          have : ¬ (v = -1 ∧ out ≠ []) := fun h => by rcases h0 with h0 | h0 <;> simp_all
          cases n <;> rw [ancGo, if_neg h1, if_neg this]
        refine Ev.step (f := fun _ => some (ancGo p n v out)) (fun k => ?_) (Ev.now _)
        simp only [impl_AncestorsOf.j1, inside_f, Option.bind_some]
        rw [if_pos trivial, w64 (by omega) (by omega), if_neg (by simp; omega), e]
    intro n
    induction n with
    | zero =>
      intro v out h
      by_cases h2 : v = -1
      · by_cases h3 : out = []
        · refine Ev.step (fun k => ?_) (j1 0 v out h (fun _ _ h => absurd rfl h) (.inr h3))
          simp [impl_AncestorsOf.l0, len_beq0, h2, h3]
        · refine Ev.step (f := fun k => impl_AncestorsOf.j1 k p out v false) (fun k => ?_) (Ev.step (f := fun _ => some (ancGo p 0 v out)) (fun k => ?_) (Ev.now _))
          · simp [impl_AncestorsOf.l0, len_beq0, h2, h3]
          · simp [impl_AncestorsOf.j1, ancGo, h2, h3]
      · refine Ev.step (fun k => ?_) (j1 0 v out h (fun _ _ h => absurd rfl h) (.inl h2))
        simp [impl_AncestorsOf.l0, h2]
    | succ n ih =>
      intro v out h
      by_cases h2 : v = -1
      · by_cases h3 : out = []
        · refine Ev.step (fun k => ?_) (j1 (n + 1) v out h (fun v out _ h => ih v out h) (.inr h3))
          simp [impl_AncestorsOf.l0, len_beq0, h2, h3]
        · refine Ev.step (f := fun k => impl_AncestorsOf.j1 k p out v false) (fun k => ?_) (Ev.step (f := fun _ => some (ancGo p (n + 1) v out)) (fun k => ?_) (Ev.now _))
          · simp [impl_AncestorsOf.l0, len_beq0, h2, h3]
          · simp [impl_AncestorsOf.j1, ancGo, h2, h3]
      · refine Ev.step (fun k => ?_) (j1 (n + 1) v out h (fun v out _ h => ih v out h) (.inl h2))
        simp [impl_AncestorsOf.l0, h2]
  exact key p.length v [] (by simp)
end Go.Proofs.Ytohkocaalbndoaa.Pure
end

section
/-! Grids: what the program's and the reference's functions on grids compute. -/
namespace Go.Proofs.Ytohkocaalbndoaa.Pure
open Go.RowKit Go.Proofs.Ytohkocaalbndoaa.F Go.Proofs.YtohkocaalbndoaaW.PrintWords Go.Proofs.YtohkocaalbndoaaW.PrintLast Go.Proofs.YtohkocaalbndoaaW.PrintMore
set_option linter.unusedVariables false
set_option linter.unusedSimpArgs false

def okG (w h : Int) : Prop := (1 ≤ w ∧ w ≤ 4) ∧ 1 ≤ h ∧ h ≤ 4
instance (w h : Int) : Decidable (okG w h) := inferInstanceAs (Decidable (_ ∧ _))
def cnt (w h : Int) : Int := if okG w h then w * h else 0
def isN (w h n : Int) : Prop := 0 ≤ n ∧ n < cnt w h
instance (w h n : Int) : Decidable (isN w h n) := inferInstanceAs (Decidable (_ ∧ _))
def nodeAt (w h x y : Int) : Int := if okG w h ∧ (0 ≤ x ∧ x < w) ∧ 0 ≤ y ∧ y < h then y * w + x else -1
def next (w h n p : Int) : Int :=
  if isN w h n then
    (if p = 0 then nodeAt w h (n % w) (n / w - 1) else if p = 1 then nodeAt w h (n % w + 1) (n / w) else if p = 2 then nodeAt w h (n % w) (n / w + 1) else if p = 3 then nodeAt w h (n % w - 1) (n / w) else if p = 4 then n else -1)
  else -1
def leads (w h c : Int) : Prop := (0 ≤ c ∧ c < 4 * cnt w h) ∧ 0 ≤ next w h (c / 4) (c % 4)
instance (w h c : Int) : Decidable (leads w h c) := inferInstanceAs (Decidable (_ ∧ _))
def opp (p : Int) : Int := if p = 4 then 4 else if 0 ≤ p ∧ p ≤ 3 then (p + 2) % 4 else -1

theorem mul_small {w h : Int} (h1 : okG w h) : 1 ≤ w * h ∧ w * h ≤ 16 := by
  obtain ⟨⟨a, b⟩, c, d⟩ := h1
  have e1 : w = 1 ∨ w = 2 ∨ w = 3 ∨ w = 4 := by omega
  rcases e1 with rfl | rfl | rfl | rfl <;> omega
theorem cnt_range (w h : Int) : 0 ≤ cnt w h ∧ cnt w h ≤ 16 := by
  unfold cnt; split
  · rename_i h1; have := mul_small h1; omega
  · omega
theorem isN_ok {w h n : Int} (h1 : isN w h n) : okG w h ∧ 0 ≤ n ∧ n < w * h ∧ n < 16 := by
  obtain ⟨a, b⟩ := h1
  unfold cnt at b
  split at b
  · rename_i h2; have := mul_small h2; exact ⟨h2, a, b, by omega⟩
  · omega
theorem gridOk_f (w h : Int) : impl_GridOk.f w h = some (decide (okG w h)) := by
  unfold impl_GridOk.f okG
  simp only [inside_f, Option.bind_some]
  by_cases h1 : 1 ≤ w ∧ w ≤ 4 <;> simp [h1]
theorem specGridOk_eq : spec_GridOk.f = impl_GridOk.f := by
  funext w h; unfold spec_GridOk.f impl_GridOk.f; simp only [l01In_f, inside_f]
theorem nodeCount_f (w h : Int) : impl_NodeCount.f w h = some (cnt w h) := by
  unfold impl_NodeCount.f cnt
  simp only [gridOk_f, Option.bind_some]
  by_cases h1 : okG w h
  · have := mul_small h1
    simp only [h1, decide_true, if_true]; rw [w64 (by omega) (by omega)]
  · simp [h1]
theorem specNodeCount_eq : spec_NodeCount.f = impl_NodeCount.f := by
  funext w h; unfold spec_NodeCount.f impl_NodeCount.f; rw [specGridOk_eq]
theorem isNode_f (w h n : Int) : impl_isNode.f w h n = some (decide (isN w h n)) := by
  have := cnt_range w h
  unfold impl_isNode.f
  simp only [nodeCount_f, Option.bind_some, inside_f]
  rw [w64 (by omega) (by omega)]
  exact congrArg some (decide_eq_decide.2 (by unfold isN; omega))
theorem specHas_eq : spec_l02Has.f = impl_isNode.f := by
  funext w h n; unfold spec_l02Has.f impl_isNode.f; rw [specNodeCount_eq]; simp only [l01In_f, inside_f]
theorem nodeAt_f (w h x y : Int) : impl_NodeAt.f w h x y = some (nodeAt w h x y) := by
  unfold impl_NodeAt.f nodeAt
  simp only [gridOk_f, Option.bind_some, inside_f]
  by_cases h1 : okG w h
  · have h2 := mul_small h1
    have h3 := h1
    obtain ⟨⟨a, b⟩, c, d⟩ := h3
    rw [if_pos (by simpa using h1), w64 (by omega) (by omega)]
    by_cases hx : 0 ≤ x ∧ x < w
    · rw [if_pos (by simp; omega), w64 (by omega) (by omega)]
      by_cases hy : 0 ≤ y ∧ y < h
      · rw [if_pos (by simp; omega), if_pos ⟨h1, hx, hy⟩]
        have h5 : 0 ≤ y * w ∧ y * w ≤ 12 := by
          have e1 : w = 1 ∨ w = 2 ∨ w = 3 ∨ w = 4 := by omega
          rcases e1 with rfl | rfl | rfl | rfl <;> omega
        rw [w64 (x := y * w) (by omega) (by omega), w64 (by omega) (by omega)]
      · rw [if_neg (by simp; omega), if_neg (fun e => hy e.2.2)]
    · rw [if_neg (by simp; omega), if_neg (fun e => hx e.2.1)]
  · rw [if_neg (by simpa using h1), if_neg (fun e => h1 e.1)]
theorem specNodeAt_eq : spec_NodeAt.f = impl_NodeAt.f := by
  funext w h x y; unfold spec_NodeAt.f impl_NodeAt.f; rw [specGridOk_eq]; simp only [l01In_f, inside_f]
theorem next_f (w h n p : Int) : impl_NextNode.f w h n p = some (next w h n p) := by
  unfold impl_NextNode.f next
  simp only [isNode_f, Option.bind_some, nodeAt_f]
  by_cases h1 : isN w h n
  · obtain ⟨⟨⟨a, b⟩, c, d⟩, e, f, g⟩ := isN_ok h1
    have m1 : Int.tmod n w = n % w := Int.tmod_eq_emod_of_nonneg e
    have m2 : Int.tdiv n w = n / w := Int.tdiv_eq_ediv_of_nonneg e
    have m3 : 0 ≤ n / w := Int.ediv_nonneg e (by omega)
    have m4 : n / w ≤ n := Int.ediv_le_self _ e
    have m5 : 0 ≤ n % w := Int.emod_nonneg _ (by omega)
    have m6 : n % w < w := Int.emod_lt_of_pos _ (by omega)
    rw [if_pos (by simpa using h1), if_pos h1, if_neg (by omega), m1, m2, w64 (x := n / w) (by omega) (by omega), w64 (x := n / w - 1) (by omega) (by omega), w64 (x := n / w + 1) (by omega) (by omega), w64 (x := n % w + 1) (by omega) (by omega), w64 (x := n % w - 1) (by omega) (by omega)]
    repeat' split
    all_goals rfl
  · rw [if_neg (by simpa using h1), if_neg h1]
theorem specNext_eq : spec_NextNode.f = impl_NextNode.f := by
  funext w h n p; unfold spec_NextNode.f impl_NextNode.f; rw [specHas_eq, specNodeAt_eq]
theorem leads_f (w h c : Int) : impl_leads.f w h c = some (decide (leads w h c)) := by
  have := cnt_range w h
  unfold impl_leads.f leads
  simp only [nodeCount_f, Option.bind_some, inside_f, next_f]
  rw [w64 (x := 4 * cnt w h) (by omega) (by omega), w64 (x := 4 * cnt w h - 1) (by omega) (by omega)]
  by_cases h1 : 0 ≤ c ∧ c < 4 * cnt w h
  · rw [if_pos (by simp; omega), Int.tdiv_eq_ediv_of_nonneg h1.1, Int.tmod_eq_emod_of_nonneg h1.1, w64 (by omega) (by omega)]
    simp [h1]
  · rw [if_neg (by simp; omega)]; simp [h1]
theorem specLeads_eq : spec_l03Leads.f = impl_leads.f := by
  funext w h c; unfold spec_l03Leads.f impl_leads.f; rw [specNodeCount_eq, specNext_eq]; simp only [l01In_f, inside_f]
theorem opp_f (p : Int) : impl_Opposite.f p = some (opp p) := by
  unfold impl_Opposite.f opp
  simp only [inside_f, Option.bind_some]
  split
  · rfl
  · by_cases h : 0 ≤ p ∧ p ≤ 3
    · rw [if_pos (by simpa using h), if_pos h, w64 (by omega) (by omega), Int.tmod_eq_emod_of_nonneg (by omega)]
    · rw [if_neg (by simpa using h), if_neg h]
theorem specOpp_eq : spec_Opposite.f = impl_Opposite.f := by
  funext p; unfold spec_Opposite.f impl_Opposite.f; simp only [l01In_f, inside_f]
theorem next_range (w h n p : Int) : -1 ≤ next w h n p ∧ next w h n p < max 1 (cnt w h) := by
  unfold next
  by_cases h1 : isN w h n
  · obtain ⟨h2, e, f, g⟩ := isN_ok h1
    have hc : cnt w h = w * h := if_pos h2
    have k : ∀ x y, -1 ≤ nodeAt w h x y ∧ nodeAt w h x y < w * h := by
      intro x y; unfold nodeAt
      split
      · rename_i h3
        obtain ⟨⟨⟨a, b⟩, c, d⟩, ⟨x0, x1⟩, y0, y1⟩ := h3
        have e1 : w = 1 ∨ w = 2 ∨ w = 3 ∨ w = 4 := by omega
        rcases e1 with rfl | rfl | rfl | rfl <;> omega
      · have := mul_small h2; omega
    have := mul_small h2
    rw [if_pos h1, hc]
    have k1 := k (n % w) (n / w - 1); have k2 := k (n % w + 1) (n / w); have k3 := k (n % w) (n / w + 1); have k4 := k (n % w - 1) (n / w)
    repeat' split
    all_goals omega
  · rw [if_neg h1]; omega
end Go.Proofs.Ytohkocaalbndoaa.Pure
end

section
/-! Is a number among the elements: slices.Index, slices.Contains, and the reference's own. -/
namespace Go.Proofs.Ytohkocaalbndoaa.Pure
open Go.RowKit Go.Proofs.Ytohkocaalbndoaa.F Go.Proofs.YtohkocaalbndoaaW.PrintWords Go.Proofs.YtohkocaalbndoaaW.PrintLast Go.Proofs.YtohkocaalbndoaaW.PrintMore
set_option linter.unusedVariables false
set_option linter.unusedSimpArgs false
theorem l03Find_ev (l : List Int) (v : Int) (hl : l.length ≤ 9223372036854775807) : Ev (fun k => spec_l03Find.f k l v) (decide (v ∈ l)) := by
  have key : ∀ d j, j + d = l.length → v ∉ l.take j → Ev (fun k => spec_l03Find.l0 k l v (j : Int)) (decide (v ∈ l)) := by
    intro d
    induction d with
    | zero =>
      intro j hj hv
      rw [List.take_of_length_le (by omega)] at hv
      rw [decide_eq_false hv]
      exact Ev.step (f := fun _ => some false) (fun k => by simp only [spec_l03Find.l0]; rw [if_neg (by omega)]) (Ev.now _)
    | succ d ih =>
      intro j hj hv
      by_cases h : l[j]'(by omega) = v
      · rw [decide_eq_true (h ▸ List.getElem_mem _)]
        refine Ev.step (f := fun _ => some true) (fun k => ?_) (Ev.now _)
        simp only [spec_l03Find.l0]
        rw [if_pos (by omega), if_pos (by omega), rd_at (by omega), if_pos h]
      · refine Ev.step (fun k => ?_) (ih (j + 1) (by omega) (fun hm => by
          rcases (mem_take_succ (by omega)).1 hm with hm | hm
          · exact hv hm
          · exact h hm.symm))
        simp only [spec_l03Find.l0]
        rw [if_pos (by omega), if_pos (by omega), rd_at (by omega), if_neg h, w64 (by omega) (by omega)]; rfl
  exact key l.length 0 (by omega) (by simp)
/-- The first place of v, or -1. -/
def idx (l : List Int) (v : Int) : Int := if v ∈ l then (l.idxOf v : Int) else -1
theorem index_ev (l : List Int) (v : Int) (hl : l.length ≤ 9223372036854775807) : Ev (fun k => slices_Index_int_int.f k l v) (idx l v) := by
  have key : ∀ d j, j + d = l.length → v ∉ l.take j → Ev (fun k => slices_Index_int_int.l0 k l v (l.length : Int) (j : Int)) (idx l v) := by
    intro d
    induction d with
    | zero =>
      intro j hj hv
      rw [List.take_of_length_le (by omega)] at hv
      unfold idx; rw [if_neg hv]
      exact Ev.step (f := fun _ => some (-1)) (fun k => by simp only [slices_Index_int_int.l0]; rw [if_neg (by omega)]) (Ev.now _)
    | succ d ih =>
      intro j hj hv
      by_cases h : v = l[j]'(by omega)
      · have hm : v ∈ l := h ▸ List.getElem_mem _
        have hi : l.idxOf v = j := by
          have e : l = l.take j ++ (v :: l.drop (j + 1)) := by rw [h]; exact split_at (by omega)
          rw [e, List.idxOf_append]; simp [hv]; omega
        unfold idx; rw [if_pos hm, hi]
        refine Ev.step (f := fun _ => some (j : Int)) (fun k => ?_) (Ev.now _)
        simp only [slices_Index_int_int.l0]
        rw [if_pos (by omega), if_pos (by omega), if_pos (by omega), rd_at (by omega), if_pos h]
      · refine Ev.step (fun k => ?_) (ih (j + 1) (by omega) (fun hm => by
          rcases (mem_take_succ (by omega)).1 hm with hm | hm
          · exact hv hm
          · exact h hm))
        simp only [slices_Index_int_int.l0]
        rw [if_pos (by omega), if_pos (by omega), if_pos (by omega), rd_at (by omega), if_neg h, w64 (by omega) (by omega)]; rfl
  exact key l.length 0 (by omega) (by simp)
theorem contains_ev (l : List Int) (v : Int) (hl : l.length ≤ 9223372036854775807) : Ev (fun k => slices_Contains_int_int.f k l v) (decide (v ∈ l)) := by
  refine Ev.bind (index_ev l v hl) ?_
  have : decide (idx l v ≥ 0) = decide (v ∈ l) := by
    unfold idx; by_cases h : v ∈ l <;> simp [h]
  rw [this]; exact Ev.now _
end Go.Proofs.Ytohkocaalbndoaa.Pure
end

section
/-! Loops that count up. -/
namespace Go.Proofs.Ytohkocaalbndoaa.Pure
open Go.RowKit Go.Proofs.YtohkocaalbndoaaW.PrintWords Go.Proofs.YtohkocaalbndoaaW.PrintLast Go.Proofs.YtohkocaalbndoaaW.PrintMore
set_option linter.unusedVariables false
set_option linter.unusedSimpArgs false

/-- From state s at j on. -/
theorem ev_from {σ α : Type} {g : Nat → σ → Int → Option α} (n : Nat) (step : σ → Nat → σ) (inv : Nat → σ → Prop) (fin : σ → α)
    (he : ∀ s, inv n s → Ev (fun k => g k s (n : Int)) (fin s))
    (hs : ∀ j s, j < n → inv j s → inv (j + 1) (step s j) ∧ ∀ r, Ev (fun k => g k (step s j) ((j + 1 : Nat) : Int)) r → Ev (fun k => g k s (j : Int)) r) :
    ∀ d j s, j + d = n → inv j s → Ev (fun k => g k s (j : Int)) (fin ((List.range' j d).foldl step s)) := by
  intro d
  induction d with
  | zero => intro j s hj hi; have : j = n := by omega
            subst this; exact he s hi
  | succ d ih =>
    intro j s hj hi
    obtain ⟨h1, h2⟩ := hs j s (by omega) hi
    exact h2 _ (by simpa [List.range'_succ] using ih (j + 1) (step s j) (by omega) h1)
theorem ev_for {σ α : Type} {g : Nat → σ → Int → Option α} (n : Nat) (step : σ → Nat → σ) (inv : Nat → σ → Prop) (fin : σ → α) (s0 : σ) (h0 : inv 0 s0)
    (he : ∀ s, inv n s → Ev (fun k => g k s (n : Int)) (fin s))
    (hs : ∀ j s, j < n → inv j s → inv (j + 1) (step s j) ∧ ∀ r, Ev (fun k => g k (step s j) ((j + 1 : Nat) : Int)) r → Ev (fun k => g k s (j : Int)) r) :
    Ev (fun k => g k s0 0) (fin ((List.range n).foldl step s0)) := by
  rw [List.range_eq_range']; exact ev_from n step inv fin he hs n 0 s0 (by omega) h0
/-- A loop that ends false at the first place that isn't good. -/
theorem ev_all {g : Nat → Int → Option Bool} (n : Nat) (good : Nat → Prop) [DecidablePred good] (fin : Bool) (he : Ev (fun k => g k (n : Int)) fin)
    (hy : ∀ j, j < n → good j → ∀ r, Ev (fun k => g k ((j + 1 : Nat) : Int)) r → Ev (fun k => g k (j : Int)) r) (hn : ∀ j, j < n → (∀ i, i < j → good i) → ¬ good j → Ev (fun k => g k (j : Int)) false) :
    Ev (fun k => g k 0) (decide (∀ j, j < n → good j) && fin) := by
  have key : ∀ d j, j + d = n → (∀ i, i < j → good i) → Ev (fun k => g k (j : Int)) (decide (∀ i, i < n → good i) && fin) := by
    intro d
    induction d with
    | zero => intro j hj hg; have : j = n := by omega
              subst this; rw [decide_eq_true hg]; exact he
    | succ d ih =>
      intro j hj hg
      by_cases h : good j
      · exact hy j (by omega) h _ (ih (j + 1) (by omega) (fun i hi => by
          by_cases e : i = j
          · exact e ▸ h
          · exact hg i (by omega)))
      · rw [decide_eq_false (fun a => h (a j (by omega)))]; exact hn j (by omega) hg h
  exact key n 0 (by omega) (by intro i hi; omega)
/-- A loop that ends true at the first place that is found. -/
theorem ev_any {g : Nat → Int → Option Bool} (n : Nat) (good : Nat → Prop) [DecidablePred good] (he : Ev (fun k => g k (n : Int)) false)
    (hn : ∀ j, j < n → ¬ good j → ∀ r, Ev (fun k => g k ((j + 1 : Nat) : Int)) r → Ev (fun k => g k (j : Int)) r) (hy : ∀ j, j < n → good j → Ev (fun k => g k (j : Int)) true) :
    Ev (fun k => g k 0) (decide (∃ j, j < n ∧ good j)) := by
  have key : ∀ d j, j + d = n → (∀ i, i < j → ¬ good i) → Ev (fun k => g k (j : Int)) (decide (∃ i, i < n ∧ good i)) := by
    intro d
    induction d with
    | zero => intro j hj hg; have : j = n := by omega
              subst this; rw [decide_eq_false (fun ⟨i, hi, h⟩ => hg i hi h)]; exact he
    | succ d ih =>
      intro j hj hg
      by_cases h : good j
      · rw [decide_eq_true ⟨j, by omega, h⟩]; exact hy j (by omega) h
      · exact hn j (by omega) h _ (ih (j + 1) (by omega) (fun i hi => by
          by_cases e : i = j
          · exact e ▸ h
          · exact hg i (by omega)))
  exact key n 0 (by omega) (by intro i hi; omega)
theorem foldl_filter {α : Type} (p : Nat → Bool) (f : Nat → α) (l : List Nat) (s : List α) : l.foldl (fun s j => if p j = true then s ++ [f j] else s) s = s ++ (l.filter p).map f := by
  induction l generalizing s with
  | nil => simp
  | cons a l ih => rw [List.foldl_cons, ih]; by_cases h : p a = true <;> simp [h]
theorem foldl_map {α : Type} (f : Nat → α) (l : List Nat) (s : List α) : l.foldl (fun s j => s ++ [f j]) s = s ++ l.map f := by
  induction l generalizing s with
  | nil => simp
  | cons a l ih => rw [List.foldl_cons, ih]; simp
theorem ite_append_le {α : Type} {c : Prop} [Decidable c] {s : List α} {x : α} {j : Nat} (h : s.length ≤ j) : (if c then s ++ [x] else s).length ≤ j + 1 := by
  split
  · rw [List.length_append, List.length_singleton]; omega
  · omega
theorem foldl_length_le {α : Type} (step : List α → Nat → List α) (h : ∀ s j, (step s j).length ≤ s.length + 1) (l : List Nat) (s : List α) : (l.foldl step s).length ≤ s.length + l.length := by
  induction l generalizing s with
  | nil => simp
  | cons a l ih => rw [List.foldl_cons]; have := ih (step s a); have := h s a; simp; omega
end Go.Proofs.Ytohkocaalbndoaa.Pure
end

section
/-! Meshes: which channels there are, which work in both directions. -/
namespace Go.Proofs.Ytohkocaalbndoaa.Pure
open Go.RowKit Go.Proofs.Ytohkocaalbndoaa.F Go.Proofs.YtohkocaalbndoaaW.PrintWords Go.Proofs.YtohkocaalbndoaaW.PrintLast Go.Proofs.YtohkocaalbndoaaW.PrintMore
set_option linter.unusedVariables false
set_option linter.unusedSimpArgs false

/-- Element j leads to a neighbor, and is greater than the one before. -/
def goodAt (w h : Int) (b : List Int) (j : Nat) : Prop := leads w h (rd b (j : Int)) ∧ (0 < j → rd b ((j - 1 : Nat) : Int) < rd b (j : Int))
instance (w h : Int) (b : List Int) (j : Nat) : Decidable (goodAt w h b j) := inferInstanceAs (Decidable (_ ∧ _))
def meshOk (w h : Int) (b : List Int) : Prop := (∀ j, j < b.length → goodAt w h b j) ∧ okG w h
instance (w h : Int) (b : List Int) : Decidable (meshOk w h b) := inferInstanceAs (Decidable (_ ∧ _))
def has (w h : Int) (b : List Int) (c : Int) : Prop := leads w h c ∧ c ∉ b
instance (w h : Int) (b : List Int) (c : Int) : Decidable (has w h b c) := inferInstanceAs (Decidable (_ ∧ _))
def hasC (w h : Int) (b : List Int) (c : Int) : Prop := meshOk w h b ∧ has w h b c
instance (w h : Int) (b : List Int) (c : Int) : Decidable (hasC w h b c) := inferInstanceAs (Decidable (_ ∧ _))
def endC (w h c : Int) : Int := next w h (c / 4) (c % 4)
def backC (w h c : Int) : Int := 4 * endC w h c + opp (c % 4)
def link (w h : Int) (b : List Int) (c : Int) : Prop := has w h b c ∧ has w h b (backC w h c)
instance (w h : Int) (b : List Int) (c : Int) : Decidable (link w h b c) := inferInstanceAs (Decidable (_ ∧ _))
def chans (w h : Int) (b : List Int) : List Int := ((List.range (4 * cnt w h).toNat).filter (fun c : Nat => decide (hasC w h b (c : Int)))).map fun c : Nat => (c : Int)

theorem meshOk_ev (w h : Int) (b : List Int) (hb : b.length ≤ 9223372036854775806) : Ev (fun k => impl_MeshOk.f k w h b) (decide (meshOk w h b)) := by
  have := ev_all (g := fun k i => impl_MeshOk.l0 k b (b.length : Int) i w h b) b.length (goodAt w h b) (decide (okG w h))
    (Ev.step (f := fun _ => some (decide (okG w h))) (fun k => by simp only [impl_MeshOk.l0, gridOk_f, Option.bind_some]; rw [if_neg (by omega)]) (Ev.now _))
    (fun j hj hg r hr => Ev.step (fun k => by
      simp only [impl_MeshOk.l0, leads_f, Option.bind_some]
      rw [if_pos (by omega), if_pos (by omega), if_pos (by omega), if_pos (by simpa using hg.1), w64 (x := (j : Int) + 1) (by omega) (by omega)]
      by_cases h0 : 0 < j
      · have := hg.2 h0
        rw [if_pos (by omega), w64 (by omega) (by omega), show ((j : Int) - 1) = ((j - 1 : Nat) : Int) by omega, if_pos (by omega), if_pos (by omega), if_neg (by omega)]; rfl
      · rw [if_neg (by omega)]; rfl) hr)
    (fun j hj hp hg => Ev.step (f := fun _ => some false) (fun k => by
      simp only [impl_MeshOk.l0, leads_f, Option.bind_some]
      rw [if_pos (by omega), if_pos (by omega), if_pos (by omega)]
      by_cases hl : leads w h (rd b (j : Int))
      · rw [if_pos (by simpa using hl)]
        by_cases h0 : 0 < j
        · have : ¬ rd b ((j - 1 : Nat) : Int) < rd b (j : Int) := fun h => hg ⟨hl, fun _ => h⟩
          rw [if_pos (by omega), w64 (by omega) (by omega), show ((j : Int) - 1) = ((j - 1 : Nat) : Int) by omega, if_pos (by omega), if_pos (by omega), if_pos (by omega)]
        · exact absurd ⟨hl, fun h => absurd h h0⟩ hg
      · rw [if_neg (by simpa using hl)]) (Ev.now _))
  rw [show decide (meshOk w h b) = (decide (∀ j, j < b.length → goodAt w h b j) && decide (okG w h)) from Bool.decide_and ..]
  exact this
theorem specMeshOk_ev (w h : Int) (b : List Int) (hb : b.length ≤ 9223372036854775806) : Ev (fun k => spec_MeshOk.f k w h b) (decide (meshOk w h b)) := by
  have := ev_all (g := fun k i => spec_MeshOk.l0 k i w h b) b.length (goodAt w h b) true
    (Ev.step (f := fun _ => some true) (fun k => by simp only [spec_MeshOk.l0]; rw [if_neg (by omega)]) (Ev.now _))
    (fun j hj hg r hr => Ev.step (fun k => by
      simp only [spec_MeshOk.l0, specLeads_eq, leads_f, Option.bind_some]
      rw [if_pos (by omega), if_pos (by omega), if_pos (by simpa using hg.1), w64 (x := (j : Int) + 1) (by omega) (by omega)]
      by_cases h0 : 0 < j
      · have := hg.2 h0
        rw [if_pos (by omega), w64 (by omega) (by omega), show ((j : Int) - 1) = ((j - 1 : Nat) : Int) by omega, if_pos (by omega), if_pos (by omega), if_neg (by omega)]; rfl
      · rw [if_neg (by omega)]; rfl) hr)
    (fun j hj hp hg => Ev.step (f := fun _ => some false) (fun k => by
      simp only [spec_MeshOk.l0, specLeads_eq, leads_f, Option.bind_some]
      rw [if_pos (by omega), if_pos (by omega)]
      by_cases hl : leads w h (rd b (j : Int))
      · rw [if_pos (by simpa using hl)]
        by_cases h0 : 0 < j
        · have : ¬ rd b ((j - 1 : Nat) : Int) < rd b (j : Int) := fun h => hg ⟨hl, fun _ => h⟩
          rw [if_pos (by omega), w64 (by omega) (by omega), show ((j : Int) - 1) = ((j - 1 : Nat) : Int) by omega, if_pos (by omega), if_pos (by omega), if_pos (by omega)]
        · exact absurd ⟨hl, fun h => absurd h h0⟩ hg
      · rw [if_neg (by simpa using hl)]) (Ev.now _))
  unfold spec_MeshOk.f
  simp only [specGridOk_eq, gridOk_f, Option.bind_some]
  by_cases h0 : okG w h
  · refine Ev.ifp (by simpa using h0) ?_
    rw [show decide (meshOk w h b) = (decide (∀ j, j < b.length → goodAt w h b j) && true) by
      rw [show decide (meshOk w h b) = (decide (∀ j, j < b.length → goodAt w h b j) && decide (okG w h)) from Bool.decide_and .., decide_eq_true h0]]
    exact this
  · refine Ev.ifn (by simpa using h0) ?_
    rw [decide_eq_false (fun e : meshOk w h b => h0 e.2)]; exact Ev.now _
theorem hasChannel_ev (w h : Int) (b : List Int) (c : Int) (hb : b.length ≤ 9223372036854775806) : Ev (fun k => impl_HasChannel.f k w h b c) (decide (hasC w h b c)) := by
  refine Ev.bind (meshOk_ev w h b hb) ?_
  by_cases h1 : meshOk w h b
  · refine Ev.ifp (by simpa using h1) ?_
    simp only [leads_f, Option.bind_some]
    by_cases h2 : leads w h c
    · refine Ev.ifp (by simpa using h2) (Ev.bind (contains_ev b c (by omega)) ?_)
      have : (!decide (c ∈ b)) = decide (hasC w h b c) := by simp [hasC, has, h1, h2]
      rw [this]; exact Ev.now _
    · refine Ev.ifn (by simpa using h2) ?_
      rw [decide_eq_false (fun e : hasC w h b c => h2 e.2.1)]; exact Ev.now _
  · refine Ev.ifn (by simpa using h1) ?_
    rw [decide_eq_false (fun e : hasC w h b c => h1 e.1)]; exact Ev.now _
theorem specHas_ev (w h : Int) (b : List Int) (c : Int) (hb : b.length ≤ 9223372036854775806) : Ev (fun k => spec_l03Has.f k w h b c) (decide (has w h b c)) := by
  unfold spec_l03Has.f
  simp only [specLeads_eq, leads_f, Option.bind_some]
  by_cases h2 : leads w h c
  · refine Ev.ifp (by simpa using h2) (Ev.bind (l03Find_ev b c (by omega)) ?_)
    have : (!decide (c ∈ b)) = decide (has w h b c) := by simp [has, h2]
    rw [this]; exact Ev.now _
  · refine Ev.ifn (by simpa using h2) ?_
    rw [decide_eq_false (fun e : has w h b c => h2 e.1)]; exact Ev.now _
theorem leads_lt {w h c : Int} (h1 : leads w h c) : 0 ≤ c ∧ c < 64 := by
  have := cnt_range w h; have := h1.1; omega
theorem endOf_f (w h : Int) (b : List Int) (c : Int) (h0 : 0 ≤ c) (h1 : c ≤ 9223372036854775807) : impl_endOf.f w h b c = some (endC w h c) := by
  unfold impl_endOf.f endC
  simp only [next_f, Option.bind_some]
  rw [Int.tdiv_eq_ediv_of_nonneg h0, Int.tmod_eq_emod_of_nonneg h0, w64 (by omega) (by omega)]
theorem endC_range (w h c : Int) : -1 ≤ endC w h c ∧ endC w h c < 16 := by
  have := next_range w h (c / 4) (c % 4); have := cnt_range w h; unfold endC; omega
theorem opp_range (p : Int) : -1 ≤ opp p ∧ opp p ≤ 4 := by unfold opp; split <;> (try split) <;> omega
theorem back_f (w h : Int) (b : List Int) (c : Int) (h0 : 0 ≤ c) (h1 : c ≤ 9223372036854775807) : impl_back.f w h b c = some (backC w h c) := by
  unfold impl_back.f backC
  have := endC_range w h c; have := opp_range (c % 4)
  simp only [endOf_f w h b c h0 h1, Option.bind_some]
  rw [Int.tmod_eq_emod_of_nonneg h0, opp_f]; simp only [Option.bind_some]
  rw [w64 (x := 4 * endC w h c) (by omega) (by omega), w64 (by omega) (by omega)]
theorem isLink_ev (w h : Int) (b : List Int) (c : Int) (hb : b.length ≤ 9223372036854775806) : Ev (fun k => impl_IsLink.f k w h b c) (decide (meshOk w h b ∧ link w h b c)) := by
  refine Ev.bind (hasChannel_ev w h b c hb) ?_
  by_cases h1 : hasC w h b c
  · have := leads_lt h1.2.1
    refine Ev.ifp (by simpa using h1) ?_
    simp only [back_f w h b c (by omega) (by omega), Option.bind_some]
    refine Ev.bind (hasChannel_ev w h b _ hb) ?_
    have : decide (hasC w h b (backC w h c)) = decide (meshOk w h b ∧ link w h b c) := decide_eq_decide.2 ⟨fun e => ⟨e.1, h1.2, e.2⟩, fun e => ⟨e.1, e.2.2⟩⟩
    rw [this]; exact Ev.now _
  · refine Ev.ifn (by simpa using h1) ?_
    rw [decide_eq_false (fun e => h1 ⟨e.1, e.2.1⟩)]; exact Ev.now _
theorem l31Link_ev (w h : Int) (b : List Int) (c : Int) (hb : b.length ≤ 9223372036854775806) : Ev (fun k => spec_l31Link.f k w h b c) (decide (link w h b c)) := by
  refine Ev.bind (specHas_ev w h b c hb) ?_
  by_cases h1 : has w h b c
  · have := leads_lt h1.1
    have := endC_range w h c; have := opp_range (c % 4)
    refine Ev.ifp (by simpa using h1) ?_
    simp only [specNext_eq, next_f, specOpp_eq, opp_f, Option.bind_some]
    rw [Int.tdiv_eq_ediv_of_nonneg (by omega), Int.tmod_eq_emod_of_nonneg (by omega), w64 (x := c / 4) (by omega) (by omega), show next w h (c / 4) (c % 4) = endC w h c from rfl, w64 (x := 4 * endC w h c) (by omega) (by omega), w64 (by omega) (by omega)]
    refine Ev.bind (specHas_ev w h b _ hb) ?_
    have : decide (has w h b (4 * endC w h c + opp (c % 4))) = decide (link w h b c) := decide_eq_decide.2 ⟨fun e => ⟨h1, e⟩, fun e => e.2⟩
    rw [this]; exact Ev.now _
  · refine Ev.ifn (by simpa using h1) ?_
    rw [decide_eq_false (fun e : link w h b c => h1 e.1)]; exact Ev.now _
theorem specIsLink_ev (w h : Int) (b : List Int) (c : Int) (hb : b.length ≤ 9223372036854775806) : Ev (fun k => spec_IsLink.f k w h b c) (decide (meshOk w h b ∧ link w h b c)) := by
  refine Ev.bind (specMeshOk_ev w h b hb) ?_
  by_cases h1 : meshOk w h b
  · refine Ev.ifp (by simpa using h1) (Ev.bind (l31Link_ev w h b c hb) ?_)
    rw [show decide (link w h b c) = decide (meshOk w h b ∧ link w h b c) from decide_eq_decide.2 ⟨fun e => ⟨h1, e⟩, fun e => e.2⟩]; exact Ev.now _
  · refine Ev.ifn (by simpa using h1) ?_
    rw [decide_eq_false (fun e => h1 e.1)]; exact Ev.now _
end Go.Proofs.Ytohkocaalbndoaa.Pure
end

section
/-! The laws' own helpers on meshes. -/
namespace Go.Proofs.Ytohkocaalbndoaa.Pure
open Go.RowKit Go.Proofs.Ytohkocaalbndoaa.F Go.Proofs.YtohkocaalbndoaaW.PrintWords Go.Proofs.YtohkocaalbndoaaW.PrintLast Go.Proofs.YtohkocaalbndoaaW.PrintMore
set_option linter.unusedVariables false
set_option linter.unusedSimpArgs false
theorem szIntS_f (l : List Int) (n : Int) (h0 : 0 ≤ n) (h1 : n ≤ 9223372036854775807) (hl : l.length ≤ 9223372036854775807) : laws_szIntS.f l n = some (if n < l.length then -1 else n - l.length) := by
  unfold laws_szIntS.f
  rw [w64 (by omega) (by omega)]
  split <;> split <;> (first | rfl | omega)
theorem szMesh_f (w h : Int) (l : List Int) (n : Int) (h0 : 0 ≤ n) (h1 : n ≤ 9223372036854775807) (hl : l.length ≤ 9223372036854775807) : laws_szMesh.f w h l n = some (if n < l.length then -1 else n - l.length) := by
  unfold laws_szMesh.f
  simp only [szIntS_f l n h0 h1 hl, Option.bind_some]
  split <;> split <;> (first | rfl | omega)
theorem toMesh_ev (w h : Int) (l : List Int) (hl : l.length ≤ 35184372088832) : Ev (fun k => laws_toMesh.f k w h l) (w, h, l) := by
  unfold laws_toMesh.f laws_toGrid.f
  simp only [Option.bind_some]
  exact Ev.bind (toIntS_ev l hl) (Ev.now _)
theorem eqMesh_ev (w h : Int) (l : List Int) (w' h' : Int) (l' : List Int) (hl : l.length ≤ 9223372036854775807) : Ev (fun k => laws_eqMesh.f k w h l w' h' l') (decide (w = w' ∧ h = h' ∧ l = l')) := by
  unfold laws_eqMesh.f laws_eqGrid.f
  by_cases h1 : w = w'
  · by_cases h2 : h = h'
    · simp only [if_pos h1, if_pos h2, Option.bind_some, if_true]
      refine Ev.bind (eqIntS_ev l l' hl) ?_
      by_cases h3 : l = l' <;> simp [h1, h2, h3] <;> exact Ev.now _
    · simp [h1, h2]; exact Ev.now _
  · simp [h1]; exact Ev.now _
end Go.Proofs.Ytohkocaalbndoaa.Pure
end

section
namespace Go.Proofs.Ytohkocaalbndoaa.Pure
open Go.RowKit Go.Proofs.Ytohkocaalbndoaa.F Go.Proofs.YtohkocaalbndoaaW.PrintWords Go.Proofs.YtohkocaalbndoaaW.PrintLast Go.Proofs.YtohkocaalbndoaaW.PrintMore
set_option linter.unusedVariables false
set_option linter.unusedSimpArgs false
theorem FnExactIsLink (w h : Int) (b : List Int) (c : Int) (w0 : (((Go.Lit.int .i64 w).wf = true) ∧ ((Go.Lit.int .i64 h).wf = true)) ∧ (b.length ≤ maxLen ∧ ∀ x ∈ b, (Go.Lit.int .i64 x).wf = true)) (w1 : (Go.Lit.int .i64 c).wf = true) : ∃ k, laws_FnExactIsLink.f k w h b c = some true := by
  refine Ev.rounds (?_ : Ev (fun k => laws_FnExactIsLink.f k w h b c) true)
  have hl : b.length ≤ 9223372036854775807 := w0.2.1
  unfold laws_FnExactIsLink.f
  simp only [szMesh_f w h b 1048576 (by omega) (by omega) hl, Option.bind_some]
  by_cases hs : (1048576 : Int) < b.length
  · simp only [if_pos hs]; exact Ev.now _
  simp only [if_neg hs]
  refine Ev.ifn (by omega) (Ev.bind (toMesh_ev w h b (by omega)) (Ev.bind (specIsLink_ev w h b c (by omega)) (Ev.bind (toMesh_ev w h b (by omega)) (Ev.bind (isLink_ev w h b c (by omega)) ?_))))
  refine Ev.ifn (by simp) (Ev.bind (toMesh_ev w h b (by omega)) (Ev.bind (eqMesh_ev _ _ _ _ _ _ (by omega)) ?_))
  exact Ev.ifp (by simp) (Ev.now _)
end Go.Proofs.Ytohkocaalbndoaa.Pure
end
