/- Parts of a proof that the law FnAncestors holds for every input: contracts of the program's functions and plain laws on what they compute. -/
import Derived.Test.YtkkoenbmokbglaaQFnAncestors12
import Derived.Test.YtkkoenbmokbglaaQFnAncestors15
import Derived.Test.YtkkoenbmokbglaaQFnAncestors16
import Derived.Test.YtkkoenbmokbglaaQFnAncestors17
section
namespace Go.Proofs.Ytkkoenbmokbglaa.F
open Go.RowKit Go.Proofs.YtkkoenbmokbglaaW.PrintWords Go.Proofs.YtkkoenbmokbglaaW.PrintLast Go.Proofs.YtkkoenbmokbglaaW.PrintMore
set_option linter.unusedVariables false
set_option linter.unusedSimpArgs false
mutual
def spec_l31Depths.l0 : Nat → Int → List Int → Int → Int → Int → List Int → Option (List Int)
  | 0, _, _, _, _, _, _ => none
  | k + 1, x1, x5, x6, x102000, x102001, x102002 => (spec_NodeCount.f x102000 x102001).bind fun t105 => (if x6 < t105 then (if x5.length < 17592186044416 then (spec_l31Depths.l0 k x1 (x5 ++ [(-1)]) (wrap64 (x6 + 1)) x102000 x102001 x102002) else (none)) else (if 0 ≤ x1 then (if x1 < (x5.length : Int) then (spec_l31Depths.l1 k (x5.set (x1 : Int).toNat 0) (([x1] : List Int)) 1 x102000 x102001 x102002) else (none)) else (none)))
def spec_l31Depths.l1 : Nat → List Int → List Int → Int → Int → Int → List Int → Option (List Int)
  | 0, _, _, _, _, _, _ => none
  | k + 1, x5, x7, x8, x102000, x102001, x102002 => if (x7.length : Int) > 0 then (spec_l31Depths.l2 k x5 x7 x8 (([] : List Int)) 0 x102000 x102001 x102002) else (some x5)
def spec_l31Depths.l2 : Nat → List Int → List Int → Int → List Int → Int → Int → Int → List Int → Option (List Int)
  | 0, _, _, _, _, _, _, _, _ => none
  | k + 1, x5, x7, x8, x9, x10, x102000, x102001, x102002 => if x10 < (x7.length : Int) then (spec_l31Depths.l3 k x5 x7 x8 x9 x10 0 x102000 x102001 x102002) else (spec_l31Depths.l1 k x5 x9 (wrap64 (x8 + 1)) x102000 x102001 x102002)
def spec_l31Depths.l3 : Nat → List Int → List Int → Int → List Int → Int → Int → Int → Int → List Int → Option (List Int)
  | 0, _, _, _, _, _, _, _, _, _ => none
  | k + 1, x5, x7, x8, x9, x10, x11, x102000, x102001, x102002 => if x11 < 4 then (if 0 ≤ x10 then (if x10 < (x7.length : Int) then ((spec_l31Link.f k x102000 x102001 x102002 (wrap64 ((wrap64 (4 * (rd x7 x10))) + x11))).bind fun t117 => (if t117 = true then ((spec_NextNode.f x102000 x102001 (rd x7 x10) x11).bind fun t119 => (if 0 ≤ t119 then (if t119 < (x5.length : Int) then (if (rd x5 t119) < 0 then (if x9.length < 17592186044416 then (spec_l31Depths.l3 k (x5.set (t119 : Int).toNat x8) x7 x8 (x9 ++ [t119]) x10 (wrap64 (x11 + 1)) x102000 x102001 x102002) else (none)) else (spec_l31Depths.l3 k x5 x7 x8 x9 x10 (wrap64 (x11 + 1)) x102000 x102001 x102002)) else (none)) else (none))) else (spec_l31Depths.l3 k x5 x7 x8 x9 x10 (wrap64 (x11 + 1)) x102000 x102001 x102002))) else (none)) else (none)) else (spec_l31Depths.l2 k x5 x7 x8 x9 (wrap64 (x10 + 1)) x102000 x102001 x102002)
end
def spec_l31Depths.f (k : Nat) (a0_0 : Int) (a0_1 : Int) (l0_2 : List Int) (a1 : Int) : Option (List Int) := spec_l31Depths.l0 k a1 (([] : List Int)) 0 a0_0 a0_1 l0_2
def spec_l31Depths.T18 : Bool × List (List Nat × List Nat) := (true, [([], []), ([], []), ([], []), ([1, 2], [1, 2]), ([3], [3]), ([4], [4]), ([], []), ([5, 6], [5, 6]), ([0, 7], [0, 7]), ([8], [8])])
def spec_l31Depths.B18 : List Nat := [0, 0, 0, 6, 14, 30, 0, 126, 255, 511]
theorem spec_l31Depths.tab18 : rtab .any (opsOf Try.f63 18) = spec_l31Depths.T18 := by kernel_rfl
theorem spec_l31Depths.bits18 : waitsOk spec_l31Depths.T18.2 spec_l31Depths.B18 = true := by kernel_rfl
def spec_l31Depths.T19 : Bool × List (List Nat × List Nat) := (true, [([], []), ([0], [0]), ([], []), ([], []), ([2, 3], [2, 3]), ([4], [4]), ([], []), ([1, 5, 6], [1, 5, 6]), ([7, 7, 0, 1, 2, 3, 4, 5, 6, 7], [7])])
def spec_l31Depths.B19 : List Nat := [0, 1, 0, 0, 12, 28, 0, 127, 255]
theorem spec_l31Depths.tab19 : rtab .any (opsOf Try.f63 19) = spec_l31Depths.T19 := by kernel_rfl
theorem spec_l31Depths.bits19 : waitsOk spec_l31Depths.T19.2 spec_l31Depths.B19 = true := by kernel_rfl
set_option maxHeartbeats 8000000 in
set_option maxRecDepth 100000 in
theorem spec_l31Depths.calls (k : Nat) (a0_0 : Int) (a0_1 : Int) (A0_2 : Option Addr) (c0_2 : Nat) (l0_2 : List Int) (a1 : Int) (r : List Int) (w : World) (hr0_2 : Kd.C (Kd.int .i64) w A0_2 l0_2.length l0_2) (hc0_2 : l0_2.length ≤ c0_2) (h : spec_l31Depths.f k a0_0 a0_1 l0_2 a1 = some r) :
    Calls Try.prog 63 #[.agg #[.int .i64 a0_0, .int .i64 a0_1, .slice A0_2 l0_2.length c0_2], .int .i64 a1] w fun e w' => ∃ v0_ : Value, e = .returned (v0_) ∧ Kd.R (Kd.int .i64) 3 w' w.heap.size (fun _ => True) v0_ r ∧ Below w.heap.size w w' := by
 have z1_ := Try.underlying34
 have z2_ := Try.underlying32
 have z3_ := Aside0.mk hr0_2
 have z4_ := Aside0.mk hc0_2
 clear hr0_2 hc0_2
 have HB := Aside0.mk (Below.refl w.heap.size w)
 have H : (spec_l31Depths.l0 k a1 (([] : List Int)) 0 a0_0 a0_1 l0_2) = some r := h
 clear h
 obtain ⟨z5_, z6_⟩ : ∃ y_ : List Int, y_ = (([] : List Int)) := ⟨_, rfl⟩
 replace H : (spec_l31Depths.l0 k a1 z5_ 0 a0_0 a0_1 l0_2) = some r := by first | (rw [z6_]; with_reducible exact H) | (have z7_ := (Option.bind_some _ _).symm.trans H; rw [z6_]; with_reducible exact z7_) | (have z7_ := (Option.bind_some _ _).symm.trans H; with_reducible exact z7_) | with_reducible exact H | (rw [z6_]; exact H) | exact H
 have z8_ := Aside0.mk z6_
 clear z6_
 have H' := Aside0.mk H
 clear H
 go_enter Try.func63, Try.ntmps63
 go_wp2_with (first | ((with_reducible refine gate_dst (N := 2) rfl ?_); refine box_event ?hg (N := 2) ?hd (cs := #[.int .i64 a0_0, .int .i64 a0_1, .slice A0_2 l0_2.length c0_2]) (t := 34) ?hr ?_; (case hd => rfl); (case hg => rfl); (case hr => first | (go_simp; done) | (go_simp; rfl)); intro z9_ hg z10_ hbox hb; have z11_ := Aside0.mk (below_step (by repeat (first | (with_reducible first | exact HB.out | apply below_alloc | apply pw_below_drewN | apply below_drew1) | exact HB.out)) hb); have z12_ := Aside0.mk (hbox); have z13_ := Aside0.mk ((by rw [hg]; exact (below_size (by repeat (first | (with_reducible first | exact HB.out | apply below_alloc | apply pw_below_drewN | apply below_drew1) | exact HB.out))) : w.heap.size ≤ z9_)); have z14_ := Aside0.mk ((by rw [hg]; exact (below_size (by repeat (first | (with_reducible first | exact HB.out | apply below_alloc | apply pw_below_drewN | apply below_drew1) | exact HB.out))) : w.heap.size ≤ z9_)); clear HB; have HB := z11_; have z15_ := z12_; have z16_ := z13_; have z17_ := z14_; clear z11_ z12_ z13_ z14_; clear hb hbox hg) | ((with_reducible refine gate_dst (N := 13) rfl ?_); refine Kd.R_lit (Kd.int .i64) _ 3 ?hg (N := 13) ?hd (xs := ([] : List Int)) (inner := []) (ok := fun _ => True) (okp := fun _ => True) ?hr ?hp (fun _ hk => hk) trivial (Below.refl _ _) (Nat.le_refl _) (by simp) ?_; (case hd => rfl); (case hg => rfl); (case hr => first | (go_simp; done) | (go_simp; rfl)); (case hp => exact (Reps.none _ _)); intro z18_ z19_ z20_ hb hg_ hnew_; clear hg_ hnew_; (first | rw [← z8_.out] at z20_ | (simp only [Int.reduceToNat] at z20_; rw [← z8_.out] at z20_)); have z11_ := Aside0.mk (Kd.R_lower z20_ (below_size (by repeat (first | (with_reducible first | exact HB.out | apply below_alloc | apply pw_below_drewN | apply below_drew1 | refine below_set ?_ z17_.out) | exact HB.out)))); have z12_ := Aside0.mk (blk_below (g := z9_) (o := .cells #[.int .i64 a0_0, .int .i64 a0_1, .slice A0_2 l0_2.length c0_2] 34 (0, 0)) (by (with_reducible repeat (first | refine blk_drewN ?_ _ | refine blk_drew ?_ | refine blk_alloc ?_ _)); exact z15_.out) hb); have z13_ := Aside0.mk (below_step (by repeat (first | (with_reducible first | exact HB.out | apply below_alloc | apply pw_below_drewN | apply below_drew1 | refine below_set ?_ z17_.out) | exact HB.out)) hb); clear z15_; clear HB; have z21_ := z11_; have z15_ := z12_; have HB := z13_; clear z11_ z12_ z13_; clear hb z20_))
 go_loopg [5, 6] k (fun kq v5 v6 w' => ∃ (x5_1 : List Int) (x6_1 : Int), v6 = .int .i64 x6_1 ∧ Aside0 (spec_l31Depths.l0 kq a1 x5_1 x6_1 a0_0 a0_1 l0_2 = some r) ∧ Aside0 (kq ≤ k) ∧ Aside0 (Kd.R (Kd.int .i64) 3 w' w.heap.size (fun _ => True) v5 x5_1) ∧ Aside0 (w'.heap[z9_]? = some (.cells #[.int .i64 a0_0, .int .i64 a0_1, (.slice A0_2 l0_2.length c0_2)] 34 (0, 0))) ∧ Aside0 (Below w.heap.size w w'))
 case atStart => exact ⟨(z5_), (0), (by first | rfl | (simp; done) | (simp [*]; done)), H', ⟨Nat.le_refl _⟩, ⟨by (with_reducible repeat (first | apply Kd.R_alloc | apply Kd.R_drewN | apply Kd.R_drew)); exact z21_.out⟩, ⟨by (with_reducible repeat (first | refine blk_drewN ?_ _ | refine blk_drew ?_ | refine blk_alloc ?_ _)); exact z15_.out⟩, ⟨by repeat (first | (with_reducible first | exact HB.out | apply below_alloc | apply pw_below_drewN | apply below_drew1 | refine below_set ?_ z17_.out) | exact HB.out)⟩⟩
 case round =>
   clear H'
   try clear p2
   obtain ⟨z22_, z23_, rfl, HA, z24_, z25_, z15_, HB⟩ := hrel
   cases gk with
   | zero => exact absurd HA.out (by simp [spec_l31Depths.l0])
   | succ z26_ =>
     have H := HA.out
     clear HA
     simp only [spec_l31Depths.l0] at H
     replace H := Option.bind_eq_some_iff.mp H
     obtain ⟨z27_, z28_, H⟩ := H
     replace H : (if z23_ < z27_ then (if z22_.length < 17592186044416 then (spec_l31Depths.l0 z26_ a1 (z22_ ++ [(-1)]) (wrap64 (z23_ + 1)) a0_0 a0_1 l0_2) else (none)) else (if 0 ≤ a1 then (if a1 < (z22_.length : Int) then (spec_l31Depths.l1 z26_ (z22_.set (a1 : Int).toNat 0) (([a1] : List Int)) 1 a0_0 a0_1 l0_2) else (none)) else (none))) = some r := H
     have z29_ := Aside0.mk z28_
     clear z28_
     by_cases z30_ : z23_ < z27_
     · rw [if_pos z30_] at H
       have z31_ : decide (z23_ < z27_) = true := decide_eq_true z30_
       clear z30_
       by_cases z32_ : z22_.length < 17592186044416
       · rw [if_pos z32_] at H
         have z33_ := Aside0.mk z32_
         clear z32_
         obtain ⟨z34_, z35_⟩ : ∃ y_ : List Int, y_ = (z22_ ++ [(-1)]) := ⟨_, rfl⟩
         replace H : (spec_l31Depths.l0 z26_ a1 z34_ (wrap64 (z23_ + 1)) a0_0 a0_1 l0_2) = some r := by first | (rw [z35_]; with_reducible exact H) | (have z7_ := (Option.bind_some _ _).symm.trans H; rw [z35_]; with_reducible exact z7_) | (have z7_ := (Option.bind_some _ _).symm.trans H; with_reducible exact z7_) | with_reducible exact H | (rw [z35_]; exact H) | exact H
         have z36_ := Aside0.mk z35_
         clear z35_
         have H' := Aside0.mk H
         clear H
         have y1_ : wr.cell? ⟨z9_, 0, none⟩ = some (.int .i64 a0_0) := (blk_cell z15_.out 0).trans rfl
         have y2_ : wr.cell? ⟨z9_, 1, none⟩ = some (.int .i64 a0_1) := (blk_cell z15_.out 1).trans rfl
         have y3_ : wr.cell? ⟨z9_, 2, none⟩ = some (.slice A0_2 l0_2.length c0_2) := (blk_cell z15_.out 2).trans rfl
         have y4_ := blk_frozen z15_.out 0
         have y5_ := blk_frozen z15_.out 1
         have y6_ := blk_frozen z15_.out 2
         go_wp2_with (first | ((with_reducible refine gate_callee (f := 87) rfl ?_); refine goesL_ (some 17) rfl rfl Try.func87 (by kernel_rfl) rfl #[.agg #[.int .i64 a0_0, .int .i64 a0_1]] rfl (by (try simp only [List.map_toArray, List.map_cons, List.map_nil]); first | done | rfl | (simp only [List.length_drop, List.length_take]; rfl)) ?_; (with_reducible refine (spec_NodeCount.calls _ _ _ _ z29_.out).mono ?_); rintro e y7_ ⟨rfl, hb⟩; refine ⟨_, rfl, ?_⟩; have z11_ := Aside0.mk (Kd.R_below (by (with_reducible repeat (first | apply Kd.R_alloc | apply Kd.R_drewN | apply Kd.R_drew)); exact z25_.out) hb); have z12_ := Aside0.mk (blk_below (g := z9_) (o := .cells #[.int .i64 a0_0, .int .i64 a0_1, .slice A0_2 l0_2.length c0_2] 34 (0, 0)) (by (with_reducible repeat (first | refine blk_drewN ?_ _ | refine blk_drew ?_ | refine blk_alloc ?_ _)); exact z15_.out) hb); have z13_ := Aside0.mk (below_step (by repeat (first | (with_reducible first | exact HB.out | apply below_alloc | apply pw_below_drewN | apply below_drew1 | refine below_set ?_ z17_.out) | exact HB.out)) hb); clear z25_; clear z15_; clear HB; have z25_ := z11_; have z15_ := z12_; have HB := z13_; clear z11_ z12_ z13_; (try clear hb); (try clear hb2); (try clear hk); (try clear hi)) | ((with_reducible refine gate_builtin (b := .append) (xs := #[.tmp 21, .tmp 22]) rfl ?_); at_builtin; refine Kd.R_append (Kd.int .i64) (w0 := w) w.heap.size rfl (.tmp 21) (.tmp 22) 24 3 (.int .i64 0) 8 rfl Try.underlying24 info3 rfl (by decide) (by omega) u5 z22_ (-1) [.int .i64 (-1)] (fun _ => True) (fun _ => False) rfl rfl ?aP (fun _ hk => hk.elim) ?aF ?aO ?aB ?aS ?aL ?_; (case aP => exact rfl); (case aB => exact (by repeat (first | (with_reducible first | exact HB.out | apply below_alloc | apply pw_below_drewN | apply below_drew1 | refine below_set ?_ z17_.out) | exact HB.out))); (case aF => exact (fun _ _ => trivial)); (case aO => exact (by (with_reducible repeat (first | apply Kd.R_alloc | apply Kd.R_drewN | apply Kd.R_drew)); exact z25_.out)); (case aS => exact (below_size (by repeat (first | (with_reducible first | exact HB.out | apply below_alloc | apply pw_below_drewN | apply below_drew1 | refine below_set ?_ z17_.out) | exact HB.out)))); (case aL => have := z33_.out; omega); intro y8_ y9_ ho hb hg hat; rw [← z36_.out] at ho; have z11_ := Aside0.mk (blk_grown (g := z9_) (o := .cells #[.int .i64 a0_0, .int .i64 a0_1, .slice A0_2 l0_2.length c0_2] 34 (0, 0)) (by (with_reducible repeat (first | refine blk_drewN ?_ _ | refine blk_drew ?_ | refine blk_alloc ?_ _)); exact z15_.out) hg (Kd.R_ne z25_.out z15_.out (by decide))); have z12_ := Aside0.mk (hb); have z13_ := Aside0.mk (ho); clear z15_; clear HB; clear z25_; have z15_ := z11_; have HB := z12_; have y10_ := z13_; clear z11_ z12_ z13_; clear ho hb hg hat))
         go_roundg z26_
         case measure => have := z24_.out; omega
         case rel => exact ⟨(z34_), (wrap64 (z23_ + 1)), (by first | rfl | (simp; done) | (simp [*]; done)), H', ⟨by have := z24_.out; omega⟩, ⟨by (with_reducible repeat (first | apply Kd.R_alloc | apply Kd.R_drewN | apply Kd.R_drew)); exact y10_.out⟩, ⟨by (with_reducible repeat (first | refine blk_drewN ?_ _ | refine blk_drew ?_ | refine blk_alloc ?_ _)); exact z15_.out⟩, ⟨by repeat (first | (with_reducible first | exact HB.out | apply below_alloc | apply pw_below_drewN | apply below_drew1 | refine below_set ?_ z17_.out) | exact HB.out)⟩⟩
       · rw [if_neg z32_] at H
         exact absurd H (by simp)
     · rw [if_neg z30_] at H
       have z31_ : decide (z23_ < z27_) = false := decide_eq_false z30_
       clear z30_
       by_cases z32_ : 0 ≤ a1
       · rw [if_pos z32_] at H
         have z33_ : decide (0 ≤ a1) = true := decide_eq_true z32_
         clear z32_
         by_cases z34_ : a1 < (z22_.length : Int)
         · rw [if_pos z34_] at H
           have z35_ : decide (a1 < (z22_.length : Int)) = true := decide_eq_true z34_
           clear z34_
           obtain ⟨z36_, z37_⟩ : ∃ y_ : List Int, y_ = (z22_.set (a1 : Int).toNat 0) := ⟨_, rfl⟩
           replace H : (spec_l31Depths.l1 z26_ z36_ (([a1] : List Int)) 1 a0_0 a0_1 l0_2) = some r := by first | (rw [z37_]; with_reducible exact H) | (have z7_ := (Option.bind_some _ _).symm.trans H; rw [z37_]; with_reducible exact z7_) | (have z7_ := (Option.bind_some _ _).symm.trans H; with_reducible exact z7_) | with_reducible exact H | (rw [z37_]; exact H) | exact H
           have z38_ := Aside0.mk z37_
           clear z37_
           obtain ⟨z39_, z40_⟩ : ∃ y_ : List Int, y_ = (([a1] : List Int)) := ⟨_, rfl⟩
           replace H : (spec_l31Depths.l1 z26_ z36_ z39_ 1 a0_0 a0_1 l0_2) = some r := by first | (rw [z40_]; with_reducible exact H) | (have z7_ := (Option.bind_some _ _).symm.trans H; rw [z40_]; with_reducible exact z7_) | (have z7_ := (Option.bind_some _ _).symm.trans H; with_reducible exact z7_) | with_reducible exact H | (rw [z40_]; exact H) | exact H
           have z41_ := Aside0.mk z40_
           clear z40_
           have H' := Aside0.mk H
           clear H
           have y1_ : wr.cell? ⟨z9_, 0, none⟩ = some (.int .i64 a0_0) := (blk_cell z15_.out 0).trans rfl
           have y2_ : wr.cell? ⟨z9_, 1, none⟩ = some (.int .i64 a0_1) := (blk_cell z15_.out 1).trans rfl
           have y3_ : wr.cell? ⟨z9_, 2, none⟩ = some (.slice A0_2 l0_2.length c0_2) := (blk_cell z15_.out 2).trans rfl
           have y4_ := blk_frozen z15_.out 0
           have y5_ := blk_frozen z15_.out 1
           have y6_ := blk_frozen z15_.out 2
           go_wp2_with (first | ((with_reducible refine gate_callee (f := 87) rfl ?_); refine goesL_ (some 17) rfl rfl Try.func87 (by kernel_rfl) rfl #[.agg #[.int .i64 a0_0, .int .i64 a0_1]] rfl (by (try simp only [List.map_toArray, List.map_cons, List.map_nil]); first | done | rfl | (simp only [List.length_drop, List.length_take]; rfl)) ?_; (with_reducible refine (spec_NodeCount.calls _ _ _ _ z29_.out).mono ?_); rintro e y7_ ⟨rfl, hb⟩; refine ⟨_, rfl, ?_⟩; have z11_ := Aside0.mk (Kd.R_below (by (with_reducible repeat (first | apply Kd.R_alloc | apply Kd.R_drewN | apply Kd.R_drew)); exact z25_.out) hb); have z12_ := Aside0.mk (blk_below (g := z9_) (o := .cells #[.int .i64 a0_0, .int .i64 a0_1, .slice A0_2 l0_2.length c0_2] 34 (0, 0)) (by (with_reducible repeat (first | refine blk_drewN ?_ _ | refine blk_drew ?_ | refine blk_alloc ?_ _)); exact z15_.out) hb); have z13_ := Aside0.mk (below_step (by repeat (first | (with_reducible first | exact HB.out | apply below_alloc | apply pw_below_drewN | apply below_drew1 | refine below_set ?_ z17_.out) | exact HB.out)) hb); clear z25_; clear z15_; clear HB; have z25_ := z11_; have z15_ := z12_; have HB := z13_; clear z11_ z12_ z13_; (try clear hb); (try clear hb2); (try clear hk); (try clear hi); have y8_ : 0 ≤ (a1 : Int) := of_decide_eq_true (by first | (with_reducible assumption) | assumption); have y9_ : (a1 : Int) < ((z22_.length : Int) : Int) := of_decide_eq_true (by first | (with_reducible assumption) | assumption); obtain ⟨y10_, y11_, y12_, y13_, y14_, y15_, y16_⟩ := Kd.R_form z25_.out (by omega); (first | cases y12_ | (injection y12_ with ea_ en_ ec_; (first | subst ea_ | (injection ea_ with ea_; subst ea_)); subst ec_; clear en_)); have y17_ := Aside0.mk y13_; have y18_ := Aside0.mk y16_; clear y13_ y14_ y16_; obtain ⟨y19_, y20_⟩ := Kd.R_celln 0 z25_.out (a1 : Int) y8_ y9_; replace y8_ := eq_true y8_; replace y9_ := eq_true y9_; obtain ⟨y21_, y22_⟩ := Kd.R_celln 0 z25_.out (a1 : Int) (of_decide_eq_true (by first | (with_reducible assumption) | assumption)) (of_decide_eq_true (by first | (with_reducible assumption) | assumption)); have y23_ := Kd.R_putg z25_.out (a1 : Int) 0) | ((with_reducible refine gate_store (t := 3) (p := 26) rfl ?_); refine store_event (t := 3) (p := 26) (v := ?vo_w18) (w1 := (y7_.setCell ⟨y10_, (a1 : Int).toNat, none⟩ (.int .i64 0))) ?hg ?ho ?hn ?hr ?_; (case ho => rfl); (case hg => rfl); (case hn => rfl); (case hr => first | (go_simp; done) | (go_simp; rfl)); intro y24_ hw; have hg : y7_.grownBy y24_ (some y10_) := (by rw [hw]; exact y23_.2); have hp_ : Kd.R (Kd.int .i64) 3 y24_ w.heap.size (fun _ => True) (.slice (some ⟨y10_, 0, none⟩) z22_.length y11_) z36_ := (by rw [hw, z38_.out]; exact y23_.1); clear y23_; have z11_ := Aside0.mk (hp_); have z12_ := Aside0.mk (blk_grown (g := z9_) (o := .cells #[.int .i64 a0_0, .int .i64 a0_1, .slice A0_2 l0_2.length c0_2] 34 (0, 0)) (by (with_reducible repeat (first | refine blk_drewN ?_ _ | refine blk_drew ?_ | refine blk_alloc ?_ _)); exact z15_.out) hg (Kd.R_ne z25_.out z15_.out (by decide))); have z13_ := Aside0.mk ((by rw [hw]; exact below_set (HB.out) y17_.out : Below w.heap.size w y24_)); clear z25_; clear z15_; clear HB; have z25_ := z11_; have z15_ := z12_; have HB := z13_; clear z11_ z12_ z13_; clear hg hw hp_) | ((with_reducible refine gate_dst (N := 28) rfl ?_); refine Kd.R_lit (Kd.int .i64) _ 3 ?hg (N := 28) ?hd (xs := ([a1] : List Int)) (inner := [.int .i64 a1]) (ok := fun _ => True) (okp := fun _ => True) ?hr ?hp (fun _ hk => hk) trivial (Below.refl _ _) (Nat.le_refl _) (by simp) ?_; (case hd => rfl); (case hg => rfl); (case hr => first | (go_simp; done) | (go_simp; rfl)); (case hp => exact (Reps.one (show Kd.M (Kd.int .i64) _ _ _ a1 [.int .i64 a1] from rfl) (Reps.none _ _))); intro y25_ y26_ y27_ hb hg_ hnew_; clear hg_ hnew_; (first | rw [← z41_.out] at y27_ | (simp only [Int.reduceToNat] at y27_; rw [← z41_.out] at y27_)); have z11_ := Aside0.mk (Kd.R_elder' (by (with_reducible repeat (first | apply Kd.R_alloc | apply Kd.R_drewN | apply Kd.R_drew)); exact z25_.out) (Kd.R_base y27_) hb); have z12_ := Aside0.mk (Kd.R_lower (Kd.R_new' y27_ (Kd.R_lt (by (with_reducible repeat (first | apply Kd.R_alloc | apply Kd.R_drewN | apply Kd.R_drew)); exact z25_.out))) (below_size (by repeat (first | (with_reducible first | exact HB.out | apply below_alloc | apply pw_below_drewN | apply below_drew1 | refine below_set ?_ z17_.out) | exact HB.out)))); have z13_ := Aside0.mk (blk_below (g := z9_) (o := .cells #[.int .i64 a0_0, .int .i64 a0_1, .slice A0_2 l0_2.length c0_2] 34 (0, 0)) (by (with_reducible repeat (first | refine blk_drewN ?_ _ | refine blk_drew ?_ | refine blk_alloc ?_ _)); exact z15_.out) hb); have z14_ := Aside0.mk (below_step (by repeat (first | (with_reducible first | exact HB.out | apply below_alloc | apply pw_below_drewN | apply below_drew1 | refine below_set ?_ z17_.out) | exact HB.out)) hb); clear z25_; clear z15_; clear HB; have z25_ := z11_; have y28_ := z12_; have z15_ := z13_; have HB := z14_; clear z11_ z12_ z13_ z14_; clear hb y27_))
           go_loopg [7, 8] z26_ (fun kq v7 v8 w' => ∃ (x5_2 : List Int) (x7_2 : List Int) (x8_2 : Int), v8 = .int .i64 x8_2 ∧ Aside0 (spec_l31Depths.l1 kq x5_2 x7_2 x8_2 a0_0 a0_1 l0_2 = some r) ∧ Aside0 (kq ≤ z26_) ∧ Aside0 (Kd.R (Kd.int .i64) 3 w' w.heap.size (fun k_ => some k_ ≠ (v7 : Value).ownBlock) (.slice (some ⟨y10_, 0, none⟩) z22_.length y11_) x5_2) ∧ Aside0 (Kd.R (Kd.int .i64) 3 w' w.heap.size (fun k_ => some k_ ≠ ((.slice (some ⟨y10_, 0, none⟩) z22_.length y11_) : Value).ownBlock) v7 x7_2) ∧ Aside0 (w'.heap[z9_]? = some (.cells #[.int .i64 a0_0, .int .i64 a0_1, (.slice A0_2 l0_2.length c0_2)] 34 (0, 0))) ∧ Aside0 (Below w.heap.size w w'))
           case atStart => exact ⟨(z36_), (z39_), (1), (by first | rfl | (simp; done) | (simp [*]; done)), H', ⟨Nat.le_refl _⟩, ⟨by (with_reducible repeat (first | apply Kd.R_alloc | apply Kd.R_drewN | apply Kd.R_drew)); exact Kd.R_mono z25_.out (fun _ hk => hk.2)⟩, ⟨by (with_reducible repeat (first | apply Kd.R_alloc | apply Kd.R_drewN | apply Kd.R_drew)); exact Kd.R_mono y28_.out (fun _ hk => hk.2)⟩, ⟨by (with_reducible repeat (first | refine blk_drewN ?_ _ | refine blk_drew ?_ | refine blk_alloc ?_ _)); exact z15_.out⟩, ⟨by repeat (first | (with_reducible first | exact HB.out | apply below_alloc | apply pw_below_drewN | apply below_drew1 | refine below_set ?_ z17_.out) | exact HB.out)⟩⟩
           case round =>
             clear H'
             try clear c1
             try clear p1
             try clear q1
             try clear hx1
             try clear p2
             try clear c6
             try clear p6
             try clear z30_
             try clear z31_
             try clear c8
             try clear z32_
             try clear z33_
             try clear z34_
             try clear z35_
             try clear y8_
             try clear y9_
             try clear hx14
             try clear hf14
             try clear y1_
             try clear y2_
             try clear y3_
             try clear hcz9_0
             try clear hcz9_1
             try clear hcz9_2
             try clear y4_
             try clear y5_
             try clear y6_
             try clear hfz9_0
             try clear hfz9_1
             try clear hfz9_2
             try clear y19_
             try clear y8_
             try clear p2
             try clear y9_
             obtain ⟨y29_, y30_, y31_, rfl, HA, y32_, z25_, y33_, z15_, HB⟩ := hrel
             have y34_ := (Kd.R_reads' z25_.out).1
             rw [y34_] at z25_
             (try simp only [y34_])
             (try simp only [y34_] at z15_)
             (try simp only [y34_] at y33_)
             cases gk with
             | zero => exact absurd HA.out (by simp [spec_l31Depths.l1])
             | succ y35_ =>
               have H := HA.out
               clear HA
               simp only [spec_l31Depths.l1] at H
               by_cases y36_ : (y30_.length : Int) > 0
               · rw [if_pos y36_] at H
                 have y37_ : decide (0 < (y30_.length : Int)) = true := decide_eq_true y36_
                 have y38_ : decide (0 < y30_.length) = true := decide_eq_true (by omega)
                 clear y36_
                 obtain ⟨y39_, y40_⟩ : ∃ y_ : List Int, y_ = (([] : List Int)) := ⟨_, rfl⟩
                 replace H : (spec_l31Depths.l2 y35_ y29_ y30_ y31_ y39_ 0 a0_0 a0_1 l0_2) = some r := by first | (rw [y40_]; with_reducible exact H) | (have z7_ := (Option.bind_some _ _).symm.trans H; rw [y40_]; with_reducible exact z7_) | (have z7_ := (Option.bind_some _ _).symm.trans H; with_reducible exact z7_) | with_reducible exact H | (rw [y40_]; exact H) | exact H
                 have y41_ := Aside0.mk y40_
                 clear y40_
                 have H' := Aside0.mk H
                 clear H
                 obtain ⟨x1_, x2_, x3_⟩ := Kd.R_slice y33_.out
                 subst x3_
                 go_wp2_with (first | ((with_reducible refine gate_dst (N := 34) rfl ?_); refine Kd.R_lit (Kd.int .i64) _ 3 ?hg (N := 34) ?hd (xs := ([] : List Int)) (inner := []) (ok := fun _ => True) (okp := fun _ => True) ?hr ?hp (fun _ hk => hk) trivial (Below.refl _ _) (Nat.le_refl _) (by simp) ?_; (case hd => rfl); (case hg => rfl); (case hr => first | (go_simp; done) | (go_simp; rfl)); (case hp => exact (Reps.none _ _)); intro x4_ x5_ x6_ hb hg_ hnew_; clear hg_ hnew_; (first | rw [← y41_.out] at x6_ | (simp only [Int.reduceToNat] at x6_; rw [← y41_.out] at x6_)); have z11_ := Aside0.mk (Kd.R_elder' (by (with_reducible repeat (first | apply Kd.R_alloc | apply Kd.R_drewN | apply Kd.R_drew)); exact z25_.out) (Kd.R_base x6_) hb); have z12_ := Aside0.mk (Kd.R_elder' (by (with_reducible repeat (first | apply Kd.R_alloc | apply Kd.R_drewN | apply Kd.R_drew)); exact y33_.out) (Kd.R_base x6_) hb); have z13_ := Aside0.mk (Kd.R_lower (Kd.R_new' (Kd.R_new' x6_ (Kd.R_lt (by (with_reducible repeat (first | apply Kd.R_alloc | apply Kd.R_drewN | apply Kd.R_drew)); exact z25_.out))) (Kd.R_lt (by (with_reducible repeat (first | apply Kd.R_alloc | apply Kd.R_drewN | apply Kd.R_drew)); exact y33_.out))) (below_size (by repeat (first | (with_reducible first | exact HB.out | apply below_alloc | apply pw_below_drewN | apply below_drew1 | refine below_set ?_ z17_.out) | exact HB.out)))); have z14_ := Aside0.mk (blk_below (g := z9_) (o := .cells #[.int .i64 a0_0, .int .i64 a0_1, .slice A0_2 l0_2.length c0_2] 34 (0, 0)) (by (with_reducible repeat (first | refine blk_drewN ?_ _ | refine blk_drew ?_ | refine blk_alloc ?_ _)); exact z15_.out) hb); have x7_ := Aside0.mk (below_step (by repeat (first | (with_reducible first | exact HB.out | apply below_alloc | apply pw_below_drewN | apply below_drew1 | refine below_set ?_ z17_.out) | exact HB.out)) hb); clear z25_; clear y33_; clear z15_; clear HB; have z25_ := z11_; have y33_ := z12_; have x8_ := z13_; have z15_ := z14_; have HB := x7_; clear z11_ z12_ z13_ z14_ x7_; clear hb x6_))
                 go_loopg [9, 10] y35_ (fun kq v9 v10 w' => ∃ (x5_3 : List Int) (x9_3 : List Int) (x10_3 : Int), v10 = .int .i64 x10_3 ∧ Aside0 (spec_l31Depths.l2 kq x5_3 y30_ y31_ x9_3 x10_3 a0_0 a0_1 l0_2 = some r) ∧ Aside0 (kq ≤ y35_) ∧ Aside0 (Kd.R (Kd.int .i64) 3 w' w.heap.size (fun k_ => some k_ ≠ ((.slice x1_ y30_.length x2_) : Value).ownBlock ∧ some k_ ≠ (v9 : Value).ownBlock) (.slice (some ⟨y10_, 0, none⟩) y29_.length y11_) x5_3) ∧ Aside0 (Kd.R (Kd.int .i64) 3 w' w.heap.size (fun k_ => some k_ ≠ ((.slice (some ⟨y10_, 0, none⟩) y29_.length y11_) : Value).ownBlock ∧ some k_ ≠ (v9 : Value).ownBlock) (.slice x1_ y30_.length x2_) y30_) ∧ Aside0 (Kd.R (Kd.int .i64) 3 w' w.heap.size (fun k_ => some k_ ≠ ((.slice (some ⟨y10_, 0, none⟩) y29_.length y11_) : Value).ownBlock ∧ some k_ ≠ ((.slice x1_ y30_.length x2_) : Value).ownBlock) v9 x9_3) ∧ Aside0 (w'.heap[z9_]? = some (.cells #[.int .i64 a0_0, .int .i64 a0_1, (.slice A0_2 l0_2.length c0_2)] 34 (0, 0))) ∧ Aside0 (Below w.heap.size w w'))
                 case atStart => exact ⟨(y29_), (y39_), (0), (by first | rfl | (simp; done) | (simp [*]; done)), H', ⟨Nat.le_refl _⟩, ⟨by (try simp only [y34_]); (with_reducible repeat (first | apply Kd.R_alloc | apply Kd.R_drewN | apply Kd.R_drew)); exact z25_.out⟩, ⟨by (try simp only [y34_]); (with_reducible repeat (first | apply Kd.R_alloc | apply Kd.R_drewN | apply Kd.R_drew)); exact y33_.out⟩, ⟨by (try simp only [y34_]); (with_reducible repeat (first | apply Kd.R_alloc | apply Kd.R_drewN | apply Kd.R_drew)); exact Kd.R_mono x8_.out (fun _ hk => ⟨hk.1.2, hk.2⟩)⟩, ⟨by (try simp only [y34_]); (with_reducible repeat (first | refine blk_drewN ?_ _ | refine blk_drew ?_ | refine blk_alloc ?_ _)); exact z15_.out⟩, ⟨by repeat (first | (with_reducible first | exact HB.out | apply below_alloc | apply pw_below_drewN | apply below_drew1 | refine below_set ?_ z17_.out) | exact HB.out)⟩⟩
                 case round =>
                   clear H'
                   try clear c1
                   try clear p1
                   try clear q1
                   try clear hx1
                   try clear c2
                   try clear p2
                   try clear c6
                   try clear p6
                   try clear z30_
                   try clear z31_
                   try clear c8
                   try clear z32_
                   try clear z33_
                   try clear z34_
                   try clear z35_
                   try clear y8_
                   try clear y9_
                   try clear hx14
                   try clear hf14
                   try clear y36_
                   try clear y37_
                   try clear y38_
                   try clear y1_
                   try clear y2_
                   try clear y3_
                   try clear hcz9_0
                   try clear hcz9_1
                   try clear hcz9_2
                   try clear y4_
                   try clear y5_
                   try clear y6_
                   try clear hfz9_0
                   try clear hfz9_1
                   try clear hfz9_2
                   try clear y19_
                   try clear p1
                   try clear y8_
                   try clear p2
                   try clear p6
                   try clear q1
                   try clear y9_
                   obtain ⟨x9_, x10_, x11_, rfl, HA, x12_, z25_, y33_, x13_, z15_, HB⟩ := hrel
                   have x14_ := (Kd.R_reads' z25_.out).1
                   rw [x14_] at z25_
                   (try simp only [x14_])
                   (try simp only [x14_] at z15_)
                   (try simp only [x14_] at y33_)
                   (try simp only [x14_] at x13_)
                   cases gk with
                   | zero => exact absurd HA.out (by simp [spec_l31Depths.l2])
                   | succ x15_ =>
                     have H := HA.out
                     clear HA
                     simp only [spec_l31Depths.l2] at H
                     by_cases x16_ : x11_ < (y30_.length : Int)
                     · rw [if_pos x16_] at H
                       have x17_ : decide (x11_ < (y30_.length : Int)) = true := decide_eq_true x16_
                       clear x16_
                       have H' := Aside0.mk H
                       clear H
                       go_wp2
                       go_loopg [9, 11] x15_ (fun kq v9 v11 w' => ∃ (x5_4 : List Int) (x9_4 : List Int) (x11_4 : Int), v11 = .int .i64 x11_4 ∧ Aside0 (spec_l31Depths.l3 kq x5_4 y30_ y31_ x9_4 x11_ x11_4 a0_0 a0_1 l0_2 = some r) ∧ Aside0 (kq ≤ x15_) ∧ Aside0 (Kd.R (Kd.int .i64) 3 w' w.heap.size (fun k_ => some k_ ≠ ((.slice x1_ y30_.length x2_) : Value).ownBlock ∧ some k_ ≠ (v9 : Value).ownBlock) (.slice (some ⟨y10_, 0, none⟩) x9_.length y11_) x5_4) ∧ Aside0 (Kd.R (Kd.int .i64) 3 w' w.heap.size (fun k_ => some k_ ≠ ((.slice (some ⟨y10_, 0, none⟩) x9_.length y11_) : Value).ownBlock ∧ some k_ ≠ (v9 : Value).ownBlock) (.slice x1_ y30_.length x2_) y30_) ∧ Aside0 (Kd.R (Kd.int .i64) 3 w' w.heap.size (fun k_ => some k_ ≠ ((.slice (some ⟨y10_, 0, none⟩) x9_.length y11_) : Value).ownBlock ∧ some k_ ≠ ((.slice x1_ y30_.length x2_) : Value).ownBlock) v9 x9_4) ∧ Aside0 (w'.heap[z9_]? = some (.cells #[.int .i64 a0_0, .int .i64 a0_1, (.slice A0_2 l0_2.length c0_2)] 34 (0, 0))) ∧ Aside0 (Below w.heap.size w w'))
                       case atStart => exact ⟨(x9_), (x10_), (0), (by first | rfl | (simp; done) | (simp [*]; done)), H', ⟨Nat.le_refl _⟩, ⟨by (try simp only [y34_]); (try simp only [x14_]); (with_reducible repeat (first | apply Kd.R_alloc | apply Kd.R_drewN | apply Kd.R_drew)); exact z25_.out⟩, ⟨by (try simp only [y34_]); (try simp only [x14_]); (with_reducible repeat (first | apply Kd.R_alloc | apply Kd.R_drewN | apply Kd.R_drew)); exact y33_.out⟩, ⟨by (try simp only [y34_]); (try simp only [x14_]); (with_reducible repeat (first | apply Kd.R_alloc | apply Kd.R_drewN | apply Kd.R_drew)); exact x13_.out⟩, ⟨by (try simp only [y34_]); (try simp only [x14_]); (with_reducible repeat (first | refine blk_drewN ?_ _ | refine blk_drew ?_ | refine blk_alloc ?_ _)); exact z15_.out⟩, ⟨by repeat (first | (with_reducible first | exact HB.out | apply below_alloc | apply pw_below_drewN | apply below_drew1 | refine below_set ?_ z17_.out) | exact HB.out)⟩⟩
                       case round =>
                         clear H'
                         try clear c1
                         try clear p1
                         try clear q1
                         try clear hx1
                         try clear c2
                         try clear p2
                         try clear c6
                         try clear p6
                         try clear z30_
                         try clear z31_
                         try clear c8
                         try clear z32_
                         try clear z33_
                         try clear z34_
                         try clear z35_
                         try clear y8_
                         try clear y9_
                         try clear hx14
                         try clear hf14
                         try clear y36_
                         try clear y37_
                         try clear y38_
                         try clear x16_
                         try clear x17_
                         try clear y1_
                         try clear y2_
                         try clear y3_
                         try clear hcz9_0
                         try clear hcz9_1
                         try clear hcz9_2
                         try clear y4_
                         try clear y5_
                         try clear y6_
                         try clear hfz9_0
                         try clear hfz9_1
                         try clear hfz9_2
                         try clear y19_
                         try clear p1
                         try clear y8_
                         try clear p2
                         try clear p6
                         try clear q1
                         try clear y9_
                         obtain ⟨v1_, v2_, v3_, rfl, HA, v4_, z25_, y33_, x13_, z15_, HB⟩ := hrel
                         have v5_ := (Kd.R_reads' z25_.out).1
                         rw [v5_] at z25_
                         (try simp only [v5_])
                         (try simp only [v5_] at z15_)
                         (try simp only [v5_] at y33_)
                         (try simp only [v5_] at x13_)
                         cases gk with
                         | zero => exact absurd HA.out (by simp [spec_l31Depths.l3])
                         | succ v6_ =>
                           have H := HA.out
                           clear HA
                           simp only [spec_l31Depths.l3] at H
                           by_cases v7_ : v3_ < 4
                           · rw [if_pos v7_] at H
                             have v8_ : decide (v3_ < 4) = true := decide_eq_true v7_
                             clear v7_
                             by_cases v9_ : 0 ≤ x11_
                             · rw [if_pos v9_] at H
                               have v10_ : decide (0 ≤ x11_) = true := decide_eq_true v9_
                               clear v9_
                               by_cases v11_ : x11_ < (y30_.length : Int)
                               · rw [if_pos v11_] at H
                                 have v12_ : decide (x11_ < (y30_.length : Int)) = true := decide_eq_true v11_
                                 clear v11_
                                 replace H := Option.bind_eq_some_iff.mp H
                                 obtain ⟨v13_, v14_, H⟩ := H
                                 replace H : (if v13_ = true then ((spec_NextNode.f a0_0 a0_1 (rd y30_ x11_) v3_).bind fun t119 => (if 0 ≤ t119 then (if t119 < (v1_.length : Int) then (if (rd v1_ t119) < 0 then (if v2_.length < 17592186044416 then (spec_l31Depths.l3 v6_ (v1_.set (t119 : Int).toNat y31_) y30_ y31_ (v2_ ++ [t119]) x11_ (wrap64 (v3_ + 1)) a0_0 a0_1 l0_2) else (none)) else (spec_l31Depths.l3 v6_ v1_ y30_ y31_ v2_ x11_ (wrap64 (v3_ + 1)) a0_0 a0_1 l0_2)) else (none)) else (none))) else (spec_l31Depths.l3 v6_ v1_ y30_ y31_ v2_ x11_ (wrap64 (v3_ + 1)) a0_0 a0_1 l0_2)) = some r := H
                                 have v15_ := Aside0.mk v14_
                                 clear v14_
                                 by_cases v16_ : v13_ = true
                                 · subst v16_
                                   have v17_ : ((spec_NextNode.f a0_0 a0_1 (rd y30_ x11_) v3_).bind fun t119 => (if 0 ≤ t119 then (if t119 < (v1_.length : Int) then (if (rd v1_ t119) < 0 then (if v2_.length < 17592186044416 then (spec_l31Depths.l3 v6_ (v1_.set (t119 : Int).toNat y31_) y30_ y31_ (v2_ ++ [t119]) x11_ (wrap64 (v3_ + 1)) a0_0 a0_1 l0_2) else (none)) else (spec_l31Depths.l3 v6_ v1_ y30_ y31_ v2_ x11_ (wrap64 (v3_ + 1)) a0_0 a0_1 l0_2)) else (none)) else (none))) = some r := by rw [if_pos rfl] at H; exact H
                                   clear H
                                   have H := v17_
                                   clear v17_
                                   replace H := Option.bind_eq_some_iff.mp H
                                   obtain ⟨v18_, v19_, H⟩ := H
                                   replace H : (if 0 ≤ v18_ then (if v18_ < (v1_.length : Int) then (if (rd v1_ v18_) < 0 then (if v2_.length < 17592186044416 then (spec_l31Depths.l3 v6_ (v1_.set (v18_ : Int).toNat y31_) y30_ y31_ (v2_ ++ [v18_]) x11_ (wrap64 (v3_ + 1)) a0_0 a0_1 l0_2) else (none)) else (spec_l31Depths.l3 v6_ v1_ y30_ y31_ v2_ x11_ (wrap64 (v3_ + 1)) a0_0 a0_1 l0_2)) else (none)) else (none)) = some r := H
                                   have v20_ := Aside0.mk v19_
                                   clear v19_
                                   by_cases v21_ : 0 ≤ v18_
                                   · rw [if_pos v21_] at H
                                     have v22_ : decide (0 ≤ v18_) = true := decide_eq_true v21_
                                     clear v21_
                                     by_cases v23_ : v18_ < (v1_.length : Int)
                                     · rw [if_pos v23_] at H
                                       have v24_ : decide (v18_ < (v1_.length : Int)) = true := decide_eq_true v23_
                                       clear v23_
                                       by_cases v25_ : (rd v1_ v18_) < 0
                                       · rw [if_pos v25_] at H
                                         have v26_ : decide ((rd v1_ v18_) < 0) = true := decide_eq_true v25_
                                         clear v25_
                                         obtain ⟨v27_, v28_⟩ : ∃ y_ : List Int, y_ = (v1_.set (v18_ : Int).toNat y31_) := ⟨_, rfl⟩
                                         replace H : (if v2_.length < 17592186044416 then (spec_l31Depths.l3 v6_ v27_ y30_ y31_ (v2_ ++ [v18_]) x11_ (wrap64 (v3_ + 1)) a0_0 a0_1 l0_2) else (none)) = some r := by first | (rw [v28_]; with_reducible exact H) | (have z7_ := (Option.bind_some _ _).symm.trans H; rw [v28_]; with_reducible exact z7_) | (have z7_ := (Option.bind_some _ _).symm.trans H; with_reducible exact z7_) | with_reducible exact H | (rw [v28_]; exact H) | exact H
                                         have v29_ := Aside0.mk v28_
                                         clear v28_
                                         by_cases v30_ : v2_.length < 17592186044416
                                         · rw [if_pos v30_] at H
                                           have v31_ := Aside0.mk v30_
                                           clear v30_
                                           obtain ⟨v32_, v33_⟩ : ∃ y_ : List Int, y_ = (v2_ ++ [v18_]) := ⟨_, rfl⟩
                                           replace H : (spec_l31Depths.l3 v6_ v27_ y30_ y31_ v32_ x11_ (wrap64 (v3_ + 1)) a0_0 a0_1 l0_2) = some r := by first | (rw [v33_]; with_reducible exact H) | (have z7_ := (Option.bind_some _ _).symm.trans H; rw [v33_]; with_reducible exact z7_) | (have z7_ := (Option.bind_some _ _).symm.trans H; with_reducible exact z7_) | with_reducible exact H | (rw [v33_]; exact H) | exact H
                                           have v34_ := Aside0.mk v33_
                                           clear v33_
                                           have H' := Aside0.mk H
                                           clear H
                                           try go_wp2
                                           have z11_ := Aside0.mk (Kd.R_drew z25_.out)
                                           have z12_ := Aside0.mk (Kd.R_drew y33_.out)
                                           have z13_ := Aside0.mk (Kd.R_drew x13_.out)
                                           have z14_ := Aside0.mk (blk_drew z15_.out)
                                           have x7_ := Aside0.mk (below_drew1 HB.out)
                                           clear z25_
                                           clear y33_
                                           clear x13_
                                           clear z15_
                                           clear HB
                                           have z25_ := z11_
                                           have y33_ := z12_
                                           have x13_ := z13_
                                           have z15_ := z14_
                                           have HB := x7_
                                           clear z11_ z12_ z13_ z14_ x7_
                                           have u1_ : 0 ≤ (x11_ : Int) := of_decide_eq_true (by first | (with_reducible assumption) | assumption)
                                           have u2_ : x11_ < (y30_.length : Int) := of_decide_eq_true (by first | (with_reducible assumption) | assumption)
                                           obtain ⟨u3_, u4_, u5_⟩ := Kd.at_int (Kd.R_reads' y33_.out).2.2 x11_ u1_ u2_
                                           cases u4_
                                           replace u1_ := eq_true u1_
                                           replace u2_ := eq_true u2_
                                           refine start_ (n := 10) (S := fun w' => w'.cell? ⟨z9_, 0, none⟩ = some (.int .i64 a0_0) ∧ w'.cell? ⟨z9_, 1, none⟩ = some (.int .i64 a0_1) ∧ w'.cell? ⟨z9_, 2, none⟩ = some (.slice A0_2 l0_2.length c0_2) ∧ w'.cell? (u3_.add (x11_).toNat) = some (.int .i64 (rd y30_ x11_))) (ds := []) #[false, false, false, false, false, false, false, false, false, false] (by kernel_rfl) rfl rfl ⟨(blk_cell z15_.out 0).trans rfl, (blk_cell z15_.out 1).trans rfl, (blk_cell z15_.out 2).trans rfl, u5_⟩ (fun hHeld => ?_); refine with_tabW spec_l31Depths.tab18 spec_l31Depths.bits18 (fun HT_ HW_ => ?_)
                                           generalize wr.drew = u6_ at z25_ y33_ x13_ z15_ HB u5_ hHeld ⊢
                                           refine pure_ (i := 1) (N := some 46) (v := ?_) (a' := ?_) #[false, true, false, false, false, false, false, false, false, false] rfl rfl (any_of HT_.out (by kernel_rfl)) (fun _ _ _ h => h) (Or.inl ⟨by rfl, ?_⟩) ?_ ?_
                                           rotate_left
                                           · intro w'
                                             go_simp
                                             with_reducible rfl
                                           rotate_left
                                           · simp only [Act.put, List.setIfInBounds_toArray, List.set_cons_zero, List.set_cons_succ, i64_w, i32_w]
                                             rfl
                                           refine pure_ (i := 2) (N := some 47) (v := ?_) (a' := ?_) #[false, true, true, false, false, false, false, false, false, false] rfl rfl (any_of HT_.out (by kernel_rfl)) (fun _ _ _ h => h) (Or.inl ⟨by rfl, ?_⟩) ?_ ?_
                                           rotate_left
                                           · intro w'
                                             go_simp
                                             with_reducible rfl
                                           rotate_left
                                           · simp only [Act.put, List.setIfInBounds_toArray, List.set_cons_zero, List.set_cons_succ, i64_w, i32_w]
                                             rfl
                                           refine pure_ (i := 3) (N := some 48) (v := ?_) (a' := ?_) #[false, true, true, true, false, false, false, false, false, false] rfl rfl (any_of HT_.out (by kernel_rfl)) (fun _ _ _ h => h) (Or.inl ⟨by rfl, ?_⟩) ?_ ?_
                                           rotate_left
                                           · intro w'
                                             go_simp
                                             with_reducible rfl
                                           rotate_left
                                           · simp only [Act.put, List.setIfInBounds_toArray, List.set_cons_zero, List.set_cons_succ, i64_w, i32_w]
                                             rfl
                                           refine pure_ (i := 6) (N := some 51) (v := ?_) (a' := ?_) #[false, true, true, true, false, false, true, false, false, false] rfl rfl (any_of HT_.out (by kernel_rfl)) (fun _ _ _ h => h) (Or.inl ⟨by rfl, ?_⟩) ?_ ?_
                                           rotate_left
                                           · intro w'
                                             go_simp
                                             with_reducible rfl
                                           rotate_left
                                           · simp only [Act.put, List.setIfInBounds_toArray, List.set_cons_zero, List.set_cons_succ, i64_w, i32_w]
                                             rfl
                                           refine take_ (i := 0) (N := some 45) (v := ?_) (a' := ?_) #[true, true, true, true, false, false, true, false, false, false] rfl rfl (take_ofW HT_.out HW_.out (by kernel_rfl)) (fun _ _ _ h => h) (Or.inl ⟨by rfl, ?_⟩) hHeld ?_ ?_
                                           rotate_left
                                           · rintro w' ⟨u7_, u8_, u9_, u10_⟩
                                             go_simp
                                             with_reducible rfl
                                           rotate_left
                                           · simp only [Act.put, List.setIfInBounds_toArray, List.set_cons_zero, List.set_cons_succ, i64_w, i32_w]
                                             rfl
                                           refine take_ (i := 4) (N := some 49) (v := ?_) (a' := ?_) #[true, true, true, true, true, false, true, false, false, false] rfl rfl (take_ofW HT_.out HW_.out (by kernel_rfl)) (fun _ _ _ h => h) (Or.inl ⟨by rfl, ?_⟩) hHeld ?_ ?_
                                           rotate_left
                                           · rintro w' ⟨u7_, u8_, u9_, u10_⟩
                                             go_simp
                                             with_reducible rfl
                                           rotate_left
                                           · simp only [Act.put, List.setIfInBounds_toArray, List.set_cons_zero, List.set_cons_succ, i64_w, i32_w]
                                             rfl
                                           refine pure_ (i := 5) (N := some 50) (v := ?_) (a' := ?_) #[true, true, true, true, true, true, true, false, false, false] rfl rfl (any_of HT_.out (by kernel_rfl)) (fun _ _ _ h => h) (Or.inl ⟨by rfl, ?_⟩) ?_ ?_
                                           rotate_left
                                           · intro w'
                                             go_simp
                                             with_reducible rfl
                                           rotate_left
                                           · simp only [Act.put, List.setIfInBounds_toArray, List.set_cons_zero, List.set_cons_succ, i64_w, i32_w]
                                             rfl
                                           refine pure_ (i := 7) (N := some 52) (v := ?_) (a' := ?_) #[true, true, true, true, true, true, true, true, false, false] rfl rfl (any_of HT_.out (by kernel_rfl)) (fun _ _ _ h => h) (Or.inl ⟨by rfl, ?_⟩) ?_ ?_
                                           rotate_left
                                           · intro w'
                                             go_simp
                                             with_reducible rfl
                                           rotate_left
                                           · simp only [Act.put, List.setIfInBounds_toArray, List.set_cons_zero, List.set_cons_succ, i64_w, i32_w]
                                             rfl
                                           refine one_ (i := 8) (N := some 53) #[true, true, true, true, true, true, true, true, true, false] rfl rfl (one_of HT_.out (by kernel_rfl)) (by decide) (fun K hK => ?_)
                                           refine goes_ Try.func78 (by kernel_rfl) rfl #[.agg #[.int .i64 a0_0, .int .i64 a0_1, .slice A0_2 l0_2.length c0_2], .int .i64 (wrap64 ((wrap64 (4 * (rd y30_ x11_))) + v3_))] (by rfl) rfl rfl (by (try simp only [List.map_toArray, List.map_cons, List.map_nil]); first | done | rfl | (simp only [List.length_drop, List.length_take]; rfl)) ?_
                                           with_reducible refine (spec_l31Link.calls _ _ _ _ _ _ _ _ _ ?side1 ?side2 v15_.out).mono ?_
                                           (case side1 => repeat (first | exact (Kd.C_below z3_.out HB.out) | (with_reducible refine Kd.C_alloc ?_ _) | (with_reducible refine Kd.C_drewN ?_ _) | (with_reducible refine Kd.C_drew ?_)))
                                           (case side2 => exact z4_.out)
                                           rintro e u11_ ⟨rfl, hb⟩
                                           have u12_ := (hb.cell (World.block_lt_of_cell? _ _ (hHeld.2.2.2))).trans (hHeld.2.2.2)
                                           refine ⟨_, rfl, ?_⟩
                                           have z11_ := Aside0.mk (Kd.R_below (by (with_reducible repeat (first | apply Kd.R_alloc | apply Kd.R_drewN | apply Kd.R_drew)); exact z25_.out) hb)
                                           have z12_ := Aside0.mk (Kd.R_below (by (with_reducible repeat (first | apply Kd.R_alloc | apply Kd.R_drewN | apply Kd.R_drew)); exact y33_.out) hb)
                                           have z13_ := Aside0.mk (Kd.R_below (by (with_reducible repeat (first | apply Kd.R_alloc | apply Kd.R_drewN | apply Kd.R_drew)); exact x13_.out) hb)
                                           have z14_ := Aside0.mk (blk_below (g := z9_) (o := .cells #[.int .i64 a0_0, .int .i64 a0_1, .slice A0_2 l0_2.length c0_2] 34 (0, 0)) (by (with_reducible repeat (first | refine blk_drewN ?_ _ | refine blk_drew ?_ | refine blk_alloc ?_ _)); exact z15_.out) hb)
                                           have x7_ := Aside0.mk (below_step (by repeat (first | (with_reducible first | exact HB.out | apply below_alloc | apply pw_below_drewN | apply below_drew1 | refine below_set ?_ z17_.out) | exact HB.out)) hb)
                                           clear z25_
                                           clear y33_
                                           clear x13_
                                           clear z15_
                                           clear HB
                                           have z25_ := z11_
                                           have y33_ := z12_
                                           have x13_ := z13_
                                           have z15_ := z14_
                                           have HB := x7_
                                           clear z11_ z12_ z13_ z14_ x7_
                                           (try clear hb)
                                           (try clear hb2)
                                           (try clear hk)
                                           (try clear hi)
                                           refine hK.out _ _ ⟨(blk_cell z15_.out 0).trans rfl, (blk_cell z15_.out 1).trans rfl, (blk_cell z15_.out 2).trans rfl, u12_⟩ (fun hHeld => ?_)
                                           clear hK K
                                           refine norm_ (a' := ?_) ?_ ?_
                                           rotate_left
                                           · show Act.put _ (some 53) _ = _
                                             simp only [Act.put, List.setIfInBounds_toArray, List.set_cons_zero, List.set_cons_succ, i64_w, i32_w]
                                             rfl
                                           refine pure_ (i := 9) (N := some 54) (v := ?_) (a' := ?_) #[true, true, true, true, true, true, true, true, true, true] rfl rfl (any_of HT_.out (by kernel_rfl)) (fun _ _ _ h => h) (Or.inl ⟨by rfl, ?_⟩) ?_ ?_
                                           rotate_left
                                           · intro w'
                                             go_simp
                                             with_reducible rfl
                                           rotate_left
                                           · simp only [Act.put, List.setIfInBounds_toArray, List.set_cons_zero, List.set_cons_succ, i64_w, i32_w]
                                             rfl
                                           refine done_ (done_of HT_.out (by kernel_rfl)) ?_
                                           try go_wp2
                                           have z11_ := Aside0.mk (Kd.R_drew z25_.out)
                                           have z12_ := Aside0.mk (Kd.R_drew y33_.out)
                                           have z13_ := Aside0.mk (Kd.R_drew x13_.out)
                                           have z14_ := Aside0.mk (blk_drew z15_.out)
                                           have x7_ := Aside0.mk (below_drew1 HB.out)
                                           clear z25_
                                           clear y33_
                                           clear x13_
                                           clear z15_
                                           clear HB
                                           have z25_ := z11_
                                           have y33_ := z12_
                                           have x13_ := z13_
                                           have z15_ := z14_
                                           have HB := x7_
                                           clear z11_ z12_ z13_ z14_ x7_
                                           have u13_ : 0 ≤ (x11_ : Int) := of_decide_eq_true (by first | (with_reducible assumption) | assumption)
                                           have u14_ : x11_ < (y30_.length : Int) := of_decide_eq_true (by first | (with_reducible assumption) | assumption)
                                           obtain ⟨u15_, u16_, u17_⟩ := Kd.at_int (Kd.R_reads' y33_.out).2.2 x11_ u13_ u14_
                                           obtain rfl : u3_ = u15_ := (by injection u16_)
                                           replace u13_ := eq_true u13_
                                           replace u14_ := eq_true u14_
                                           refine start_ (n := 9) (S := fun w' => w'.cell? ⟨z9_, 0, none⟩ = some (.int .i64 a0_0) ∧ w'.cell? ⟨z9_, 1, none⟩ = some (.int .i64 a0_1) ∧ w'.cell? ⟨z9_, 2, none⟩ = some (.slice A0_2 l0_2.length c0_2) ∧ w'.cell? (u3_.add (x11_).toNat) = some (.int .i64 (rd y30_ x11_))) (ds := []) #[false, false, false, false, false, false, false, false, false] (by kernel_rfl) rfl rfl ⟨(blk_cell z15_.out 0).trans rfl, (blk_cell z15_.out 1).trans rfl, (blk_cell z15_.out 2).trans rfl, u17_⟩ (fun hHeld => ?_); refine with_tabW spec_l31Depths.tab19 spec_l31Depths.bits19 (fun HT_ HW_ => ?_)
                                           generalize u11_.drew = u18_ at z25_ y33_ x13_ z15_ HB u17_ hHeld ⊢
                                           refine pure_ (i := 0) (N := some 55) (v := ?_) (a' := ?_) #[true, false, false, false, false, false, false, false, false] rfl rfl (any_of HT_.out (by kernel_rfl)) (fun _ _ _ h => h) (Or.inl ⟨by rfl, ?_⟩) ?_ ?_
                                           rotate_left
                                           · intro w'
                                             go_simp
                                             with_reducible rfl
                                           rotate_left
                                           · simp only [Act.put, List.setIfInBounds_toArray, List.set_cons_zero, List.set_cons_succ, i64_w, i32_w]
                                             rfl
                                           refine pure_ (i := 2) (N := some 57) (v := ?_) (a' := ?_) #[true, false, true, false, false, false, false, false, false] rfl rfl (any_of HT_.out (by kernel_rfl)) (fun _ _ _ h => h) (Or.inl ⟨by rfl, ?_⟩) ?_ ?_
                                           rotate_left
                                           · intro w'
                                             go_simp
                                             with_reducible rfl
                                           rotate_left
                                           · simp only [Act.put, List.setIfInBounds_toArray, List.set_cons_zero, List.set_cons_succ, i64_w, i32_w]
                                             rfl
                                           refine pure_ (i := 3) (N := some 58) (v := ?_) (a' := ?_) #[true, false, true, true, false, false, false, false, false] rfl rfl (any_of HT_.out (by kernel_rfl)) (fun _ _ _ h => h) (Or.inl ⟨by rfl, ?_⟩) ?_ ?_
                                           rotate_left
                                           · intro w'
                                             go_simp
                                             with_reducible rfl
                                           rotate_left
                                           · simp only [Act.put, List.setIfInBounds_toArray, List.set_cons_zero, List.set_cons_succ, i64_w, i32_w]
                                             rfl
                                           refine pure_ (i := 4) (N := some 59) (v := ?_) (a' := ?_) #[true, false, true, true, true, false, false, false, false] rfl rfl (any_of HT_.out (by kernel_rfl)) (fun _ _ _ h => h) (Or.inl ⟨by rfl, ?_⟩) ?_ ?_
                                           rotate_left
                                           · intro w'
                                             go_simp
                                             with_reducible rfl
                                           rotate_left
                                           · simp only [Act.put, List.setIfInBounds_toArray, List.set_cons_zero, List.set_cons_succ, i64_w, i32_w]
                                             rfl
                                           refine pure_ (i := 6) (N := some 61) (v := ?_) (a' := ?_) #[true, false, true, true, true, false, true, false, false] rfl rfl (any_of HT_.out (by kernel_rfl)) (fun _ _ _ h => h) (Or.inl ⟨by rfl, ?_⟩) ?_ ?_
                                           rotate_left
                                           · intro w'
                                             go_simp
                                             with_reducible rfl
                                           rotate_left
                                           · simp only [Act.put, List.setIfInBounds_toArray, List.set_cons_zero, List.set_cons_succ, i64_w, i32_w]
                                             rfl
                                           refine take_ (i := 1) (N := some 56) (v := ?_) (a' := ?_) #[true, true, true, true, true, false, true, false, false] rfl rfl (take_ofW HT_.out HW_.out (by kernel_rfl)) (fun _ _ _ h => h) (Or.inl ⟨by rfl, ?_⟩) hHeld ?_ ?_
                                           rotate_left
                                           · rintro w' ⟨u7_, u8_, u9_, u10_⟩
                                             go_simp
                                             with_reducible rfl
                                           rotate_left
                                           · simp only [Act.put, List.setIfInBounds_toArray, List.set_cons_zero, List.set_cons_succ, i64_w, i32_w]
                                             rfl
                                           refine take_ (i := 5) (N := some 60) (v := ?_) (a' := ?_) #[true, true, true, true, true, true, true, false, false] rfl rfl (take_ofW HT_.out HW_.out (by kernel_rfl)) (fun _ _ _ h => h) (Or.inl ⟨by rfl, ?_⟩) hHeld ?_ ?_
                                           rotate_left
                                           · rintro w' ⟨u7_, u8_, u9_, u10_⟩
                                             go_simp
                                             with_reducible rfl
                                           rotate_left
                                           · simp only [Act.put, List.setIfInBounds_toArray, List.set_cons_zero, List.set_cons_succ, i64_w, i32_w]
                                             rfl
                                           refine one_ (i := 7) (N := some 62) #[true, true, true, true, true, true, true, true, false] rfl rfl (one_of HT_.out (by kernel_rfl)) (by decide) (fun K hK => ?_)
                                           refine goes_ Try.func79 (by kernel_rfl) rfl #[.agg #[.int .i64 a0_0, .int .i64 a0_1], .int .i64 (rd y30_ x11_), .int .i64 v3_] (by rfl) rfl rfl (by (try simp only [List.map_toArray, List.map_cons, List.map_nil]); first | done | rfl | (simp only [List.length_drop, List.length_take]; rfl)) ?_
                                           with_reducible refine (spec_NextNode.calls _ _ _ _ _ _ v20_.out).mono ?_
                                           rintro e u19_ ⟨rfl, hb⟩
                                           have u12_ := (hb.cell (World.block_lt_of_cell? _ _ (hHeld.2.2.2))).trans (hHeld.2.2.2)
                                           refine ⟨_, rfl, ?_⟩
                                           have z11_ := Aside0.mk (Kd.R_below (by (with_reducible repeat (first | apply Kd.R_alloc | apply Kd.R_drewN | apply Kd.R_drew)); exact z25_.out) hb)
                                           have z12_ := Aside0.mk (Kd.R_below (by (with_reducible repeat (first | apply Kd.R_alloc | apply Kd.R_drewN | apply Kd.R_drew)); exact y33_.out) hb)
                                           have z13_ := Aside0.mk (Kd.R_below (by (with_reducible repeat (first | apply Kd.R_alloc | apply Kd.R_drewN | apply Kd.R_drew)); exact x13_.out) hb)
                                           have z14_ := Aside0.mk (blk_below (g := z9_) (o := .cells #[.int .i64 a0_0, .int .i64 a0_1, .slice A0_2 l0_2.length c0_2] 34 (0, 0)) (by (with_reducible repeat (first | refine blk_drewN ?_ _ | refine blk_drew ?_ | refine blk_alloc ?_ _)); exact z15_.out) hb)
                                           have x7_ := Aside0.mk (below_step (by repeat (first | (with_reducible first | exact HB.out | apply below_alloc | apply pw_below_drewN | apply below_drew1 | refine below_set ?_ z17_.out) | exact HB.out)) hb)
                                           clear z25_
                                           clear y33_
                                           clear x13_
                                           clear z15_
                                           clear HB
                                           have z25_ := z11_
                                           have y33_ := z12_
                                           have x13_ := z13_
                                           have z15_ := z14_
                                           have HB := x7_
                                           clear z11_ z12_ z13_ z14_ x7_
                                           (try clear hb)
                                           (try clear hb2)
                                           (try clear hk)
                                           (try clear hi)
                                           refine hK.out _ _ ⟨(blk_cell z15_.out 0).trans rfl, (blk_cell z15_.out 1).trans rfl, (blk_cell z15_.out 2).trans rfl, u12_⟩ (fun hHeld => ?_)
                                           clear hK K
                                           refine norm_ (a' := ?_) ?_ ?_
                                           rotate_left
                                           · show Act.put _ (some 62) _ = _
                                             simp only [Act.put, List.setIfInBounds_toArray, List.set_cons_zero, List.set_cons_succ, i64_w, i32_w]
                                             rfl
                                           refine pure_ (i := 8) (N := some 12) (v := ?_) (a' := ?_) #[true, true, true, true, true, true, true, true, true] rfl rfl (any_of HT_.out (by kernel_rfl)) (fun _ _ _ h => h) (Or.inl ⟨by rfl, ?_⟩) ?_ ?_
                                           rotate_left
                                           · intro w'
                                             go_simp
                                             with_reducible rfl
                                           rotate_left
                                           · simp only [Act.put, List.setIfInBounds_toArray, List.set_cons_zero, List.set_cons_succ, i64_w, i32_w]
                                             rfl
                                           refine done_ (done_of HT_.out (by kernel_rfl)) ?_
                                           have u20_ : 0 ≤ (v18_ : Int) := of_decide_eq_true (by first | (with_reducible assumption) | assumption)
                                           have u21_ : v18_ < (v1_.length : Int) := of_decide_eq_true (by first | (with_reducible assumption) | assumption)
                                           obtain ⟨u22_, u23_, u24_⟩ := Kd.at_int (Kd.R_reads' z25_.out).2.2 v18_ u20_ u21_
                                           obtain rfl : (⟨y10_, 0, none⟩ : Addr) = u22_ := (by injection u23_)
                                           (first | simp only [add_plain] at u24_ | simp only [add_at] at u24_ | simp only [Addr.add, Nat.zero_add] at u24_ | skip)
                                           replace u20_ := eq_true u20_
                                           replace u21_ := eq_true u21_
                                           have u25_ : 0 ≤ (v18_ : Int) := of_decide_eq_true (by first | (with_reducible assumption) | assumption)
                                           have u26_ : (v18_ : Int) < ((v1_.length : Int) : Int) := of_decide_eq_true (by first | (with_reducible assumption) | assumption)
                                           obtain ⟨u27_, u28_⟩ := Kd.R_celln 0 z25_.out (v18_ : Int) u25_ u26_
                                           replace u25_ := eq_true u25_
                                           replace u26_ := eq_true u26_
                                           obtain ⟨u29_, u30_⟩ := Kd.R_celln 0 z25_.out (v18_ : Int) (of_decide_eq_true (by first | (with_reducible assumption) | assumption)) (of_decide_eq_true (by first | (with_reducible assumption) | assumption))
                                           have u31_ := Kd.R_putg z25_.out (v18_ : Int) y31_
                                           try go_wp2_with (first | ((with_reducible refine gate_store (t := 3) (p := 71) rfl ?_); refine store_event (t := 3) (p := 71) (v := ?vo_w42) (w1 := (u19_.setCell ⟨y10_, (v18_ : Int).toNat, none⟩ (.int .i64 y31_))) ?hg ?ho ?hn ?hr ?_; (case ho => rfl); (case hg => rfl); (case hn => rfl); (case hr => first | (go_simp; done) | (go_simp; rfl)); intro u32_ hw; have hg : u19_.grownBy u32_ (some y10_) := (by rw [hw]; exact u31_.2); have hp_ : Kd.R (Kd.int .i64) 3 u32_ w.heap.size (fun k_ => some k_ ≠ (.slice (some u3_) y30_.length x2_ : Value).ownBlock ∧ some k_ ≠ (u9 : Value).ownBlock) (.slice (some ⟨y10_, 0, none⟩) v1_.length y11_) v27_ := (by rw [hw, v29_.out]; exact u31_.1); clear u31_; have z11_ := Aside0.mk (hp_); have z12_ := Aside0.mk (Kd.R_after (v := (.slice (some ⟨y10_, 0, none⟩) v1_.length y11_)) (v1 := (.slice (some ⟨y10_, 0, none⟩) v1_.length y11_)) (ok := (fun k_ => some k_ ≠ (u9 : Value).ownBlock)) (by (with_reducible repeat (first | apply Kd.R_alloc | apply Kd.R_drewN | apply Kd.R_drew)); exact Kd.R_mono y33_.out (fun _ hk => ⟨hk.2, hk.1⟩)) hg (.inl rfl)); have z13_ := Aside0.mk (Kd.R_after (v := (.slice (some ⟨y10_, 0, none⟩) v1_.length y11_)) (v1 := (.slice (some ⟨y10_, 0, none⟩) v1_.length y11_)) (ok := (fun k_ => some k_ ≠ (.slice (some u3_) y30_.length x2_ : Value).ownBlock)) (by (with_reducible repeat (first | apply Kd.R_alloc | apply Kd.R_drewN | apply Kd.R_drew)); exact Kd.R_mono x13_.out (fun _ hk => ⟨hk.2, hk.1⟩)) hg (.inl rfl)); have z14_ := Aside0.mk (blk_grown (g := z9_) (o := .cells #[.int .i64 a0_0, .int .i64 a0_1, .slice A0_2 l0_2.length c0_2] 34 (0, 0)) (by (with_reducible repeat (first | refine blk_drewN ?_ _ | refine blk_drew ?_ | refine blk_alloc ?_ _)); exact z15_.out) hg (Kd.R_ne z25_.out z15_.out (by decide))); have x7_ := Aside0.mk ((by rw [hw]; exact below_set (HB.out) y17_.out : Below w.heap.size w u32_)); clear z25_; clear y33_; clear x13_; clear z15_; clear HB; have z25_ := z11_; have y33_ := z12_; have x13_ := z13_; have z15_ := z14_; have HB := x7_; clear z11_ z12_ z13_ z14_ x7_; clear hg hw hp_) | ((with_reducible refine gate_builtin (b := .append) (xs := #[.tmp 72, .tmp 74]) rfl ?_); at_builtin; refine Kd.R_append (Kd.int .i64) (w0 := w) w.heap.size rfl (.tmp 72) (.tmp 74) 24 3 (.int .i64 0) 8 rfl Try.underlying24 info3 rfl (by decide) (by omega) u9 v2_ v18_ [.int .i64 v18_] (fun k_ => some k_ ≠ (.slice (some ⟨y10_, 0, none⟩) v1_.length y11_ : Value).ownBlock ∧ some k_ ≠ (.slice (some u3_) y30_.length x2_ : Value).ownBlock) (fun _ => False) rfl rfl ?aP (fun _ hk => hk.elim) ?aF ?aO ?aB ?aS ?aL ?_; (case aP => exact rfl); (case aB => exact (by repeat (first | (with_reducible first | exact HB.out | apply below_alloc | apply pw_below_drewN | apply below_drew1 | refine below_set ?_ z17_.out) | exact HB.out))); (case aF => exact (fun k_ hk => ⟨Kd.fresh' (Kd.R_lt (by (with_reducible repeat (first | apply Kd.R_alloc | apply Kd.R_drewN | apply Kd.R_drew)); exact z25_.out)) k_ hk, Kd.fresh' (Kd.R_lt (by (with_reducible repeat (first | apply Kd.R_alloc | apply Kd.R_drewN | apply Kd.R_drew)); exact y33_.out)) k_ hk⟩)); (case aO => exact (by (with_reducible repeat (first | apply Kd.R_alloc | apply Kd.R_drewN | apply Kd.R_drew)); exact Kd.R_mono x13_.out (fun _ hk => ⟨hk.2, hk.1⟩))); (case aS => exact (below_size (by repeat (first | (with_reducible first | exact HB.out | apply below_alloc | apply pw_below_drewN | apply below_drew1 | refine below_set ?_ z17_.out) | exact HB.out)))); (case aL => have := v31_.out; omega); intro u33_ u34_ ho hb hg hat; rw [← v34_.out] at ho; have z11_ := Aside0.mk (Kd.R_after (ok := (fun k_ => some k_ ≠ (.slice (some u3_) y30_.length x2_ : Value).ownBlock)) (by (with_reducible repeat (first | apply Kd.R_alloc | apply Kd.R_drewN | apply Kd.R_drew)); exact z25_.out) hg hat); have z12_ := Aside0.mk (Kd.R_after (ok := (fun k_ => some k_ ≠ (.slice (some ⟨y10_, 0, none⟩) v1_.length y11_ : Value).ownBlock)) (by (with_reducible repeat (first | apply Kd.R_alloc | apply Kd.R_drewN | apply Kd.R_drew)); exact Kd.R_mono y33_.out (fun _ hk => ⟨hk.2, hk.1⟩)) hg hat); have z13_ := Aside0.mk (blk_grown (g := z9_) (o := .cells #[.int .i64 a0_0, .int .i64 a0_1, .slice A0_2 l0_2.length c0_2] 34 (0, 0)) (by (with_reducible repeat (first | refine blk_drewN ?_ _ | refine blk_drew ?_ | refine blk_alloc ?_ _)); exact z15_.out) hg (Kd.R_ne x13_.out z15_.out (by decide))); have z14_ := Aside0.mk (hb); have x7_ := Aside0.mk (ho); clear z25_; clear y33_; clear z15_; clear HB; clear x13_; have z25_ := z11_; have y33_ := z12_; have z15_ := z13_; have HB := z14_; have u35_ := x7_; clear z11_ z12_ z13_ z14_ x7_; clear ho hb hg hat))
                                           (try simp only [← v5_])
                                           go_roundg v6_
                                           case measure => have := z24_.out; have := y32_.out; have := x12_.out; have := v4_.out; omega
                                           case rel => exact ⟨(v27_), (v32_), (wrap64 (v3_ + 1)), (by first | rfl | (simp; done) | (simp [*]; done)), H', ⟨by have := z24_.out; have := y32_.out; have := x12_.out; have := v4_.out; omega⟩, ⟨by (try simp only [y34_]); (try simp only [x14_]); (try simp only [v5_]); (with_reducible repeat (first | apply Kd.R_alloc | apply Kd.R_drewN | apply Kd.R_drew)); exact z25_.out⟩, ⟨by (try simp only [y34_]); (try simp only [x14_]); (try simp only [v5_]); (with_reducible repeat (first | apply Kd.R_alloc | apply Kd.R_drewN | apply Kd.R_drew)); exact y33_.out⟩, ⟨by (try simp only [y34_]); (try simp only [x14_]); (try simp only [v5_]); (with_reducible repeat (first | apply Kd.R_alloc | apply Kd.R_drewN | apply Kd.R_drew)); exact u35_.out⟩, ⟨by (try simp only [y34_]); (try simp only [x14_]); (try simp only [v5_]); (with_reducible repeat (first | refine blk_drewN ?_ _ | refine blk_drew ?_ | refine blk_alloc ?_ _)); exact z15_.out⟩, ⟨by repeat (first | (with_reducible first | exact HB.out | apply below_alloc | apply pw_below_drewN | apply below_drew1 | refine below_set ?_ z17_.out) | exact HB.out)⟩⟩
                                         · rw [if_neg v30_] at H
                                           exact absurd H (by simp)
                                       · rw [if_neg v25_] at H
                                         have v26_ : decide ((rd v1_ v18_) < 0) = false := decide_eq_false v25_
                                         clear v25_
                                         have H' := Aside0.mk H
                                         clear H
                                         try go_wp2
                                         have z11_ := Aside0.mk (Kd.R_drew z25_.out)
                                         have z12_ := Aside0.mk (Kd.R_drew y33_.out)
                                         have z13_ := Aside0.mk (Kd.R_drew x13_.out)
                                         have z14_ := Aside0.mk (blk_drew z15_.out)
                                         have x7_ := Aside0.mk (below_drew1 HB.out)
                                         clear z25_
                                         clear y33_
                                         clear x13_
                                         clear z15_
                                         clear HB
                                         have z25_ := z11_
                                         have y33_ := z12_
                                         have x13_ := z13_
                                         have z15_ := z14_
                                         have HB := x7_
                                         clear z11_ z12_ z13_ z14_ x7_
                                         have u1_ : 0 ≤ (x11_ : Int) := of_decide_eq_true (by first | (with_reducible assumption) | assumption)
                                         have u2_ : x11_ < (y30_.length : Int) := of_decide_eq_true (by first | (with_reducible assumption) | assumption)
                                         obtain ⟨u3_, u4_, u5_⟩ := Kd.at_int (Kd.R_reads' y33_.out).2.2 x11_ u1_ u2_
                                         cases u4_
                                         replace u1_ := eq_true u1_
                                         replace u2_ := eq_true u2_
                                         refine start_ (n := 10) (S := fun w' => w'.cell? ⟨z9_, 0, none⟩ = some (.int .i64 a0_0) ∧ w'.cell? ⟨z9_, 1, none⟩ = some (.int .i64 a0_1) ∧ w'.cell? ⟨z9_, 2, none⟩ = some (.slice A0_2 l0_2.length c0_2) ∧ w'.cell? (u3_.add (x11_).toNat) = some (.int .i64 (rd y30_ x11_))) (ds := []) #[false, false, false, false, false, false, false, false, false, false] (by kernel_rfl) rfl rfl ⟨(blk_cell z15_.out 0).trans rfl, (blk_cell z15_.out 1).trans rfl, (blk_cell z15_.out 2).trans rfl, u5_⟩ (fun hHeld => ?_); refine with_tabW spec_l31Depths.tab18 spec_l31Depths.bits18 (fun HT_ HW_ => ?_)
                                         generalize wr.drew = u6_ at z25_ y33_ x13_ z15_ HB u5_ hHeld ⊢
                                         refine pure_ (i := 1) (N := some 46) (v := ?_) (a' := ?_) #[false, true, false, false, false, false, false, false, false, false] rfl rfl (any_of HT_.out (by kernel_rfl)) (fun _ _ _ h => h) (Or.inl ⟨by rfl, ?_⟩) ?_ ?_
                                         rotate_left
                                         · intro w'
                                           go_simp
                                           with_reducible rfl
                                         rotate_left
                                         · simp only [Act.put, List.setIfInBounds_toArray, List.set_cons_zero, List.set_cons_succ, i64_w, i32_w]
                                           rfl
                                         refine pure_ (i := 2) (N := some 47) (v := ?_) (a' := ?_) #[false, true, true, false, false, false, false, false, false, false] rfl rfl (any_of HT_.out (by kernel_rfl)) (fun _ _ _ h => h) (Or.inl ⟨by rfl, ?_⟩) ?_ ?_
                                         rotate_left
                                         · intro w'
                                           go_simp
                                           with_reducible rfl
                                         rotate_left
                                         · simp only [Act.put, List.setIfInBounds_toArray, List.set_cons_zero, List.set_cons_succ, i64_w, i32_w]
                                           rfl
                                         refine pure_ (i := 3) (N := some 48) (v := ?_) (a' := ?_) #[false, true, true, true, false, false, false, false, false, false] rfl rfl (any_of HT_.out (by kernel_rfl)) (fun _ _ _ h => h) (Or.inl ⟨by rfl, ?_⟩) ?_ ?_
                                         rotate_left
                                         · intro w'
                                           go_simp
                                           with_reducible rfl
                                         rotate_left
                                         · simp only [Act.put, List.setIfInBounds_toArray, List.set_cons_zero, List.set_cons_succ, i64_w, i32_w]
                                           rfl
                                         refine pure_ (i := 6) (N := some 51) (v := ?_) (a' := ?_) #[false, true, true, true, false, false, true, false, false, false] rfl rfl (any_of HT_.out (by kernel_rfl)) (fun _ _ _ h => h) (Or.inl ⟨by rfl, ?_⟩) ?_ ?_
                                         rotate_left
                                         · intro w'
                                           go_simp
                                           with_reducible rfl
                                         rotate_left
                                         · simp only [Act.put, List.setIfInBounds_toArray, List.set_cons_zero, List.set_cons_succ, i64_w, i32_w]
                                           rfl
                                         refine take_ (i := 0) (N := some 45) (v := ?_) (a' := ?_) #[true, true, true, true, false, false, true, false, false, false] rfl rfl (take_ofW HT_.out HW_.out (by kernel_rfl)) (fun _ _ _ h => h) (Or.inl ⟨by rfl, ?_⟩) hHeld ?_ ?_
                                         rotate_left
                                         · rintro w' ⟨u7_, u8_, u9_, u10_⟩
                                           go_simp
                                           with_reducible rfl
                                         rotate_left
                                         · simp only [Act.put, List.setIfInBounds_toArray, List.set_cons_zero, List.set_cons_succ, i64_w, i32_w]
                                           rfl
                                         refine take_ (i := 4) (N := some 49) (v := ?_) (a' := ?_) #[true, true, true, true, true, false, true, false, false, false] rfl rfl (take_ofW HT_.out HW_.out (by kernel_rfl)) (fun _ _ _ h => h) (Or.inl ⟨by rfl, ?_⟩) hHeld ?_ ?_
                                         rotate_left
                                         · rintro w' ⟨u7_, u8_, u9_, u10_⟩
                                           go_simp
                                           with_reducible rfl
                                         rotate_left
                                         · simp only [Act.put, List.setIfInBounds_toArray, List.set_cons_zero, List.set_cons_succ, i64_w, i32_w]
                                           rfl
                                         refine pure_ (i := 5) (N := some 50) (v := ?_) (a' := ?_) #[true, true, true, true, true, true, true, false, false, false] rfl rfl (any_of HT_.out (by kernel_rfl)) (fun _ _ _ h => h) (Or.inl ⟨by rfl, ?_⟩) ?_ ?_
                                         rotate_left
                                         · intro w'
                                           go_simp
                                           with_reducible rfl
                                         rotate_left
                                         · simp only [Act.put, List.setIfInBounds_toArray, List.set_cons_zero, List.set_cons_succ, i64_w, i32_w]
                                           rfl
                                         refine pure_ (i := 7) (N := some 52) (v := ?_) (a' := ?_) #[true, true, true, true, true, true, true, true, false, false] rfl rfl (any_of HT_.out (by kernel_rfl)) (fun _ _ _ h => h) (Or.inl ⟨by rfl, ?_⟩) ?_ ?_
                                         rotate_left
                                         · intro w'
                                           go_simp
                                           with_reducible rfl
                                         rotate_left
                                         · simp only [Act.put, List.setIfInBounds_toArray, List.set_cons_zero, List.set_cons_succ, i64_w, i32_w]
                                           rfl
                                         refine one_ (i := 8) (N := some 53) #[true, true, true, true, true, true, true, true, true, false] rfl rfl (one_of HT_.out (by kernel_rfl)) (by decide) (fun K hK => ?_)
                                         refine goes_ Try.func78 (by kernel_rfl) rfl #[.agg #[.int .i64 a0_0, .int .i64 a0_1, .slice A0_2 l0_2.length c0_2], .int .i64 (wrap64 ((wrap64 (4 * (rd y30_ x11_))) + v3_))] (by rfl) rfl rfl (by (try simp only [List.map_toArray, List.map_cons, List.map_nil]); first | done | rfl | (simp only [List.length_drop, List.length_take]; rfl)) ?_
                                         with_reducible refine (spec_l31Link.calls _ _ _ _ _ _ _ _ _ ?side1 ?side2 v15_.out).mono ?_
                                         (case side1 => repeat (first | exact (Kd.C_below z3_.out HB.out) | (with_reducible refine Kd.C_alloc ?_ _) | (with_reducible refine Kd.C_drewN ?_ _) | (with_reducible refine Kd.C_drew ?_)))
                                         (case side2 => exact z4_.out)
                                         rintro e u11_ ⟨rfl, hb⟩
                                         have u12_ := (hb.cell (World.block_lt_of_cell? _ _ (hHeld.2.2.2))).trans (hHeld.2.2.2)
                                         refine ⟨_, rfl, ?_⟩
                                         have z11_ := Aside0.mk (Kd.R_below (by (with_reducible repeat (first | apply Kd.R_alloc | apply Kd.R_drewN | apply Kd.R_drew)); exact z25_.out) hb)
                                         have z12_ := Aside0.mk (Kd.R_below (by (with_reducible repeat (first | apply Kd.R_alloc | apply Kd.R_drewN | apply Kd.R_drew)); exact y33_.out) hb)
                                         have z13_ := Aside0.mk (Kd.R_below (by (with_reducible repeat (first | apply Kd.R_alloc | apply Kd.R_drewN | apply Kd.R_drew)); exact x13_.out) hb)
                                         have z14_ := Aside0.mk (blk_below (g := z9_) (o := .cells #[.int .i64 a0_0, .int .i64 a0_1, .slice A0_2 l0_2.length c0_2] 34 (0, 0)) (by (with_reducible repeat (first | refine blk_drewN ?_ _ | refine blk_drew ?_ | refine blk_alloc ?_ _)); exact z15_.out) hb)
                                         have x7_ := Aside0.mk (below_step (by repeat (first | (with_reducible first | exact HB.out | apply below_alloc | apply pw_below_drewN | apply below_drew1 | refine below_set ?_ z17_.out) | exact HB.out)) hb)
                                         clear z25_
                                         clear y33_
                                         clear x13_
                                         clear z15_
                                         clear HB
                                         have z25_ := z11_
                                         have y33_ := z12_
                                         have x13_ := z13_
                                         have z15_ := z14_
                                         have HB := x7_
                                         clear z11_ z12_ z13_ z14_ x7_
                                         (try clear hb)
                                         (try clear hb2)
                                         (try clear hk)
                                         (try clear hi)
                                         refine hK.out _ _ ⟨(blk_cell z15_.out 0).trans rfl, (blk_cell z15_.out 1).trans rfl, (blk_cell z15_.out 2).trans rfl, u12_⟩ (fun hHeld => ?_)
                                         clear hK K
                                         refine norm_ (a' := ?_) ?_ ?_
                                         rotate_left
                                         · show Act.put _ (some 53) _ = _
                                           simp only [Act.put, List.setIfInBounds_toArray, List.set_cons_zero, List.set_cons_succ, i64_w, i32_w]
                                           rfl
                                         refine pure_ (i := 9) (N := some 54) (v := ?_) (a' := ?_) #[true, true, true, true, true, true, true, true, true, true] rfl rfl (any_of HT_.out (by kernel_rfl)) (fun _ _ _ h => h) (Or.inl ⟨by rfl, ?_⟩) ?_ ?_
                                         rotate_left
                                         · intro w'
                                           go_simp
                                           with_reducible rfl
                                         rotate_left
                                         · simp only [Act.put, List.setIfInBounds_toArray, List.set_cons_zero, List.set_cons_succ, i64_w, i32_w]
                                           rfl
                                         refine done_ (done_of HT_.out (by kernel_rfl)) ?_
                                         try go_wp2
                                         have z11_ := Aside0.mk (Kd.R_drew z25_.out)
                                         have z12_ := Aside0.mk (Kd.R_drew y33_.out)
                                         have z13_ := Aside0.mk (Kd.R_drew x13_.out)
                                         have z14_ := Aside0.mk (blk_drew z15_.out)
                                         have x7_ := Aside0.mk (below_drew1 HB.out)
                                         clear z25_
                                         clear y33_
                                         clear x13_
                                         clear z15_
                                         clear HB
                                         have z25_ := z11_
                                         have y33_ := z12_
                                         have x13_ := z13_
                                         have z15_ := z14_
                                         have HB := x7_
                                         clear z11_ z12_ z13_ z14_ x7_
                                         have u13_ : 0 ≤ (x11_ : Int) := of_decide_eq_true (by first | (with_reducible assumption) | assumption)
                                         have u14_ : x11_ < (y30_.length : Int) := of_decide_eq_true (by first | (with_reducible assumption) | assumption)
                                         obtain ⟨u15_, u16_, u17_⟩ := Kd.at_int (Kd.R_reads' y33_.out).2.2 x11_ u13_ u14_
                                         obtain rfl : u3_ = u15_ := (by injection u16_)
                                         replace u13_ := eq_true u13_
                                         replace u14_ := eq_true u14_
                                         refine start_ (n := 9) (S := fun w' => w'.cell? ⟨z9_, 0, none⟩ = some (.int .i64 a0_0) ∧ w'.cell? ⟨z9_, 1, none⟩ = some (.int .i64 a0_1) ∧ w'.cell? ⟨z9_, 2, none⟩ = some (.slice A0_2 l0_2.length c0_2) ∧ w'.cell? (u3_.add (x11_).toNat) = some (.int .i64 (rd y30_ x11_))) (ds := []) #[false, false, false, false, false, false, false, false, false] (by kernel_rfl) rfl rfl ⟨(blk_cell z15_.out 0).trans rfl, (blk_cell z15_.out 1).trans rfl, (blk_cell z15_.out 2).trans rfl, u17_⟩ (fun hHeld => ?_); refine with_tabW spec_l31Depths.tab19 spec_l31Depths.bits19 (fun HT_ HW_ => ?_)
                                         generalize u11_.drew = u18_ at z25_ y33_ x13_ z15_ HB u17_ hHeld ⊢
                                         refine pure_ (i := 0) (N := some 55) (v := ?_) (a' := ?_) #[true, false, false, false, false, false, false, false, false] rfl rfl (any_of HT_.out (by kernel_rfl)) (fun _ _ _ h => h) (Or.inl ⟨by rfl, ?_⟩) ?_ ?_
                                         rotate_left
                                         · intro w'
                                           go_simp
                                           with_reducible rfl
                                         rotate_left
                                         · simp only [Act.put, List.setIfInBounds_toArray, List.set_cons_zero, List.set_cons_succ, i64_w, i32_w]
                                           rfl
                                         refine pure_ (i := 2) (N := some 57) (v := ?_) (a' := ?_) #[true, false, true, false, false, false, false, false, false] rfl rfl (any_of HT_.out (by kernel_rfl)) (fun _ _ _ h => h) (Or.inl ⟨by rfl, ?_⟩) ?_ ?_
                                         rotate_left
                                         · intro w'
                                           go_simp
                                           with_reducible rfl
                                         rotate_left
                                         · simp only [Act.put, List.setIfInBounds_toArray, List.set_cons_zero, List.set_cons_succ, i64_w, i32_w]
                                           rfl
                                         refine pure_ (i := 3) (N := some 58) (v := ?_) (a' := ?_) #[true, false, true, true, false, false, false, false, false] rfl rfl (any_of HT_.out (by kernel_rfl)) (fun _ _ _ h => h) (Or.inl ⟨by rfl, ?_⟩) ?_ ?_
                                         rotate_left
                                         · intro w'
                                           go_simp
                                           with_reducible rfl
                                         rotate_left
                                         · simp only [Act.put, List.setIfInBounds_toArray, List.set_cons_zero, List.set_cons_succ, i64_w, i32_w]
                                           rfl
                                         refine pure_ (i := 4) (N := some 59) (v := ?_) (a' := ?_) #[true, false, true, true, true, false, false, false, false] rfl rfl (any_of HT_.out (by kernel_rfl)) (fun _ _ _ h => h) (Or.inl ⟨by rfl, ?_⟩) ?_ ?_
                                         rotate_left
                                         · intro w'
                                           go_simp
                                           with_reducible rfl
                                         rotate_left
                                         · simp only [Act.put, List.setIfInBounds_toArray, List.set_cons_zero, List.set_cons_succ, i64_w, i32_w]
                                           rfl
                                         refine pure_ (i := 6) (N := some 61) (v := ?_) (a' := ?_) #[true, false, true, true, true, false, true, false, false] rfl rfl (any_of HT_.out (by kernel_rfl)) (fun _ _ _ h => h) (Or.inl ⟨by rfl, ?_⟩) ?_ ?_
                                         rotate_left
                                         · intro w'
                                           go_simp
                                           with_reducible rfl
                                         rotate_left
                                         · simp only [Act.put, List.setIfInBounds_toArray, List.set_cons_zero, List.set_cons_succ, i64_w, i32_w]
                                           rfl
                                         refine take_ (i := 1) (N := some 56) (v := ?_) (a' := ?_) #[true, true, true, true, true, false, true, false, false] rfl rfl (take_ofW HT_.out HW_.out (by kernel_rfl)) (fun _ _ _ h => h) (Or.inl ⟨by rfl, ?_⟩) hHeld ?_ ?_
                                         rotate_left
                                         · rintro w' ⟨u7_, u8_, u9_, u10_⟩
                                           go_simp
                                           with_reducible rfl
                                         rotate_left
                                         · simp only [Act.put, List.setIfInBounds_toArray, List.set_cons_zero, List.set_cons_succ, i64_w, i32_w]
                                           rfl
                                         refine take_ (i := 5) (N := some 60) (v := ?_) (a' := ?_) #[true, true, true, true, true, true, true, false, false] rfl rfl (take_ofW HT_.out HW_.out (by kernel_rfl)) (fun _ _ _ h => h) (Or.inl ⟨by rfl, ?_⟩) hHeld ?_ ?_
                                         rotate_left
                                         · rintro w' ⟨u7_, u8_, u9_, u10_⟩
                                           go_simp
                                           with_reducible rfl
                                         rotate_left
                                         · simp only [Act.put, List.setIfInBounds_toArray, List.set_cons_zero, List.set_cons_succ, i64_w, i32_w]
                                           rfl
                                         refine one_ (i := 7) (N := some 62) #[true, true, true, true, true, true, true, true, false] rfl rfl (one_of HT_.out (by kernel_rfl)) (by decide) (fun K hK => ?_)
                                         refine goes_ Try.func79 (by kernel_rfl) rfl #[.agg #[.int .i64 a0_0, .int .i64 a0_1], .int .i64 (rd y30_ x11_), .int .i64 v3_] (by rfl) rfl rfl (by (try simp only [List.map_toArray, List.map_cons, List.map_nil]); first | done | rfl | (simp only [List.length_drop, List.length_take]; rfl)) ?_
                                         with_reducible refine (spec_NextNode.calls _ _ _ _ _ _ v20_.out).mono ?_
                                         rintro e u19_ ⟨rfl, hb⟩
                                         have u12_ := (hb.cell (World.block_lt_of_cell? _ _ (hHeld.2.2.2))).trans (hHeld.2.2.2)
                                         refine ⟨_, rfl, ?_⟩
                                         have z11_ := Aside0.mk (Kd.R_below (by (with_reducible repeat (first | apply Kd.R_alloc | apply Kd.R_drewN | apply Kd.R_drew)); exact z25_.out) hb)
                                         have z12_ := Aside0.mk (Kd.R_below (by (with_reducible repeat (first | apply Kd.R_alloc | apply Kd.R_drewN | apply Kd.R_drew)); exact y33_.out) hb)
                                         have z13_ := Aside0.mk (Kd.R_below (by (with_reducible repeat (first | apply Kd.R_alloc | apply Kd.R_drewN | apply Kd.R_drew)); exact x13_.out) hb)
                                         have z14_ := Aside0.mk (blk_below (g := z9_) (o := .cells #[.int .i64 a0_0, .int .i64 a0_1, .slice A0_2 l0_2.length c0_2] 34 (0, 0)) (by (with_reducible repeat (first | refine blk_drewN ?_ _ | refine blk_drew ?_ | refine blk_alloc ?_ _)); exact z15_.out) hb)
                                         have x7_ := Aside0.mk (below_step (by repeat (first | (with_reducible first | exact HB.out | apply below_alloc | apply pw_below_drewN | apply below_drew1 | refine below_set ?_ z17_.out) | exact HB.out)) hb)
                                         clear z25_
                                         clear y33_
                                         clear x13_
                                         clear z15_
                                         clear HB
                                         have z25_ := z11_
                                         have y33_ := z12_
                                         have x13_ := z13_
                                         have z15_ := z14_
                                         have HB := x7_
                                         clear z11_ z12_ z13_ z14_ x7_
                                         (try clear hb)
                                         (try clear hb2)
                                         (try clear hk)
                                         (try clear hi)
                                         refine hK.out _ _ ⟨(blk_cell z15_.out 0).trans rfl, (blk_cell z15_.out 1).trans rfl, (blk_cell z15_.out 2).trans rfl, u12_⟩ (fun hHeld => ?_)
                                         clear hK K
                                         refine norm_ (a' := ?_) ?_ ?_
                                         rotate_left
                                         · show Act.put _ (some 62) _ = _
                                           simp only [Act.put, List.setIfInBounds_toArray, List.set_cons_zero, List.set_cons_succ, i64_w, i32_w]
                                           rfl
                                         refine pure_ (i := 8) (N := some 12) (v := ?_) (a' := ?_) #[true, true, true, true, true, true, true, true, true] rfl rfl (any_of HT_.out (by kernel_rfl)) (fun _ _ _ h => h) (Or.inl ⟨by rfl, ?_⟩) ?_ ?_
                                         rotate_left
                                         · intro w'
                                           go_simp
                                           with_reducible rfl
                                         rotate_left
                                         · simp only [Act.put, List.setIfInBounds_toArray, List.set_cons_zero, List.set_cons_succ, i64_w, i32_w]
                                           rfl
                                         refine done_ (done_of HT_.out (by kernel_rfl)) ?_
                                         have u20_ : 0 ≤ (v18_ : Int) := of_decide_eq_true (by first | (with_reducible assumption) | assumption)
                                         have u21_ : v18_ < (v1_.length : Int) := of_decide_eq_true (by first | (with_reducible assumption) | assumption)
                                         obtain ⟨u22_, u23_, u24_⟩ := Kd.at_int (Kd.R_reads' z25_.out).2.2 v18_ u20_ u21_
                                         obtain rfl : (⟨y10_, 0, none⟩ : Addr) = u22_ := (by injection u23_)
                                         (first | simp only [add_plain] at u24_ | simp only [add_at] at u24_ | simp only [Addr.add, Nat.zero_add] at u24_ | skip)
                                         replace u20_ := eq_true u20_
                                         replace u21_ := eq_true u21_
                                         try go_wp2
                                         (try simp only [← v5_])
                                         go_roundg v6_
                                         case measure => have := z24_.out; have := y32_.out; have := x12_.out; have := v4_.out; omega
                                         case rel => exact ⟨(v1_), (v2_), (wrap64 (v3_ + 1)), (by first | rfl | (simp; done) | (simp [*]; done)), H', ⟨by have := z24_.out; have := y32_.out; have := x12_.out; have := v4_.out; omega⟩, ⟨by (try simp only [y34_]); (try simp only [x14_]); (try simp only [v5_]); (with_reducible repeat (first | apply Kd.R_alloc | apply Kd.R_drewN | apply Kd.R_drew)); exact z25_.out⟩, ⟨by (try simp only [y34_]); (try simp only [x14_]); (try simp only [v5_]); (with_reducible repeat (first | apply Kd.R_alloc | apply Kd.R_drewN | apply Kd.R_drew)); exact y33_.out⟩, ⟨by (try simp only [y34_]); (try simp only [x14_]); (try simp only [v5_]); (with_reducible repeat (first | apply Kd.R_alloc | apply Kd.R_drewN | apply Kd.R_drew)); exact x13_.out⟩, ⟨by (try simp only [y34_]); (try simp only [x14_]); (try simp only [v5_]); (with_reducible repeat (first | refine blk_drewN ?_ _ | refine blk_drew ?_ | refine blk_alloc ?_ _)); exact z15_.out⟩, ⟨by repeat (first | (with_reducible first | exact HB.out | apply below_alloc | apply pw_below_drewN | apply below_drew1 | refine below_set ?_ z17_.out) | exact HB.out)⟩⟩
                                     · rw [if_neg v23_] at H
                                       exact absurd H (by simp)
                                   · rw [if_neg v21_] at H
                                     exact absurd H (by simp)
                                 · replace v16_ := Bool.eq_false_iff.mpr v16_
                                   subst v16_
                                   have v17_ : (spec_l31Depths.l3 v6_ v1_ y30_ y31_ v2_ x11_ (wrap64 (v3_ + 1)) a0_0 a0_1 l0_2) = some r := by rw [if_neg (show ¬ (false = true) by decide)] at H; exact H
                                   clear H
                                   have H := v17_
                                   clear v17_
                                   have H' := Aside0.mk H
                                   clear H
                                   try go_wp2
                                   have z11_ := Aside0.mk (Kd.R_drew z25_.out)
                                   have z12_ := Aside0.mk (Kd.R_drew y33_.out)
                                   have z13_ := Aside0.mk (Kd.R_drew x13_.out)
                                   have z14_ := Aside0.mk (blk_drew z15_.out)
                                   have x7_ := Aside0.mk (below_drew1 HB.out)
                                   clear z25_
                                   clear y33_
                                   clear x13_
                                   clear z15_
                                   clear HB
                                   have z25_ := z11_
                                   have y33_ := z12_
                                   have x13_ := z13_
                                   have z15_ := z14_
                                   have HB := x7_
                                   clear z11_ z12_ z13_ z14_ x7_
                                   have u1_ : 0 ≤ (x11_ : Int) := of_decide_eq_true (by first | (with_reducible assumption) | assumption)
                                   have u2_ : x11_ < (y30_.length : Int) := of_decide_eq_true (by first | (with_reducible assumption) | assumption)
                                   obtain ⟨u3_, u4_, u5_⟩ := Kd.at_int (Kd.R_reads' y33_.out).2.2 x11_ u1_ u2_
                                   cases u4_
                                   replace u1_ := eq_true u1_
                                   replace u2_ := eq_true u2_
                                   refine start_ (n := 10) (S := fun w' => w'.cell? ⟨z9_, 0, none⟩ = some (.int .i64 a0_0) ∧ w'.cell? ⟨z9_, 1, none⟩ = some (.int .i64 a0_1) ∧ w'.cell? ⟨z9_, 2, none⟩ = some (.slice A0_2 l0_2.length c0_2) ∧ w'.cell? (u3_.add (x11_).toNat) = some (.int .i64 (rd y30_ x11_))) (ds := []) #[false, false, false, false, false, false, false, false, false, false] (by kernel_rfl) rfl rfl ⟨(blk_cell z15_.out 0).trans rfl, (blk_cell z15_.out 1).trans rfl, (blk_cell z15_.out 2).trans rfl, u5_⟩ (fun hHeld => ?_); refine with_tabW spec_l31Depths.tab18 spec_l31Depths.bits18 (fun HT_ HW_ => ?_)
                                   generalize wr.drew = u6_ at z25_ y33_ x13_ z15_ HB u5_ hHeld ⊢
                                   refine pure_ (i := 1) (N := some 46) (v := ?_) (a' := ?_) #[false, true, false, false, false, false, false, false, false, false] rfl rfl (any_of HT_.out (by kernel_rfl)) (fun _ _ _ h => h) (Or.inl ⟨by rfl, ?_⟩) ?_ ?_
                                   rotate_left
                                   · intro w'
                                     go_simp
                                     with_reducible rfl
                                   rotate_left
                                   · simp only [Act.put, List.setIfInBounds_toArray, List.set_cons_zero, List.set_cons_succ, i64_w, i32_w]
                                     rfl
                                   refine pure_ (i := 2) (N := some 47) (v := ?_) (a' := ?_) #[false, true, true, false, false, false, false, false, false, false] rfl rfl (any_of HT_.out (by kernel_rfl)) (fun _ _ _ h => h) (Or.inl ⟨by rfl, ?_⟩) ?_ ?_
                                   rotate_left
                                   · intro w'
                                     go_simp
                                     with_reducible rfl
                                   rotate_left
                                   · simp only [Act.put, List.setIfInBounds_toArray, List.set_cons_zero, List.set_cons_succ, i64_w, i32_w]
                                     rfl
                                   refine pure_ (i := 3) (N := some 48) (v := ?_) (a' := ?_) #[false, true, true, true, false, false, false, false, false, false] rfl rfl (any_of HT_.out (by kernel_rfl)) (fun _ _ _ h => h) (Or.inl ⟨by rfl, ?_⟩) ?_ ?_
                                   rotate_left
                                   · intro w'
                                     go_simp
                                     with_reducible rfl
                                   rotate_left
                                   · simp only [Act.put, List.setIfInBounds_toArray, List.set_cons_zero, List.set_cons_succ, i64_w, i32_w]
                                     rfl
                                   refine pure_ (i := 6) (N := some 51) (v := ?_) (a' := ?_) #[false, true, true, true, false, false, true, false, false, false] rfl rfl (any_of HT_.out (by kernel_rfl)) (fun _ _ _ h => h) (Or.inl ⟨by rfl, ?_⟩) ?_ ?_
                                   rotate_left
                                   · intro w'
                                     go_simp
                                     with_reducible rfl
                                   rotate_left
                                   · simp only [Act.put, List.setIfInBounds_toArray, List.set_cons_zero, List.set_cons_succ, i64_w, i32_w]
                                     rfl
                                   refine take_ (i := 0) (N := some 45) (v := ?_) (a' := ?_) #[true, true, true, true, false, false, true, false, false, false] rfl rfl (take_ofW HT_.out HW_.out (by kernel_rfl)) (fun _ _ _ h => h) (Or.inl ⟨by rfl, ?_⟩) hHeld ?_ ?_
                                   rotate_left
                                   · rintro w' ⟨u7_, u8_, u9_, u10_⟩
                                     go_simp
                                     with_reducible rfl
                                   rotate_left
                                   · simp only [Act.put, List.setIfInBounds_toArray, List.set_cons_zero, List.set_cons_succ, i64_w, i32_w]
                                     rfl
                                   refine take_ (i := 4) (N := some 49) (v := ?_) (a' := ?_) #[true, true, true, true, true, false, true, false, false, false] rfl rfl (take_ofW HT_.out HW_.out (by kernel_rfl)) (fun _ _ _ h => h) (Or.inl ⟨by rfl, ?_⟩) hHeld ?_ ?_
                                   rotate_left
                                   · rintro w' ⟨u7_, u8_, u9_, u10_⟩
                                     go_simp
                                     with_reducible rfl
                                   rotate_left
                                   · simp only [Act.put, List.setIfInBounds_toArray, List.set_cons_zero, List.set_cons_succ, i64_w, i32_w]
                                     rfl
                                   refine pure_ (i := 5) (N := some 50) (v := ?_) (a' := ?_) #[true, true, true, true, true, true, true, false, false, false] rfl rfl (any_of HT_.out (by kernel_rfl)) (fun _ _ _ h => h) (Or.inl ⟨by rfl, ?_⟩) ?_ ?_
                                   rotate_left
                                   · intro w'
                                     go_simp
                                     with_reducible rfl
                                   rotate_left
                                   · simp only [Act.put, List.setIfInBounds_toArray, List.set_cons_zero, List.set_cons_succ, i64_w, i32_w]
                                     rfl
                                   refine pure_ (i := 7) (N := some 52) (v := ?_) (a' := ?_) #[true, true, true, true, true, true, true, true, false, false] rfl rfl (any_of HT_.out (by kernel_rfl)) (fun _ _ _ h => h) (Or.inl ⟨by rfl, ?_⟩) ?_ ?_
                                   rotate_left
                                   · intro w'
                                     go_simp
                                     with_reducible rfl
                                   rotate_left
                                   · simp only [Act.put, List.setIfInBounds_toArray, List.set_cons_zero, List.set_cons_succ, i64_w, i32_w]
                                     rfl
                                   refine one_ (i := 8) (N := some 53) #[true, true, true, true, true, true, true, true, true, false] rfl rfl (one_of HT_.out (by kernel_rfl)) (by decide) (fun K hK => ?_)
                                   refine goes_ Try.func78 (by kernel_rfl) rfl #[.agg #[.int .i64 a0_0, .int .i64 a0_1, .slice A0_2 l0_2.length c0_2], .int .i64 (wrap64 ((wrap64 (4 * (rd y30_ x11_))) + v3_))] (by rfl) rfl rfl (by (try simp only [List.map_toArray, List.map_cons, List.map_nil]); first | done | rfl | (simp only [List.length_drop, List.length_take]; rfl)) ?_
                                   with_reducible refine (spec_l31Link.calls _ _ _ _ _ _ _ _ _ ?side1 ?side2 v15_.out).mono ?_
                                   (case side1 => repeat (first | exact (Kd.C_below z3_.out HB.out) | (with_reducible refine Kd.C_alloc ?_ _) | (with_reducible refine Kd.C_drewN ?_ _) | (with_reducible refine Kd.C_drew ?_)))
                                   (case side2 => exact z4_.out)
                                   rintro e u11_ ⟨rfl, hb⟩
                                   have u12_ := (hb.cell (World.block_lt_of_cell? _ _ (hHeld.2.2.2))).trans (hHeld.2.2.2)
                                   refine ⟨_, rfl, ?_⟩
                                   have z11_ := Aside0.mk (Kd.R_below (by (with_reducible repeat (first | apply Kd.R_alloc | apply Kd.R_drewN | apply Kd.R_drew)); exact z25_.out) hb)
                                   have z12_ := Aside0.mk (Kd.R_below (by (with_reducible repeat (first | apply Kd.R_alloc | apply Kd.R_drewN | apply Kd.R_drew)); exact y33_.out) hb)
                                   have z13_ := Aside0.mk (Kd.R_below (by (with_reducible repeat (first | apply Kd.R_alloc | apply Kd.R_drewN | apply Kd.R_drew)); exact x13_.out) hb)
                                   have z14_ := Aside0.mk (blk_below (g := z9_) (o := .cells #[.int .i64 a0_0, .int .i64 a0_1, .slice A0_2 l0_2.length c0_2] 34 (0, 0)) (by (with_reducible repeat (first | refine blk_drewN ?_ _ | refine blk_drew ?_ | refine blk_alloc ?_ _)); exact z15_.out) hb)
                                   have x7_ := Aside0.mk (below_step (by repeat (first | (with_reducible first | exact HB.out | apply below_alloc | apply pw_below_drewN | apply below_drew1 | refine below_set ?_ z17_.out) | exact HB.out)) hb)
                                   clear z25_
                                   clear y33_
                                   clear x13_
                                   clear z15_
                                   clear HB
                                   have z25_ := z11_
                                   have y33_ := z12_
                                   have x13_ := z13_
                                   have z15_ := z14_
                                   have HB := x7_
                                   clear z11_ z12_ z13_ z14_ x7_
                                   (try clear hb)
                                   (try clear hb2)
                                   (try clear hk)
                                   (try clear hi)
                                   refine hK.out _ _ ⟨(blk_cell z15_.out 0).trans rfl, (blk_cell z15_.out 1).trans rfl, (blk_cell z15_.out 2).trans rfl, u12_⟩ (fun hHeld => ?_)
                                   clear hK K
                                   refine norm_ (a' := ?_) ?_ ?_
                                   rotate_left
                                   · show Act.put _ (some 53) _ = _
                                     simp only [Act.put, List.setIfInBounds_toArray, List.set_cons_zero, List.set_cons_succ, i64_w, i32_w]
                                     rfl
                                   refine pure_ (i := 9) (N := some 54) (v := ?_) (a' := ?_) #[true, true, true, true, true, true, true, true, true, true] rfl rfl (any_of HT_.out (by kernel_rfl)) (fun _ _ _ h => h) (Or.inl ⟨by rfl, ?_⟩) ?_ ?_
                                   rotate_left
                                   · intro w'
                                     go_simp
                                     with_reducible rfl
                                   rotate_left
                                   · simp only [Act.put, List.setIfInBounds_toArray, List.set_cons_zero, List.set_cons_succ, i64_w, i32_w]
                                     rfl
                                   refine done_ (done_of HT_.out (by kernel_rfl)) ?_
                                   try go_wp2
                                   (try simp only [← v5_])
                                   go_roundg v6_
                                   case measure => have := z24_.out; have := y32_.out; have := x12_.out; have := v4_.out; omega
                                   case rel => exact ⟨(v1_), (v2_), (wrap64 (v3_ + 1)), (by first | rfl | (simp; done) | (simp [*]; done)), H', ⟨by have := z24_.out; have := y32_.out; have := x12_.out; have := v4_.out; omega⟩, ⟨by (try simp only [y34_]); (try simp only [x14_]); (try simp only [v5_]); (with_reducible repeat (first | apply Kd.R_alloc | apply Kd.R_drewN | apply Kd.R_drew)); exact z25_.out⟩, ⟨by (try simp only [y34_]); (try simp only [x14_]); (try simp only [v5_]); (with_reducible repeat (first | apply Kd.R_alloc | apply Kd.R_drewN | apply Kd.R_drew)); exact y33_.out⟩, ⟨by (try simp only [y34_]); (try simp only [x14_]); (try simp only [v5_]); (with_reducible repeat (first | apply Kd.R_alloc | apply Kd.R_drewN | apply Kd.R_drew)); exact x13_.out⟩, ⟨by (try simp only [y34_]); (try simp only [x14_]); (try simp only [v5_]); (with_reducible repeat (first | refine blk_drewN ?_ _ | refine blk_drew ?_ | refine blk_alloc ?_ _)); exact z15_.out⟩, ⟨by repeat (first | (with_reducible first | exact HB.out | apply below_alloc | apply pw_below_drewN | apply below_drew1 | refine below_set ?_ z17_.out) | exact HB.out)⟩⟩
                               · rw [if_neg v11_] at H
                                 exact absurd H (by simp)
                             · rw [if_neg v9_] at H
                               exact absurd H (by simp)
                           · rw [if_neg v7_] at H
                             have v8_ : decide (v3_ < 4) = false := decide_eq_false v7_
                             clear v7_
                             have H' := Aside0.mk H
                             clear H
                             go_wp2
                             (try simp only [← x14_, ← v5_])
                             go_roundg v6_
                             case measure => have := z24_.out; have := y32_.out; have := x12_.out; have := v4_.out; omega
                             case rel => exact ⟨(v1_), (v2_), (wrap64 (x11_ + 1)), (by first | rfl | (simp; done) | (simp [*]; done)), H', ⟨by have := z24_.out; have := y32_.out; have := x12_.out; have := v4_.out; omega⟩, ⟨by (try simp only [y34_]); (try simp only [x14_]); (try simp only [v5_]); (with_reducible repeat (first | apply Kd.R_alloc | apply Kd.R_drewN | apply Kd.R_drew)); exact z25_.out⟩, ⟨by (try simp only [y34_]); (try simp only [x14_]); (try simp only [v5_]); (with_reducible repeat (first | apply Kd.R_alloc | apply Kd.R_drewN | apply Kd.R_drew)); exact y33_.out⟩, ⟨by (try simp only [y34_]); (try simp only [x14_]); (try simp only [v5_]); (with_reducible repeat (first | apply Kd.R_alloc | apply Kd.R_drewN | apply Kd.R_drew)); exact x13_.out⟩, ⟨by (try simp only [y34_]); (try simp only [x14_]); (try simp only [v5_]); (with_reducible repeat (first | refine blk_drewN ?_ _ | refine blk_drew ?_ | refine blk_alloc ?_ _)); exact z15_.out⟩, ⟨by repeat (first | (with_reducible first | exact HB.out | apply below_alloc | apply pw_below_drewN | apply below_drew1 | refine below_set ?_ z17_.out) | exact HB.out)⟩⟩
                     · rw [if_neg x16_] at H
                       have x17_ : decide (x11_ < (y30_.length : Int)) = false := decide_eq_false x16_
                       clear x16_
                       have H' := Aside0.mk H
                       clear H
                       go_wp2
                       (try simp only [← y34_, ← x14_])
                       go_roundg x15_
                       case measure => have := z24_.out; have := y32_.out; have := x12_.out; omega
                       case rel => exact ⟨(x9_), (x10_), (wrap64 (y31_ + 1)), (by first | rfl | (simp; done) | (simp [*]; done)), H', ⟨by have := z24_.out; have := y32_.out; have := x12_.out; omega⟩, ⟨by (try simp only [y34_]); (try simp only [x14_]); (with_reducible repeat (first | apply Kd.R_alloc | apply Kd.R_drewN | apply Kd.R_drew)); exact Kd.R_mono z25_.out (fun _ hk => hk.2)⟩, ⟨by (try simp only [y34_]); (try simp only [x14_]); (with_reducible repeat (first | apply Kd.R_alloc | apply Kd.R_drewN | apply Kd.R_drew)); exact Kd.R_mono x13_.out (fun _ hk => hk.1)⟩, ⟨by (try simp only [y34_]); (try simp only [x14_]); (with_reducible repeat (first | refine blk_drewN ?_ _ | refine blk_drew ?_ | refine blk_alloc ?_ _)); exact z15_.out⟩, ⟨by repeat (first | (with_reducible first | exact HB.out | apply below_alloc | apply pw_below_drewN | apply below_drew1 | refine below_set ?_ z17_.out) | exact HB.out)⟩⟩
               · rw [if_neg y36_] at H
                 have y37_ : decide (0 < (y30_.length : Int)) = false := decide_eq_false y36_
                 have y38_ : decide (0 < y30_.length) = false := decide_eq_false (by omega)
                 clear y36_
                 obtain rfl := Option.some.inj H
                 obtain ⟨x1_, x2_, x3_⟩ := Kd.R_slice y33_.out
                 subst x3_
                 go_wp2
                 go_ret
                 exact ⟨_, by first | rfl | (simp [errW_none, errW_some] <;> rfl) | (simp [*, errW_none, errW_some] <;> rfl), by (with_reducible repeat (first | apply Kd.R_alloc | apply Kd.R_drewN | apply Kd.R_drew)); exact Kd.R_mono z25_.out (fun _ hk => trivial), by repeat (first | (with_reducible first | exact HB.out | apply below_alloc | apply pw_below_drewN | apply below_drew1 | refine below_set ?_ z17_.out) | exact HB.out)⟩
         · rw [if_neg z34_] at H
           exact absurd H (by simp)
       · rw [if_neg z32_] at H
         exact absurd H (by simp)
end Go.Proofs.Ytkkoenbmokbglaa.F
end
