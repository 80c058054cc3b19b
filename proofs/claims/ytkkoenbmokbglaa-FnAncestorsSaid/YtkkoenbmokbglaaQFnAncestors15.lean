/- Parts of a proof that the law FnAncestors holds for every input: contracts of the program's functions and plain laws on what they compute. -/
import Derived.Test.YtkkoenbmokbglaaQFnAncestors12
import Derived.Test.YtkkoenbmokbglaaQFnAncestors13
import Derived.Test.YtkkoenbmokbglaaQFnAncestors14
section
namespace Go.Proofs.Ytkkoenbmokbglaa.F
open Go.RowKit Go.Proofs.YtkkoenbmokbglaaW.PrintWords Go.Proofs.YtkkoenbmokbglaaW.PrintLast Go.Proofs.YtkkoenbmokbglaaW.PrintMore
set_option linter.unusedVariables false
set_option linter.unusedSimpArgs false
mutual
def impl_TreeParents.l0 : Nat → List Int → List Int → List Int → Int → Int → Int → Int → List Int → Option (List Int)
  | 0, _, _, _, _, _, _, _, _ => none
  | k + 1, x5, x6, x16, x17, x18, x102000, x102001, x102002 => if x18 < x17 then (if 0 ≤ x18 then (if x18 < (x16.length : Int) then (impl_TreeParents.l1 k x5 x6 x18 (rd x16 x18) (-1) 3 x16 x17 x18 x102000 x102001 x102002) else (none)) else (none)) else (some x6)
def impl_TreeParents.l1 : Nat → List Int → List Int → Int → Int → Int → Int → List Int → Int → Int → Int → Int → List Int → Option (List Int)
  | 0, _, _, _, _, _, _, _, _, _, _, _, _ => none
  | k + 1, x5, x6, x7, x8, x9, x10, x16, x17, x18, x102000, x102001, x102002 => if x10 ≥ 0 then (impl_TreeParents.j2 k x5 x6 x7 x8 x9 x10 x16 x17 x18 (decide (x8 > 0)) x102000 x102001 x102002) else (impl_TreeParents.j2 k x5 x6 x7 x8 x9 x10 x16 x17 x18 false x102000 x102001 x102002)
def impl_TreeParents.j2 : Nat → List Int → List Int → Int → Int → Int → Int → List Int → Int → Int → Bool → Int → Int → List Int → Option (List Int)
  | 0, _, _, _, _, _, _, _, _, _, _, _, _, _ => none
  | k + 1, x5, x6, x7, x8, x9, x10, x16, x17, x18, x28, x102000, x102001, x102002 => if x28 = true then ((impl_IsLink.f k x102000 x102001 x102002 (wrap64 ((wrap64 (4 * x7)) + x10))).bind fun t112 => (if t112 = true then ((impl_endOf.f x102000 x102001 x102002 (wrap64 ((wrap64 (4 * x7)) + x10))).bind fun t113 => (if 0 ≤ t113 then (if t113 < (x5.length : Int) then (if (rd x5 t113) = (wrap64 (x8 - 1)) then ((impl_endOf.f x102000 x102001 x102002 (wrap64 ((wrap64 (4 * x7)) + x10))).bind fun t115 => (impl_TreeParents.l1 k x5 x6 x7 x8 t115 (wrap64 (x10 - 1)) x16 x17 x18 x102000 x102001 x102002)) else (impl_TreeParents.l1 k x5 x6 x7 x8 x9 (wrap64 (x10 - 1)) x16 x17 x18 x102000 x102001 x102002)) else (none)) else (none))) else (impl_TreeParents.l1 k x5 x6 x7 x8 x9 (wrap64 (x10 - 1)) x16 x17 x18 x102000 x102001 x102002))) else (if x6.length < 17592186044416 then (impl_TreeParents.l0 k x5 (x6 ++ [x9]) x16 x17 (wrap64 (x18 + 1)) x102000 x102001 x102002) else (none))
end
def impl_TreeParents.f (k : Nat) (a0_0 : Int) (a0_1 : Int) (l0_2 : List Int) (a1 : Int) : Option (List Int) := (impl_TreeDepths.f k a0_0 a0_1 l0_2 a1).bind fun t102 => (impl_TreeParents.l0 k t102 (([] : List Int)) t102 (t102.length : Int) 0 a0_0 a0_1 l0_2)
set_option maxHeartbeats 8000000 in
set_option maxRecDepth 100000 in
theorem impl_TreeParents.calls (k : Nat) (a0_0 : Int) (a0_1 : Int) (A0_2 : Option Addr) (c0_2 : Nat) (l0_2 : List Int) (a1 : Int) (r : List Int) (w : World) (hr0_2 : Kd.C (Kd.int .i64) w A0_2 l0_2.length l0_2) (hc0_2 : l0_2.length ≤ c0_2) (h : impl_TreeParents.f k a0_0 a0_1 l0_2 a1 = some r) :
    Calls Try.prog 33 #[.agg #[.int .i64 a0_0, .int .i64 a0_1, .slice A0_2 l0_2.length c0_2], .int .i64 a1] w fun e w' => ∃ v0_ : Value, e = .returned (v0_) ∧ Kd.R (Kd.int .i64) 3 w' w.heap.size (fun _ => True) v0_ r ∧ Below w.heap.size w w' := by
 have z1_ := Try.underlying34
 have z2_ := Aside0.mk hr0_2
 have z3_ := Aside0.mk hc0_2
 clear hr0_2 hc0_2
 have HB := Aside0.mk (Below.refl w.heap.size w)
 have H : ((impl_TreeDepths.f k a0_0 a0_1 l0_2 a1).bind fun t102 => (impl_TreeParents.l0 k t102 (([] : List Int)) t102 (t102.length : Int) 0 a0_0 a0_1 l0_2)) = some r := h
 clear h
 replace H := Option.bind_eq_some_iff.mp H
 obtain ⟨z4_, z5_, H⟩ := H
 replace H : (impl_TreeParents.l0 k z4_ (([] : List Int)) z4_ (z4_.length : Int) 0 a0_0 a0_1 l0_2) = some r := H
 have z6_ := Aside0.mk z5_
 clear z5_
 obtain ⟨z7_, z8_⟩ : ∃ y_ : List Int, y_ = (([] : List Int)) := ⟨_, rfl⟩
 replace H : (impl_TreeParents.l0 k z4_ z7_ z4_ (z4_.length : Int) 0 a0_0 a0_1 l0_2) = some r := by first | (rw [z8_]; with_reducible exact H) | (have z9_ := (Option.bind_some _ _).symm.trans H; rw [z8_]; with_reducible exact z9_) | (have z9_ := (Option.bind_some _ _).symm.trans H; with_reducible exact z9_) | with_reducible exact H | (rw [z8_]; exact H) | exact H
 have z10_ := Aside0.mk z8_
 clear z8_
 have H' := Aside0.mk H
 clear H
 go_enter Try.func33, Try.ntmps33
 go_wp2_with (first | ((with_reducible refine gate_dst (N := 2) rfl ?_); refine box_event ?hg (N := 2) ?hd (cs := #[.int .i64 a0_0, .int .i64 a0_1, .slice A0_2 l0_2.length c0_2]) (t := 34) ?hr ?_; (case hd => rfl); (case hg => rfl); (case hr => first | (go_simp; done) | (go_simp; rfl)); intro z11_ hg z12_ hbox hb; have z13_ := Aside0.mk (below_step (by repeat (first | (with_reducible first | exact HB.out | apply below_alloc | apply pw_below_drewN | apply below_drew1) | exact HB.out)) hb); have z14_ := Aside0.mk (hbox); have z15_ := Aside0.mk ((by rw [hg]; exact (below_size (by repeat (first | (with_reducible first | exact HB.out | apply below_alloc | apply pw_below_drewN | apply below_drew1) | exact HB.out))) : w.heap.size ≤ z11_)); have z16_ := Aside0.mk ((by rw [hg]; exact (below_size (by repeat (first | (with_reducible first | exact HB.out | apply below_alloc | apply pw_below_drewN | apply below_drew1) | exact HB.out))) : w.heap.size ≤ z11_)); clear HB; have HB := z13_; have z17_ := z14_; have z18_ := z15_; have z19_ := z16_; clear z13_ z14_ z15_ z16_; clear hb hbox hg; have z20_ : z12_.cell? ⟨z11_, 0, none⟩ = some (.int .i64 a0_0) := (blk_cell z17_.out 0).trans rfl; have z21_ : z12_.cell? ⟨z11_, 1, none⟩ = some (.int .i64 a0_1) := (blk_cell z17_.out 1).trans rfl; have z22_ : z12_.cell? ⟨z11_, 2, none⟩ = some (.slice A0_2 l0_2.length c0_2) := (blk_cell z17_.out 2).trans rfl; have z23_ := blk_frozen z17_.out 0; have z24_ := blk_frozen z17_.out 1; have z25_ := blk_frozen z17_.out 2) | ((with_reducible refine gate_callee (f := 24) rfl ?_); refine goesL_ (some 14) rfl rfl Try.func24 (by kernel_rfl) rfl #[.agg #[.int .i64 a0_0, .int .i64 a0_1, .slice A0_2 l0_2.length c0_2], .int .i64 a1] rfl (by (try simp only [List.map_toArray, List.map_cons, List.map_nil]); first | done | rfl | (simp only [List.length_drop, List.length_take]; rfl)) ?_; (with_reducible refine (impl_TreeDepths.calls _ _ _ _ _ _ _ _ _ ?side1 ?side2 z6_.out).mono ?_); (case side1 => repeat (first | exact (Kd.C_below z2_.out HB.out) | (with_reducible refine Kd.C_alloc ?_ _) | (with_reducible refine Kd.C_drewN ?_ _) | (with_reducible refine Kd.C_drew ?_))); (case side2 => exact z3_.out); rintro e z26_ ⟨z27_, rfl, z28_, hb⟩; refine ⟨_, rfl, ?_⟩; have z13_ := Aside0.mk (Kd.R_lower z28_ (below_size (by repeat (first | (with_reducible first | exact HB.out | apply below_alloc | apply pw_below_drewN | apply below_drew1 | refine below_set ?_ z19_.out) | exact HB.out)))); have z14_ := Aside0.mk (blk_below (g := z11_) (o := .cells #[.int .i64 a0_0, .int .i64 a0_1, .slice A0_2 l0_2.length c0_2] 34 (0, 0)) (by (with_reducible repeat (first | refine blk_drewN ?_ _ | refine blk_drew ?_ | refine blk_alloc ?_ _)); exact z17_.out) hb); have z15_ := Aside0.mk (below_step (by repeat (first | (with_reducible first | exact HB.out | apply below_alloc | apply pw_below_drewN | apply below_drew1 | refine below_set ?_ z19_.out) | exact HB.out)) hb); clear z17_; clear HB; have z29_ := z13_; have z17_ := z14_; have HB := z15_; clear z13_ z14_ z15_; (try clear hb); (try clear hb2); (try clear hk); (try clear hi); (try clear z28_)) | ((with_reducible refine gate_dst (N := 15) rfl ?_); refine Kd.R_lit (Kd.int .i64) _ 3 ?hg (N := 15) ?hd (xs := ([] : List Int)) (inner := []) (ok := fun _ => True) (okp := fun _ => True) ?hr ?hp (fun _ hk => hk) trivial (Below.refl _ _) (Nat.le_refl _) (by simp) ?_; (case hd => rfl); (case hg => rfl); (case hr => first | (go_simp; done) | (go_simp; rfl)); (case hp => exact (Reps.none _ _)); intro z30_ z31_ z32_ hb hg_ hnew_; clear hg_ hnew_; (first | rw [← z10_.out] at z32_ | (simp only [Int.reduceToNat] at z32_; rw [← z10_.out] at z32_)); have z13_ := Aside0.mk (Kd.R_elder' (by (with_reducible repeat (first | apply Kd.R_alloc | apply Kd.R_drewN | apply Kd.R_drew)); exact z29_.out) (Kd.R_base z32_) hb); have z14_ := Aside0.mk (Kd.R_lower (Kd.R_new' z32_ (Kd.R_lt (by (with_reducible repeat (first | apply Kd.R_alloc | apply Kd.R_drewN | apply Kd.R_drew)); exact z29_.out))) (below_size (by repeat (first | (with_reducible first | exact HB.out | apply below_alloc | apply pw_below_drewN | apply below_drew1 | refine below_set ?_ z19_.out) | exact HB.out)))); have z15_ := Aside0.mk (blk_below (g := z11_) (o := .cells #[.int .i64 a0_0, .int .i64 a0_1, .slice A0_2 l0_2.length c0_2] 34 (0, 0)) (by (with_reducible repeat (first | refine blk_drewN ?_ _ | refine blk_drew ?_ | refine blk_alloc ?_ _)); exact z17_.out) hb); have z16_ := Aside0.mk (below_step (by repeat (first | (with_reducible first | exact HB.out | apply below_alloc | apply pw_below_drewN | apply below_drew1 | refine below_set ?_ z19_.out) | exact HB.out)) hb); clear z29_; clear z17_; clear HB; have z29_ := z13_; have z33_ := z14_; have z17_ := z15_; have HB := z16_; clear z13_ z14_ z15_ z16_; clear hb z32_; obtain ⟨z34_, z35_, z36_⟩ := Kd.R_slice z29_.out; subst z36_))
 go_loopg [6, 18] k (fun kq v6 v18 w' => ∃ (x6_1 : List Int) (x18_1 : Int), v18 = .int .i64 x18_1 ∧ Aside0 (impl_TreeParents.l0 kq z4_ x6_1 z4_ (z4_.length : Int) x18_1 a0_0 a0_1 l0_2 = some r) ∧ Aside0 (kq ≤ k) ∧ Aside0 (Kd.R (Kd.int .i64) 3 w' w.heap.size (fun k_ => some k_ ≠ (v6 : Value).ownBlock) (.slice z34_ z4_.length z35_) z4_) ∧ Aside0 (Kd.R (Kd.int .i64) 3 w' w.heap.size (fun k_ => some k_ ≠ ((.slice z34_ z4_.length z35_) : Value).ownBlock ∧ some k_ ≠ ((.slice z34_ z4_.length z35_) : Value).ownBlock) v6 x6_1) ∧ Aside0 (Kd.R (Kd.int .i64) 3 w' w.heap.size (fun k_ => some k_ ≠ (v6 : Value).ownBlock) (.slice z34_ z4_.length z35_) z4_) ∧ Aside0 (w'.heap[z11_]? = some (.cells #[.int .i64 a0_0, .int .i64 a0_1, (.slice A0_2 l0_2.length c0_2)] 34 (0, 0))) ∧ Aside0 (Below w.heap.size w w'))
 case atStart => exact ⟨(z7_), (0), (by first | rfl | (simp; done) | (simp [*]; done)), H', ⟨Nat.le_refl _⟩, ⟨by (with_reducible repeat (first | apply Kd.R_alloc | apply Kd.R_drewN | apply Kd.R_drew)); exact Kd.R_mono z29_.out (fun _ hk => hk.2)⟩, ⟨by (with_reducible repeat (first | apply Kd.R_alloc | apply Kd.R_drewN | apply Kd.R_drew)); exact Kd.R_mono z33_.out (fun _ hk => ⟨hk.2, hk.2⟩)⟩, ⟨by (with_reducible repeat (first | apply Kd.R_alloc | apply Kd.R_drewN | apply Kd.R_drew)); exact Kd.R_mono z29_.out (fun _ hk => hk.2)⟩, ⟨by (with_reducible repeat (first | refine blk_drewN ?_ _ | refine blk_drew ?_ | refine blk_alloc ?_ _)); exact z17_.out⟩, ⟨by repeat (first | (with_reducible first | exact HB.out | apply below_alloc | apply pw_below_drewN | apply below_drew1 | refine below_set ?_ z19_.out) | exact HB.out)⟩⟩
 case round =>
   clear H'
   try clear c2
   try clear p2
   try clear c3
   try clear z20_
   try clear z21_
   try clear z22_
   try clear z23_
   try clear z24_
   try clear z25_
   obtain ⟨z37_, z38_, rfl, HA, z39_, z40_, z41_, z42_, z17_, HB⟩ := hrel
   cases gk with
   | zero => exact absurd HA.out (by simp [impl_TreeParents.l0])
   | succ z43_ =>
     have H := HA.out
     clear HA
     simp only [impl_TreeParents.l0] at H
     by_cases z44_ : z38_ < (z4_.length : Int)
     · rw [if_pos z44_] at H
       have z45_ : decide (z38_ < (z4_.length : Int)) = true := decide_eq_true z44_
       clear z44_
       by_cases z46_ : 0 ≤ z38_
       · rw [if_pos z46_] at H
         have z47_ : decide (0 ≤ z38_) = true := decide_eq_true z46_
         clear z46_
         by_cases z48_ : z38_ < (z4_.length : Int)
         · rw [if_pos z48_] at H
           have z49_ : decide (z38_ < (z4_.length : Int)) = true := decide_eq_true z48_
           clear z48_
           have H' := Aside0.mk H
           clear H
           have y1_ : 0 ≤ (z38_ : Int) := of_decide_eq_true (by first | (with_reducible assumption) | assumption)
           have y2_ : z38_ < (z4_.length : Int) := of_decide_eq_true (by first | (with_reducible assumption) | assumption)
           obtain ⟨y3_, y4_, y5_⟩ := Kd.at_int (Kd.R_reads' z42_.out).2.2 z38_ y1_ y2_
           cases y4_
           replace y1_ := eq_true y1_
           replace y2_ := eq_true y2_
           go_wp2
           go_loopg [9, 10] z43_ (fun kq v9 v10 w' => ∃ (x9_2 : Int) (x10_2 : Int), v9 = .int .i64 x9_2 ∧ v10 = .int .i64 x10_2 ∧ Aside0 (impl_TreeParents.l1 kq z4_ z37_ z38_ (rd z4_ z38_) x9_2 x10_2 z4_ (z4_.length : Int) z38_ a0_0 a0_1 l0_2 = some r) ∧ Aside0 (kq ≤ z43_) ∧ Aside0 (Kd.R (Kd.int .i64) 3 w' w.heap.size (fun k_ => some k_ ≠ (u6 : Value).ownBlock) (.slice (some y3_) z4_.length z35_) z4_) ∧ Aside0 (Kd.R (Kd.int .i64) 3 w' w.heap.size (fun k_ => some k_ ≠ ((.slice (some y3_) z4_.length z35_) : Value).ownBlock ∧ some k_ ≠ ((.slice (some y3_) z4_.length z35_) : Value).ownBlock) u6 z37_) ∧ Aside0 (Kd.R (Kd.int .i64) 3 w' w.heap.size (fun k_ => some k_ ≠ (u6 : Value).ownBlock) (.slice (some y3_) z4_.length z35_) z4_) ∧ Aside0 (w'.heap[z11_]? = some (.cells #[.int .i64 a0_0, .int .i64 a0_1, (.slice A0_2 l0_2.length c0_2)] 34 (0, 0))) ∧ Aside0 (Below w.heap.size w w'))
           case atStart => exact ⟨((-1)), (3), (by first | rfl | (simp; done) | (simp [*]; done)), (by first | rfl | (simp; done) | (simp [*]; done)), H', ⟨Nat.le_refl _⟩, ⟨by (with_reducible repeat (first | apply Kd.R_alloc | apply Kd.R_drewN | apply Kd.R_drew)); exact z40_.out⟩, ⟨by (with_reducible repeat (first | apply Kd.R_alloc | apply Kd.R_drewN | apply Kd.R_drew)); exact z41_.out⟩, ⟨by (with_reducible repeat (first | apply Kd.R_alloc | apply Kd.R_drewN | apply Kd.R_drew)); exact z42_.out⟩, ⟨by (with_reducible repeat (first | refine blk_drewN ?_ _ | refine blk_drew ?_ | refine blk_alloc ?_ _)); exact z17_.out⟩, ⟨by repeat (first | (with_reducible first | exact HB.out | apply below_alloc | apply pw_below_drewN | apply below_drew1 | refine below_set ?_ z19_.out) | exact HB.out)⟩⟩
           case round =>
             clear H'
             try clear c1
             try clear p1
             try clear q1
             try clear hx1
             try clear c2
             try clear p2
             try clear c3
             try clear z44_
             try clear z45_
             try clear p10
             try clear q10
             try clear hx10
             try clear z46_
             try clear z47_
             try clear z48_
             try clear z49_
             try clear z20_
             try clear z21_
             try clear z22_
             try clear z23_
             try clear z24_
             try clear z25_
             try clear y5_
             try clear y1_
             try clear p2
             try clear y2_
             obtain ⟨y6_, y7_, rfl, rfl, HA, y8_, z40_, z41_, z42_, z17_, HB⟩ := hrel
             cases gk with
             | zero => exact absurd HA.out (by simp [impl_TreeParents.l1])
             | succ y9_ =>
               have H := HA.out
               clear HA
               simp only [impl_TreeParents.l1] at H
               have y10_ := Aside0.mk H
               clear H
               go_upto_region 7 with (fail)
               go_cut [28] (fun v28 wc => ∃ (kq : Nat) (x28_12 : Bool), v28 = .bool x28_12 ∧ Aside0 (impl_TreeParents.j2 kq z4_ z37_ z38_ (rd z4_ z38_) y6_ y7_ z4_ (z4_.length : Int) z38_ x28_12 a0_0 a0_1 l0_2 = some r) ∧ Aside0 (kq ≤ y9_) ∧ Aside0 (Kd.R (Kd.int .i64) 3 wc w.heap.size (fun k_ => some k_ ≠ (u6 : Value).ownBlock) (.slice (some y3_) z4_.length z35_) z4_) ∧ Aside0 (Kd.R (Kd.int .i64) 3 wc w.heap.size (fun k_ => some k_ ≠ ((.slice (some y3_) z4_.length z35_) : Value).ownBlock ∧ some k_ ≠ ((.slice (some y3_) z4_.length z35_) : Value).ownBlock) u6 z37_) ∧ Aside0 (Kd.R (Kd.int .i64) 3 wc w.heap.size (fun k_ => some k_ ≠ (u6 : Value).ownBlock) (.slice (some y3_) z4_.length z35_) z4_) ∧ Aside0 (wc.heap[z11_]? = some (.cells #[.int .i64 a0_0, .int .i64 a0_1, (.slice A0_2 l0_2.length c0_2)] 34 (0, 0))) ∧ Aside0 (Below w.heap.size w wc))
               case first =>
                 have H := y10_.out
                 clear y10_
                 by_cases y11_ : y7_ ≥ 0
                 focus
                   rw [if_pos y11_] at H
                   have y12_ : decide (0 ≤ y7_) = true := decide_eq_true y11_
                   clear y11_
                   (first | rw [y12_] | (simp only [i64_w, i32_w]; rw [y12_]) | skip)
                   have H' := Aside0.mk H
                   clear H
                 rotate_left
                 focus
                   rw [if_neg y11_] at H
                   have y12_ : decide (0 ≤ y7_) = false := decide_eq_false y11_
                   clear y11_
                   (first | rw [y12_] | (simp only [i64_w, i32_w]; rw [y12_]) | skip)
                   have H' := Aside0.mk H
                   clear H
                 all_goals
                   go_wp2
                   first
                     | skip
                       go_meet
                       case rel => exact ⟨_, (decide ((rd z4_ z38_) > 0)), (by first | rfl | (simp; done) | (simp [*]; done)), H', ⟨by have := z39_.out; have := y8_.out; first | omega | exact Nat.le_refl _⟩, ⟨by (with_reducible repeat (first | apply Kd.R_alloc | apply Kd.R_drewN | apply Kd.R_drew)); exact z40_.out⟩, ⟨by (with_reducible repeat (first | apply Kd.R_alloc | apply Kd.R_drewN | apply Kd.R_drew)); exact z41_.out⟩, ⟨by (with_reducible repeat (first | apply Kd.R_alloc | apply Kd.R_drewN | apply Kd.R_drew)); exact z42_.out⟩, ⟨by (with_reducible repeat (first | refine blk_drewN ?_ _ | refine blk_drew ?_ | refine blk_alloc ?_ _)); exact z17_.out⟩, ⟨by repeat (first | (with_reducible first | exact HB.out | apply below_alloc | apply pw_below_drewN | apply below_drew1 | refine below_set ?_ z19_.out) | exact HB.out)⟩⟩
                     | skip
                       go_meet
                       case rel => exact ⟨_, (false), (by first | rfl | (simp; done) | (simp [*]; done)), H', ⟨by have := z39_.out; have := y8_.out; first | omega | exact Nat.le_refl _⟩, ⟨by (with_reducible repeat (first | apply Kd.R_alloc | apply Kd.R_drewN | apply Kd.R_drew)); exact z40_.out⟩, ⟨by (with_reducible repeat (first | apply Kd.R_alloc | apply Kd.R_drewN | apply Kd.R_drew)); exact z41_.out⟩, ⟨by (with_reducible repeat (first | apply Kd.R_alloc | apply Kd.R_drewN | apply Kd.R_drew)); exact z42_.out⟩, ⟨by (with_reducible repeat (first | refine blk_drewN ?_ _ | refine blk_drew ?_ | refine blk_alloc ?_ _)); exact z17_.out⟩, ⟨by repeat (first | (with_reducible first | exact HB.out | apply below_alloc | apply pw_below_drewN | apply below_drew1 | refine below_set ?_ z19_.out) | exact HB.out)⟩⟩
               case rest =>
                 clear y10_
                 try clear c1
                 try clear p1
                 try clear q1
                 try clear hx1
                 try clear c2
                 try clear p2
                 try clear c3
                 try clear z44_
                 try clear z45_
                 try clear p10
                 try clear q10
                 try clear hx10
                 try clear z46_
                 try clear z47_
                 try clear z48_
                 try clear z49_
                 try clear y11_
                 try clear c14b0
                 try clear z20_
                 try clear z21_
                 try clear z22_
                 try clear z23_
                 try clear z24_
                 try clear z25_
                 try clear y5_
                 try clear p1
                 try clear p10
                 try clear y1_
                 try clear p2
                 try clear q1
                 try clear q10
                 try clear y2_
                 obtain ⟨kq, y12_, rfl, HA, y13_, z40_, z41_, z42_, z17_, HB⟩ := hcut
                 cases kq with
                 | zero => exact absurd HA.out (by simp [impl_TreeParents.j2])
                 | succ y14_ =>
                   have H := HA.out
                   clear HA
                   simp only [impl_TreeParents.j2] at H
                   by_cases y15_ : y12_ = true
                   focus
                     subst y15_
                     have y16_ : ((impl_IsLink.f y14_ a0_0 a0_1 l0_2 (wrap64 ((wrap64 (4 * z38_)) + y7_))).bind fun t112 => (if t112 = true then ((impl_endOf.f a0_0 a0_1 l0_2 (wrap64 ((wrap64 (4 * z38_)) + y7_))).bind fun t113 => (if 0 ≤ t113 then (if t113 < (z4_.length : Int) then (if (rd z4_ t113) = (wrap64 ((rd z4_ z38_) - 1)) then ((impl_endOf.f a0_0 a0_1 l0_2 (wrap64 ((wrap64 (4 * z38_)) + y7_))).bind fun t115 => (impl_TreeParents.l1 y14_ z4_ z37_ z38_ (rd z4_ z38_) t115 (wrap64 (y7_ - 1)) z4_ (z4_.length : Int) z38_ a0_0 a0_1 l0_2)) else (impl_TreeParents.l1 y14_ z4_ z37_ z38_ (rd z4_ z38_) y6_ (wrap64 (y7_ - 1)) z4_ (z4_.length : Int) z38_ a0_0 a0_1 l0_2)) else (none)) else (none))) else (impl_TreeParents.l1 y14_ z4_ z37_ z38_ (rd z4_ z38_) y6_ (wrap64 (y7_ - 1)) z4_ (z4_.length : Int) z38_ a0_0 a0_1 l0_2))) = some r := by rw [if_pos rfl] at H; exact H
                     clear H
                     have H := y16_
                     clear y16_
                     replace H := Option.bind_eq_some_iff.mp H
                     obtain ⟨y17_, y18_, H⟩ := H
                     replace H : (if y17_ = true then ((impl_endOf.f a0_0 a0_1 l0_2 (wrap64 ((wrap64 (4 * z38_)) + y7_))).bind fun t113 => (if 0 ≤ t113 then (if t113 < (z4_.length : Int) then (if (rd z4_ t113) = (wrap64 ((rd z4_ z38_) - 1)) then ((impl_endOf.f a0_0 a0_1 l0_2 (wrap64 ((wrap64 (4 * z38_)) + y7_))).bind fun t115 => (impl_TreeParents.l1 y14_ z4_ z37_ z38_ (rd z4_ z38_) t115 (wrap64 (y7_ - 1)) z4_ (z4_.length : Int) z38_ a0_0 a0_1 l0_2)) else (impl_TreeParents.l1 y14_ z4_ z37_ z38_ (rd z4_ z38_) y6_ (wrap64 (y7_ - 1)) z4_ (z4_.length : Int) z38_ a0_0 a0_1 l0_2)) else (none)) else (none))) else (impl_TreeParents.l1 y14_ z4_ z37_ z38_ (rd z4_ z38_) y6_ (wrap64 (y7_ - 1)) z4_ (z4_.length : Int) z38_ a0_0 a0_1 l0_2)) = some r := H
                     have y19_ := Aside0.mk y18_
                     clear y18_
                     by_cases y20_ : y17_ = true
                     focus
                       subst y20_
                       have y16_ : ((impl_endOf.f a0_0 a0_1 l0_2 (wrap64 ((wrap64 (4 * z38_)) + y7_))).bind fun t113 => (if 0 ≤ t113 then (if t113 < (z4_.length : Int) then (if (rd z4_ t113) = (wrap64 ((rd z4_ z38_) - 1)) then ((impl_endOf.f a0_0 a0_1 l0_2 (wrap64 ((wrap64 (4 * z38_)) + y7_))).bind fun t115 => (impl_TreeParents.l1 y14_ z4_ z37_ z38_ (rd z4_ z38_) t115 (wrap64 (y7_ - 1)) z4_ (z4_.length : Int) z38_ a0_0 a0_1 l0_2)) else (impl_TreeParents.l1 y14_ z4_ z37_ z38_ (rd z4_ z38_) y6_ (wrap64 (y7_ - 1)) z4_ (z4_.length : Int) z38_ a0_0 a0_1 l0_2)) else (none)) else (none))) = some r := by rw [if_pos rfl] at H; exact H
                       clear H
                       have H := y16_
                       clear y16_
                       replace H := Option.bind_eq_some_iff.mp H
                       obtain ⟨y21_, y22_, H⟩ := H
                       replace H : (if 0 ≤ y21_ then (if y21_ < (z4_.length : Int) then (if (rd z4_ y21_) = (wrap64 ((rd z4_ z38_) - 1)) then ((impl_endOf.f a0_0 a0_1 l0_2 (wrap64 ((wrap64 (4 * z38_)) + y7_))).bind fun t115 => (impl_TreeParents.l1 y14_ z4_ z37_ z38_ (rd z4_ z38_) t115 (wrap64 (y7_ - 1)) z4_ (z4_.length : Int) z38_ a0_0 a0_1 l0_2)) else (impl_TreeParents.l1 y14_ z4_ z37_ z38_ (rd z4_ z38_) y6_ (wrap64 (y7_ - 1)) z4_ (z4_.length : Int) z38_ a0_0 a0_1 l0_2)) else (none)) else (none)) = some r := H
                       have y23_ := Aside0.mk y22_
                       clear y22_
                       by_cases y24_ : 0 ≤ y21_
                       focus
                         rw [if_pos y24_] at H
                         have y25_ : decide (0 ≤ y21_) = true := decide_eq_true y24_
                         clear y24_
                         by_cases y26_ : y21_ < (z4_.length : Int)
                         focus
                           rw [if_pos y26_] at H
                           have y27_ : decide (y21_ < (z4_.length : Int)) = true := decide_eq_true y26_
                           clear y26_
                           by_cases y28_ : (rd z4_ y21_) = (wrap64 ((rd z4_ z38_) - 1))
                           focus
                             rw [if_pos y28_] at H
                             have y29_ : ((rd z4_ y21_) == (wrap64 ((rd z4_ z38_) - 1))) = true := beq_iff_eq.mpr y28_
                             have y30_ : ((rd z4_ y21_) != (wrap64 ((rd z4_ z38_) - 1))) = false := bne_eq_false_iff_eq.mpr y28_
                             clear y28_
                             replace H := Option.bind_eq_some_iff.mp H
                             obtain ⟨y31_, y32_, H⟩ := H
                             replace H : (impl_TreeParents.l1 y14_ z4_ z37_ z38_ (rd z4_ z38_) y31_ (wrap64 (y7_ - 1)) z4_ (z4_.length : Int) z38_ a0_0 a0_1 l0_2) = some r := H
                             have y33_ := Aside0.mk y32_
                             clear y32_
                             have H' := Aside0.mk H
                             clear H
                           rotate_left
                           focus
                             rw [if_neg y28_] at H
                             have y29_ : ((rd z4_ y21_) == (wrap64 ((rd z4_ z38_) - 1))) = false := beq_eq_false_iff_ne.mpr y28_
                             have y30_ : ((rd z4_ y21_) != (wrap64 ((rd z4_ z38_) - 1))) = true := bne_iff_ne.mpr y28_
                             have H' := Aside0.mk H
                             clear H
                         rotate_left 2
                         · rw [if_neg y26_] at H
                           exact absurd H (by simp)
                       rotate_left 2
                       · rw [if_neg y24_] at H
                         exact absurd H (by simp)
                     rotate_left 2
                     focus
                       replace y20_ := Bool.eq_false_iff.mpr y20_
                       subst y20_
                       have y16_ : (impl_TreeParents.l1 y14_ z4_ z37_ z38_ (rd z4_ z38_) y6_ (wrap64 (y7_ - 1)) z4_ (z4_.length : Int) z38_ a0_0 a0_1 l0_2) = some r := by rw [if_neg (show ¬ (false = true) by decide)] at H; exact H
                       clear H
                       have H := y16_
                       clear y16_
                       have H' := Aside0.mk H
                       clear H
                   rotate_left 3
                   focus
                     replace y15_ := Bool.eq_false_iff.mpr y15_
                     subst y15_
                     have y16_ : (if z37_.length < 17592186044416 then (impl_TreeParents.l0 y14_ z4_ (z37_ ++ [y6_]) z4_ (z4_.length : Int) (wrap64 (z38_ + 1)) a0_0 a0_1 l0_2) else (none)) = some r := by rw [if_neg (show ¬ (false = true) by decide)] at H; exact H
                     clear H
                     have H := y16_
                     clear y16_
                     by_cases y17_ : z37_.length < 17592186044416
                     focus
                       rw [if_pos y17_] at H
                       have y18_ := Aside0.mk y17_
                       clear y17_
                       obtain ⟨y19_, y20_⟩ : ∃ y_ : List Int, y_ = (z37_ ++ [y6_]) := ⟨_, rfl⟩
                       replace H : (impl_TreeParents.l0 y14_ z4_ y19_ z4_ (z4_.length : Int) (wrap64 (z38_ + 1)) a0_0 a0_1 l0_2) = some r := by first | (rw [y20_]; with_reducible exact H) | (have z9_ := (Option.bind_some _ _).symm.trans H; rw [y20_]; with_reducible exact z9_) | (have z9_ := (Option.bind_some _ _).symm.trans H; with_reducible exact z9_) | with_reducible exact H | (rw [y20_]; exact H) | exact H
                       have y21_ := Aside0.mk y20_
                       clear y20_
                       have H' := Aside0.mk H
                       clear H
                     rotate_left
                     · rw [if_neg y17_] at H
                       exact absurd H (by simp)
                   all_goals first
                     | skip
                       have x1_ : wc.cell? ⟨z11_, 0, none⟩ = some (.int .i64 a0_0) := (blk_cell z17_.out 0).trans rfl
                       have x2_ : wc.cell? ⟨z11_, 1, none⟩ = some (.int .i64 a0_1) := (blk_cell z17_.out 1).trans rfl
                       have x3_ : wc.cell? ⟨z11_, 2, none⟩ = some (.slice A0_2 l0_2.length c0_2) := (blk_cell z17_.out 2).trans rfl
                       have x4_ := blk_frozen z17_.out 0
                       have x5_ := blk_frozen z17_.out 1
                       have x6_ := blk_frozen z17_.out 2
                       go_wp2_with (first | ((with_reducible refine gate_callee (f := 67) rfl ?_); refine goesL_ (some 37) rfl rfl Try.func67 (by kernel_rfl) rfl #[.agg #[.int .i64 a0_0, .int .i64 a0_1, .slice A0_2 l0_2.length c0_2], .int .i64 (wrap64 ((wrap64 (4 * z38_)) + y7_))] rfl (by (try simp only [List.map_toArray, List.map_cons, List.map_nil]); first | done | rfl | (simp only [List.length_drop, List.length_take]; rfl)) ?_; (with_reducible refine (impl_IsLink.calls _ _ _ _ _ _ _ _ _ ?side1 ?side2 y19_.out).mono ?_); (case side1 => repeat (first | exact (Kd.C_below z2_.out HB.out) | (with_reducible refine Kd.C_alloc ?_ _) | (with_reducible refine Kd.C_drewN ?_ _) | (with_reducible refine Kd.C_drew ?_))); (case side2 => exact z3_.out); rintro e x7_ ⟨rfl, hb⟩; refine ⟨_, rfl, ?_⟩; have z13_ := Aside0.mk (Kd.R_below (by (with_reducible repeat (first | apply Kd.R_alloc | apply Kd.R_drewN | apply Kd.R_drew)); exact z40_.out) hb); have z14_ := Aside0.mk (Kd.R_below (by (with_reducible repeat (first | apply Kd.R_alloc | apply Kd.R_drewN | apply Kd.R_drew)); exact z41_.out) hb); have z15_ := Aside0.mk (Kd.R_below (by (with_reducible repeat (first | apply Kd.R_alloc | apply Kd.R_drewN | apply Kd.R_drew)); exact z42_.out) hb); have z16_ := Aside0.mk (blk_below (g := z11_) (o := .cells #[.int .i64 a0_0, .int .i64 a0_1, .slice A0_2 l0_2.length c0_2] 34 (0, 0)) (by (with_reducible repeat (first | refine blk_drewN ?_ _ | refine blk_drew ?_ | refine blk_alloc ?_ _)); exact z17_.out) hb); have x8_ := Aside0.mk (below_step (by repeat (first | (with_reducible first | exact HB.out | apply below_alloc | apply pw_below_drewN | apply below_drew1 | refine below_set ?_ z19_.out) | exact HB.out)) hb); clear z40_; clear z41_; clear z42_; clear z17_; clear HB; have z40_ := z13_; have z41_ := z14_; have z42_ := z15_; have z17_ := z16_; have HB := x8_; clear z13_ z14_ z15_ z16_ x8_; (try clear hb); (try clear hb2); (try clear hk); (try clear hi); have x9_ : x7_.cell? ⟨z11_, 0, none⟩ = some (.int .i64 a0_0) := (blk_cell z17_.out 0).trans rfl; have x10_ : x7_.cell? ⟨z11_, 1, none⟩ = some (.int .i64 a0_1) := (blk_cell z17_.out 1).trans rfl; have x11_ : x7_.cell? ⟨z11_, 2, none⟩ = some (.slice A0_2 l0_2.length c0_2) := (blk_cell z17_.out 2).trans rfl; have x12_ := blk_frozen z17_.out 0; have x13_ := blk_frozen z17_.out 1; have x14_ := blk_frozen z17_.out 2) | (go_at_call 68; (with_reducible refine (impl_endOf.calls _ _ _ _ _ _ _ _ ?side1 ?side2 y23_.out).mono ?_); (case side1 => repeat (first | exact (Kd.C_below z2_.out HB.out) | (with_reducible refine Kd.C_alloc ?_ _) | (with_reducible refine Kd.C_drewN ?_ _) | (with_reducible refine Kd.C_drew ?_))); (case side2 => exact z3_.out); rintro e x15_ ⟨rfl, hb⟩; have z13_ := Aside0.mk (Kd.R_below (by (with_reducible repeat (first | apply Kd.R_alloc | apply Kd.R_drewN | apply Kd.R_drew)); exact z40_.out) hb); have z14_ := Aside0.mk (Kd.R_below (by (with_reducible repeat (first | apply Kd.R_alloc | apply Kd.R_drewN | apply Kd.R_drew)); exact z41_.out) hb); have z15_ := Aside0.mk (Kd.R_below (by (with_reducible repeat (first | apply Kd.R_alloc | apply Kd.R_drewN | apply Kd.R_drew)); exact z42_.out) hb); have z16_ := Aside0.mk (blk_below (g := z11_) (o := .cells #[.int .i64 a0_0, .int .i64 a0_1, .slice A0_2 l0_2.length c0_2] 34 (0, 0)) (by (with_reducible repeat (first | refine blk_drewN ?_ _ | refine blk_drew ?_ | refine blk_alloc ?_ _)); exact z17_.out) hb); have x8_ := Aside0.mk (below_step (by repeat (first | (with_reducible first | exact HB.out | apply below_alloc | apply pw_below_drewN | apply below_drew1 | refine below_set ?_ z19_.out) | exact HB.out)) hb); clear z40_; clear z41_; clear z42_; clear z17_; clear HB; have z40_ := z13_; have z41_ := z14_; have z42_ := z15_; have z17_ := z16_; have HB := x8_; clear z13_ z14_ z15_ z16_ x8_; (try clear hb); (try clear hb2); (try clear hk); (try clear hi); have x16_ : 0 ≤ (y21_ : Int) := of_decide_eq_true (by first | (with_reducible assumption) | assumption); have x17_ : y21_ < (z4_.length : Int) := of_decide_eq_true (by first | (with_reducible assumption) | assumption); obtain ⟨x18_, x19_, x20_⟩ := Kd.at_int (Kd.R_reads' z40_.out).2.2 y21_ x16_ x17_; obtain rfl : y3_ = x18_ := (by injection x19_); replace x16_ := eq_true x16_; replace x17_ := eq_true x17_; have x21_ : x15_.cell? ⟨z11_, 0, none⟩ = some (.int .i64 a0_0) := (blk_cell z17_.out 0).trans rfl; have x22_ : x15_.cell? ⟨z11_, 1, none⟩ = some (.int .i64 a0_1) := (blk_cell z17_.out 1).trans rfl; have x23_ : x15_.cell? ⟨z11_, 2, none⟩ = some (.slice A0_2 l0_2.length c0_2) := (blk_cell z17_.out 2).trans rfl; have x24_ := blk_frozen z17_.out 0; have x25_ := blk_frozen z17_.out 1; have x26_ := blk_frozen z17_.out 2) | ((with_reducible refine gate_callee (f := 68) rfl ?_); refine goesL_ (some 51) rfl rfl Try.func68 (by kernel_rfl) rfl #[.agg #[.int .i64 a0_0, .int .i64 a0_1, .slice A0_2 l0_2.length c0_2], .int .i64 (wrap64 ((wrap64 (4 * z38_)) + y7_))] rfl (by (try simp only [List.map_toArray, List.map_cons, List.map_nil]); first | done | rfl | (simp only [List.length_drop, List.length_take]; rfl)) ?_; (with_reducible refine (impl_endOf.calls _ _ _ _ _ _ _ _ ?side1 ?side2 y33_.out).mono ?_); (case side1 => repeat (first | exact (Kd.C_below z2_.out HB.out) | (with_reducible refine Kd.C_alloc ?_ _) | (with_reducible refine Kd.C_drewN ?_ _) | (with_reducible refine Kd.C_drew ?_))); (case side2 => exact z3_.out); rintro e x27_ ⟨rfl, hb⟩; refine ⟨_, rfl, ?_⟩; have z13_ := Aside0.mk (Kd.R_below (by (with_reducible repeat (first | apply Kd.R_alloc | apply Kd.R_drewN | apply Kd.R_drew)); exact z40_.out) hb); have z14_ := Aside0.mk (Kd.R_below (by (with_reducible repeat (first | apply Kd.R_alloc | apply Kd.R_drewN | apply Kd.R_drew)); exact z41_.out) hb); have z15_ := Aside0.mk (Kd.R_below (by (with_reducible repeat (first | apply Kd.R_alloc | apply Kd.R_drewN | apply Kd.R_drew)); exact z42_.out) hb); have z16_ := Aside0.mk (blk_below (g := z11_) (o := .cells #[.int .i64 a0_0, .int .i64 a0_1, .slice A0_2 l0_2.length c0_2] 34 (0, 0)) (by (with_reducible repeat (first | refine blk_drewN ?_ _ | refine blk_drew ?_ | refine blk_alloc ?_ _)); exact z17_.out) hb); have x8_ := Aside0.mk (below_step (by repeat (first | (with_reducible first | exact HB.out | apply below_alloc | apply pw_below_drewN | apply below_drew1 | refine below_set ?_ z19_.out) | exact HB.out)) hb); clear z40_; clear z41_; clear z42_; clear z17_; clear HB; have z40_ := z13_; have z41_ := z14_; have z42_ := z15_; have z17_ := z16_; have HB := x8_; clear z13_ z14_ z15_ z16_ x8_; (try clear hb); (try clear hb2); (try clear hk); (try clear hi)) | (go_at_call 68; (with_reducible refine (impl_endOf.calls _ _ _ _ _ _ _ _ ?side1 ?side2 y23_.out).mono ?_); (case side1 => repeat (first | exact (Kd.C_below z2_.out HB.out) | (with_reducible refine Kd.C_alloc ?_ _) | (with_reducible refine Kd.C_drewN ?_ _) | (with_reducible refine Kd.C_drew ?_))); (case side2 => exact z3_.out); rintro e x15_ ⟨rfl, hb⟩; have z13_ := Aside0.mk (Kd.R_below (by (with_reducible repeat (first | apply Kd.R_alloc | apply Kd.R_drewN | apply Kd.R_drew)); exact z40_.out) hb); have z14_ := Aside0.mk (Kd.R_below (by (with_reducible repeat (first | apply Kd.R_alloc | apply Kd.R_drewN | apply Kd.R_drew)); exact z41_.out) hb); have z15_ := Aside0.mk (Kd.R_below (by (with_reducible repeat (first | apply Kd.R_alloc | apply Kd.R_drewN | apply Kd.R_drew)); exact z42_.out) hb); have z16_ := Aside0.mk (blk_below (g := z11_) (o := .cells #[.int .i64 a0_0, .int .i64 a0_1, .slice A0_2 l0_2.length c0_2] 34 (0, 0)) (by (with_reducible repeat (first | refine blk_drewN ?_ _ | refine blk_drew ?_ | refine blk_alloc ?_ _)); exact z17_.out) hb); have x8_ := Aside0.mk (below_step (by repeat (first | (with_reducible first | exact HB.out | apply below_alloc | apply pw_below_drewN | apply below_drew1 | refine below_set ?_ z19_.out) | exact HB.out)) hb); clear z40_; clear z41_; clear z42_; clear z17_; clear HB; have z40_ := z13_; have z41_ := z14_; have z42_ := z15_; have z17_ := z16_; have HB := x8_; clear z13_ z14_ z15_ z16_ x8_; (try clear hb); (try clear hb2); (try clear hk); (try clear hi); have x16_ : 0 ≤ (y21_ : Int) := of_decide_eq_true (by first | (with_reducible assumption) | assumption); have x17_ : y21_ < (z4_.length : Int) := of_decide_eq_true (by first | (with_reducible assumption) | assumption); obtain ⟨x18_, x19_, x20_⟩ := Kd.at_int (Kd.R_reads' z40_.out).2.2 y21_ x16_ x17_; obtain rfl : y3_ = x18_ := (by injection x19_); replace x16_ := eq_true x16_; replace x17_ := eq_true x17_))
                       first
                         | skip
                           go_roundg y14_
                           case measure => have := z39_.out; have := y8_.out; have := y13_.out; omega
                           case rel => exact ⟨(y31_), (wrap64 (y7_ - 1)), (by first | rfl | (simp; done) | (simp [*]; done)), (by first | rfl | (simp; done) | (simp [*]; done)), H', ⟨by have := z39_.out; have := y8_.out; have := y13_.out; omega⟩, ⟨by (with_reducible repeat (first | apply Kd.R_alloc | apply Kd.R_drewN | apply Kd.R_drew)); exact z40_.out⟩, ⟨by (with_reducible repeat (first | apply Kd.R_alloc | apply Kd.R_drewN | apply Kd.R_drew)); exact z41_.out⟩, ⟨by (with_reducible repeat (first | apply Kd.R_alloc | apply Kd.R_drewN | apply Kd.R_drew)); exact z42_.out⟩, ⟨by (with_reducible repeat (first | refine blk_drewN ?_ _ | refine blk_drew ?_ | refine blk_alloc ?_ _)); exact z17_.out⟩, ⟨by repeat (first | (with_reducible first | exact HB.out | apply below_alloc | apply pw_below_drewN | apply below_drew1 | refine below_set ?_ z19_.out) | exact HB.out)⟩⟩
                         | skip
                           go_roundg y14_
                           case measure => have := z39_.out; have := y8_.out; have := y13_.out; omega
                           case rel => exact ⟨(y6_), (wrap64 (y7_ - 1)), (by first | rfl | (simp; done) | (simp [*]; done)), (by first | rfl | (simp; done) | (simp [*]; done)), H', ⟨by have := z39_.out; have := y8_.out; have := y13_.out; omega⟩, ⟨by (with_reducible repeat (first | apply Kd.R_alloc | apply Kd.R_drewN | apply Kd.R_drew)); exact z40_.out⟩, ⟨by (with_reducible repeat (first | apply Kd.R_alloc | apply Kd.R_drewN | apply Kd.R_drew)); exact z41_.out⟩, ⟨by (with_reducible repeat (first | apply Kd.R_alloc | apply Kd.R_drewN | apply Kd.R_drew)); exact z42_.out⟩, ⟨by (with_reducible repeat (first | refine blk_drewN ?_ _ | refine blk_drew ?_ | refine blk_alloc ?_ _)); exact z17_.out⟩, ⟨by repeat (first | (with_reducible first | exact HB.out | apply below_alloc | apply pw_below_drewN | apply below_drew1 | refine below_set ?_ z19_.out) | exact HB.out)⟩⟩
                     | skip
                       go_wp2_with (first | ((with_reducible refine gate_builtin (b := .append) (xs := #[.tmp 52, .tmp 54]) rfl ?_); at_builtin; refine Kd.R_append (Kd.int .i64) (w0 := w) w.heap.size rfl (.tmp 52) (.tmp 54) 24 3 (.int .i64 0) 8 rfl Try.underlying24 info3 rfl (by decide) (by omega) u6 z37_ y6_ [.int .i64 y6_] (fun k_ => some k_ ≠ (.slice (some y3_) z4_.length z35_ : Value).ownBlock ∧ some k_ ≠ (.slice (some y3_) z4_.length z35_ : Value).ownBlock) (fun _ => False) rfl rfl ?aP (fun _ hk => hk.elim) ?aF ?aO ?aB ?aS ?aL ?_; (case aP => exact rfl); (case aB => exact (by repeat (first | (with_reducible first | exact HB.out | apply below_alloc | apply pw_below_drewN | apply below_drew1 | refine below_set ?_ z19_.out) | exact HB.out))); (case aF => exact (fun k_ hk => ⟨Kd.fresh' (Kd.R_lt (by (with_reducible repeat (first | apply Kd.R_alloc | apply Kd.R_drewN | apply Kd.R_drew)); exact z40_.out)) k_ hk, Kd.fresh' (Kd.R_lt (by (with_reducible repeat (first | apply Kd.R_alloc | apply Kd.R_drewN | apply Kd.R_drew)); exact z42_.out)) k_ hk⟩)); (case aO => exact (by (with_reducible repeat (first | apply Kd.R_alloc | apply Kd.R_drewN | apply Kd.R_drew)); exact z41_.out)); (case aS => exact (below_size (by repeat (first | (with_reducible first | exact HB.out | apply below_alloc | apply pw_below_drewN | apply below_drew1 | refine below_set ?_ z19_.out) | exact HB.out)))); (case aL => have := y18_.out; omega); intro x1_ x2_ ho hb hg hat; rw [← y21_.out] at ho; have z13_ := Aside0.mk (Kd.R_after (ok := (fun _ => True)) (by (with_reducible repeat (first | apply Kd.R_alloc | apply Kd.R_drewN | apply Kd.R_drew)); exact Kd.R_mono z40_.out (fun _ hk => ⟨trivial, hk⟩)) hg hat); have z14_ := Aside0.mk (Kd.R_after (ok := (fun _ => True)) (by (with_reducible repeat (first | apply Kd.R_alloc | apply Kd.R_drewN | apply Kd.R_drew)); exact Kd.R_mono z42_.out (fun _ hk => ⟨trivial, hk⟩)) hg hat); have z15_ := Aside0.mk (blk_grown (g := z11_) (o := .cells #[.int .i64 a0_0, .int .i64 a0_1, .slice A0_2 l0_2.length c0_2] 34 (0, 0)) (by (with_reducible repeat (first | refine blk_drewN ?_ _ | refine blk_drew ?_ | refine blk_alloc ?_ _)); exact z17_.out) hg (Kd.R_ne z41_.out z17_.out (by decide))); have z16_ := Aside0.mk (hb); have x3_ := Aside0.mk (ho); clear z40_; clear z42_; clear z17_; clear HB; clear z41_; have z40_ := z13_; have z42_ := z14_; have z17_ := z15_; have HB := z16_; have x4_ := x3_; clear z13_ z14_ z15_ z16_ x3_; clear ho hb hg hat))
                       go_roundg y14_
                       case measure => have := z39_.out; have := y8_.out; have := y13_.out; omega
                       case rel => exact ⟨(y19_), (wrap64 (z38_ + 1)), (by first | rfl | (simp; done) | (simp [*]; done)), H', ⟨by have := z39_.out; have := y8_.out; have := y13_.out; omega⟩, ⟨by (with_reducible repeat (first | apply Kd.R_alloc | apply Kd.R_drewN | apply Kd.R_drew)); exact Kd.R_mono z40_.out (fun _ hk => hk.2)⟩, ⟨by (with_reducible repeat (first | apply Kd.R_alloc | apply Kd.R_drewN | apply Kd.R_drew)); exact x4_.out⟩, ⟨by (with_reducible repeat (first | apply Kd.R_alloc | apply Kd.R_drewN | apply Kd.R_drew)); exact Kd.R_mono z42_.out (fun _ hk => hk.2)⟩, ⟨by (with_reducible repeat (first | refine blk_drewN ?_ _ | refine blk_drew ?_ | refine blk_alloc ?_ _)); exact z17_.out⟩, ⟨by repeat (first | (with_reducible first | exact HB.out | apply below_alloc | apply pw_below_drewN | apply below_drew1 | refine below_set ?_ z19_.out) | exact HB.out)⟩⟩
                     | skip
                       have x1_ : wc.cell? ⟨z11_, 0, none⟩ = some (.int .i64 a0_0) := (blk_cell z17_.out 0).trans rfl
                       have x2_ : wc.cell? ⟨z11_, 1, none⟩ = some (.int .i64 a0_1) := (blk_cell z17_.out 1).trans rfl
                       have x3_ : wc.cell? ⟨z11_, 2, none⟩ = some (.slice A0_2 l0_2.length c0_2) := (blk_cell z17_.out 2).trans rfl
                       have x4_ := blk_frozen z17_.out 0
                       have x5_ := blk_frozen z17_.out 1
                       have x6_ := blk_frozen z17_.out 2
                       go_wp2_with (first | ((with_reducible refine gate_callee (f := 67) rfl ?_); refine goesL_ (some 37) rfl rfl Try.func67 (by kernel_rfl) rfl #[.agg #[.int .i64 a0_0, .int .i64 a0_1, .slice A0_2 l0_2.length c0_2], .int .i64 (wrap64 ((wrap64 (4 * z38_)) + y7_))] rfl (by (try simp only [List.map_toArray, List.map_cons, List.map_nil]); first | done | rfl | (simp only [List.length_drop, List.length_take]; rfl)) ?_; (with_reducible refine (impl_IsLink.calls _ _ _ _ _ _ _ _ _ ?side1 ?side2 y19_.out).mono ?_); (case side1 => repeat (first | exact (Kd.C_below z2_.out HB.out) | (with_reducible refine Kd.C_alloc ?_ _) | (with_reducible refine Kd.C_drewN ?_ _) | (with_reducible refine Kd.C_drew ?_))); (case side2 => exact z3_.out); rintro e x7_ ⟨rfl, hb⟩; refine ⟨_, rfl, ?_⟩; have z13_ := Aside0.mk (Kd.R_below (by (with_reducible repeat (first | apply Kd.R_alloc | apply Kd.R_drewN | apply Kd.R_drew)); exact z40_.out) hb); have z14_ := Aside0.mk (Kd.R_below (by (with_reducible repeat (first | apply Kd.R_alloc | apply Kd.R_drewN | apply Kd.R_drew)); exact z41_.out) hb); have z15_ := Aside0.mk (Kd.R_below (by (with_reducible repeat (first | apply Kd.R_alloc | apply Kd.R_drewN | apply Kd.R_drew)); exact z42_.out) hb); have z16_ := Aside0.mk (blk_below (g := z11_) (o := .cells #[.int .i64 a0_0, .int .i64 a0_1, .slice A0_2 l0_2.length c0_2] 34 (0, 0)) (by (with_reducible repeat (first | refine blk_drewN ?_ _ | refine blk_drew ?_ | refine blk_alloc ?_ _)); exact z17_.out) hb); have x8_ := Aside0.mk (below_step (by repeat (first | (with_reducible first | exact HB.out | apply below_alloc | apply pw_below_drewN | apply below_drew1 | refine below_set ?_ z19_.out) | exact HB.out)) hb); clear z40_; clear z41_; clear z42_; clear z17_; clear HB; have z40_ := z13_; have z41_ := z14_; have z42_ := z15_; have z17_ := z16_; have HB := x8_; clear z13_ z14_ z15_ z16_ x8_; (try clear hb); (try clear hb2); (try clear hk); (try clear hi)))
                       go_roundg y14_
                       case measure => have := z39_.out; have := y8_.out; have := y13_.out; omega
                       case rel => exact ⟨(y6_), (wrap64 (y7_ - 1)), (by first | rfl | (simp; done) | (simp [*]; done)), (by first | rfl | (simp; done) | (simp [*]; done)), H', ⟨by have := z39_.out; have := y8_.out; have := y13_.out; omega⟩, ⟨by (with_reducible repeat (first | apply Kd.R_alloc | apply Kd.R_drewN | apply Kd.R_drew)); exact z40_.out⟩, ⟨by (with_reducible repeat (first | apply Kd.R_alloc | apply Kd.R_drewN | apply Kd.R_drew)); exact z41_.out⟩, ⟨by (with_reducible repeat (first | apply Kd.R_alloc | apply Kd.R_drewN | apply Kd.R_drew)); exact z42_.out⟩, ⟨by (with_reducible repeat (first | refine blk_drewN ?_ _ | refine blk_drew ?_ | refine blk_alloc ?_ _)); exact z17_.out⟩, ⟨by repeat (first | (with_reducible first | exact HB.out | apply below_alloc | apply pw_below_drewN | apply below_drew1 | refine below_set ?_ z19_.out) | exact HB.out)⟩⟩
         · rw [if_neg z48_] at H
           exact absurd H (by simp)
       · rw [if_neg z46_] at H
         exact absurd H (by simp)
     · rw [if_neg z44_] at H
       have z45_ : decide (z38_ < (z4_.length : Int)) = false := decide_eq_false z44_
       clear z44_
       obtain rfl := Option.some.inj H
       go_wp2
       go_ret
       exact ⟨_, by first | rfl | (simp [errW_none, errW_some] <;> rfl) | (simp [*, errW_none, errW_some] <;> rfl), by (with_reducible repeat (first | apply Kd.R_alloc | apply Kd.R_drewN | apply Kd.R_drew)); exact Kd.R_mono z41_.out (fun _ hk => trivial), by repeat (first | (with_reducible first | exact HB.out | apply below_alloc | apply pw_below_drewN | apply below_drew1 | refine below_set ?_ z19_.out) | exact HB.out)⟩
end Go.Proofs.Ytkkoenbmokbglaa.F
end
section
namespace Go.Proofs.Ytkkoenbmokbglaa.F
open Go.RowKit Go.Proofs.YtkkoenbmokbglaaW.PrintWords Go.Proofs.YtkkoenbmokbglaaW.PrintLast Go.Proofs.YtkkoenbmokbglaaW.PrintMore
set_option linter.unusedVariables false
set_option linter.unusedSimpArgs false
mutual
def impl_AncestorsOf.l0 : Nat → List Int → List Int → Int → Option (List Int)
  | 0, _, _, _ => none
  | k + 1, x0, x5, x6 => if x6 = (-1) then (impl_AncestorsOf.j1 k x0 x5 x6 ((x5.length : Int) == 0)) else (impl_AncestorsOf.j1 k x0 x5 x6 true)
def impl_AncestorsOf.j1 : Nat → List Int → List Int → Int → Bool → Option (List Int)
  | 0, _, _, _, _ => none
  | k + 1, x0, x5, x6, x15 => if x15 = true then ((impl_inside.f x6 0 (wrap64 ((x0.length : Int) - 1))).bind fun t104 => (if t104 = true then (if (x5.length : Int) = (x0.length : Int) then (some ([] : List Int)) else (if x5.length < 17592186044416 then (if 0 ≤ x6 then (if x6 < (x0.length : Int) then (impl_AncestorsOf.l0 k x0 (x5 ++ [x6]) (rd x0 x6)) else (none)) else (none)) else (none))) else (some ([] : List Int)))) else (some x5)
end
def impl_AncestorsOf.f (k : Nat) (l0 : List Int) (a1 : Int) : Option (List Int) := impl_AncestorsOf.l0 k l0 (([] : List Int)) a1
set_option maxHeartbeats 8000000 in
set_option maxRecDepth 100000 in
theorem impl_AncestorsOf.calls (k : Nat) (A0 : Option Addr) (c0 : Nat) (l0 : List Int) (a1 : Int) (r : List Int) (w : World) (hr0 : Kd.C (Kd.int .i64) w A0 l0.length l0) (hc0 : l0.length ≤ c0) (h : impl_AncestorsOf.f k l0 a1 = some r) :
    Calls Try.prog 38 #[.slice A0 l0.length c0, .int .i64 a1] w fun e w' => ∃ v0_ : Value, e = .returned (v0_) ∧ Kd.R (Kd.int .i64) 3 w' w.heap.size (fun _ => True) v0_ r ∧ Below w.heap.size w w' := by
 have z1_ := Aside0.mk hr0
 have z2_ := Aside0.mk hc0
 clear hr0 hc0
 have HB := Aside0.mk (Below.refl w.heap.size w)
 have H : (impl_AncestorsOf.l0 k l0 (([] : List Int)) a1) = some r := h
 clear h
 obtain ⟨z3_, z4_⟩ : ∃ y_ : List Int, y_ = (([] : List Int)) := ⟨_, rfl⟩
 replace H : (impl_AncestorsOf.l0 k l0 z3_ a1) = some r := by first | (rw [z4_]; with_reducible exact H) | (have z5_ := (Option.bind_some _ _).symm.trans H; rw [z4_]; with_reducible exact z5_) | (have z5_ := (Option.bind_some _ _).symm.trans H; with_reducible exact z5_) | with_reducible exact H | (rw [z4_]; exact H) | exact H
 have z6_ := Aside0.mk z4_
 clear z4_
 have H' := Aside0.mk H
 clear H
 go_enter Try.func38, Try.ntmps38
 go_wp2_with (first | ((with_reducible refine gate_dst (N := 7) rfl ?_); (try (refine gate_guard (by rfl) ?_; dsimp only)); refine Kd.R_lit (Kd.int .i64) _ 3 ?hg (N := 7) ?hd (xs := ([] : List Int)) (inner := []) (ok := fun _ => True) (okp := fun _ => True) ?hr ?hp (fun _ hk => hk) trivial (Below.refl _ _) (Nat.le_refl _) (by simp) ?_; (case hd => rfl); (case hg => rfl); (case hr => first | (go_simp; done) | (go_simp; rfl)); (case hp => exact (Reps.none _ _)); intro z7_ z8_ z9_ hb hg_ hnew_; clear hg_ hnew_; (first | rw [← z6_.out] at z9_ | (simp only [Int.reduceToNat] at z9_; rw [← z6_.out] at z9_)); have z10_ := Aside0.mk (Kd.R_lower z9_ (below_size (by repeat (first | (with_reducible first | exact HB.out | apply below_alloc | apply pw_below_drewN | apply below_drew1) | exact HB.out)))); have z11_ := Aside0.mk (below_step (by repeat (first | (with_reducible first | exact HB.out | apply below_alloc | apply pw_below_drewN | apply below_drew1) | exact HB.out)) hb); clear HB; have z12_ := z10_; have HB := z11_; clear z10_ z11_; clear hb z9_))
 go_loopg [5, 6] k (fun kq v5 v6 w' => ∃ (x5_1 : List Int) (x6_1 : Int), v6 = .int .i64 x6_1 ∧ Aside0 (impl_AncestorsOf.l0 kq l0 x5_1 x6_1 = some r) ∧ Aside0 (kq ≤ k) ∧ Aside0 (Kd.R (Kd.int .i64) 3 w' w.heap.size (fun _ => True) v5 x5_1) ∧ Aside0 (Below w.heap.size w w'))
 case atStart => exact ⟨(z3_), (a1), (by first | rfl | (simp; done) | (simp [*]; done)), H', ⟨Nat.le_refl _⟩, ⟨by (with_reducible repeat (first | apply Kd.R_alloc | apply Kd.R_drewN | apply Kd.R_drew)); exact z12_.out⟩, ⟨by repeat (first | (with_reducible first | exact HB.out | apply below_alloc | apply pw_below_drewN | apply below_drew1) | exact HB.out)⟩⟩
 case round =>
   clear H'
   try clear p2
   try clear c3
   obtain ⟨z13_, z14_, rfl, HA, z15_, z16_, HB⟩ := hrel
   cases gk with
   | zero => exact absurd HA.out (by simp [impl_AncestorsOf.l0])
   | succ z17_ =>
     have H := HA.out
     clear HA
     simp only [impl_AncestorsOf.l0] at H
     have z18_ := Aside0.mk H
     clear H
     go_upto_region 3 with (fail)
     go_cut [15] (fun v15 wc => ∃ (kq : Nat) (x15_4 : Bool), v15 = .bool x15_4 ∧ Aside0 (impl_AncestorsOf.j1 kq l0 z13_ z14_ x15_4 = some r) ∧ Aside0 (kq ≤ z17_) ∧ Aside0 (Kd.R (Kd.int .i64) 3 wc w.heap.size (fun _ => True) u5 z13_) ∧ Aside0 (Below w.heap.size w wc))
     case first =>
       have H := z18_.out
       clear z18_
       by_cases z19_ : z14_ = (-1)
       · rw [if_pos z19_] at H
         have z20_ : (z14_ == (-1)) = true := beq_iff_eq.mpr z19_
         have z21_ : (z14_ != (-1)) = false := bne_eq_false_iff_eq.mpr z19_
         clear z19_
         (first | rw [z20_] | (simp only [i64_w, i32_w]; rw [z20_]) | skip)
         have H' := Aside0.mk H
         clear H
         obtain ⟨y1_, y2_, y3_⟩ := Kd.R_slice z16_.out
         subst y3_
         go_wp2
         go_meet
         case rel => exact ⟨_, (((z13_.length : Int) == 0)), (by first | rfl | (simp; done) | (simp [*]; done)), H', ⟨by have := z15_.out; first | omega | exact Nat.le_refl _⟩, ⟨by (with_reducible repeat (first | apply Kd.R_alloc | apply Kd.R_drewN | apply Kd.R_drew)); exact z16_.out⟩, ⟨by repeat (first | (with_reducible first | exact HB.out | apply below_alloc | apply pw_below_drewN | apply below_drew1) | exact HB.out)⟩⟩
       · rw [if_neg z19_] at H
         have z20_ : (z14_ == (-1)) = false := beq_eq_false_iff_ne.mpr z19_
         have z21_ : (z14_ != (-1)) = true := bne_iff_ne.mpr z19_
         (first | rw [z20_] | (simp only [i64_w, i32_w]; rw [z20_]) | skip)
         have H' := Aside0.mk H
         clear H
         go_wp2
         go_meet
         case rel => exact ⟨_, (true), (by first | rfl | (simp; done) | (simp [*]; done)), H', ⟨by have := z15_.out; first | omega | exact Nat.le_refl _⟩, ⟨by (with_reducible repeat (first | apply Kd.R_alloc | apply Kd.R_drewN | apply Kd.R_drew)); exact z16_.out⟩, ⟨by repeat (first | (with_reducible first | exact HB.out | apply below_alloc | apply pw_below_drewN | apply below_drew1) | exact HB.out)⟩⟩
     case rest =>
       clear z18_
       try clear p2
       try clear c3
       try clear z19_
       try clear c6b0
       try clear c6b1
       try clear p2
       obtain ⟨kq, z20_, rfl, HA, z21_, z16_, HB⟩ := hcut
       cases kq with
       | zero => exact absurd HA.out (by simp [impl_AncestorsOf.j1])
       | succ z22_ =>
         have H := HA.out
         clear HA
         simp only [impl_AncestorsOf.j1] at H
         by_cases z23_ : z20_ = true
         focus
           subst z23_
           have z24_ : ((impl_inside.f z14_ 0 (wrap64 ((l0.length : Int) - 1))).bind fun t104 => (if t104 = true then (if (z13_.length : Int) = (l0.length : Int) then (some ([] : List Int)) else (if z13_.length < 17592186044416 then (if 0 ≤ z14_ then (if z14_ < (l0.length : Int) then (impl_AncestorsOf.l0 z22_ l0 (z13_ ++ [z14_]) (rd l0 z14_)) else (none)) else (none)) else (none))) else (some ([] : List Int)))) = some r := by rw [if_pos rfl] at H; exact H
           clear H
           have H := z24_
           clear z24_
           replace H := Option.bind_eq_some_iff.mp H
           obtain ⟨z25_, z26_, H⟩ := H
           replace H : (if z25_ = true then (if (z13_.length : Int) = (l0.length : Int) then (some ([] : List Int)) else (if z13_.length < 17592186044416 then (if 0 ≤ z14_ then (if z14_ < (l0.length : Int) then (impl_AncestorsOf.l0 z22_ l0 (z13_ ++ [z14_]) (rd l0 z14_)) else (none)) else (none)) else (none))) else (some ([] : List Int))) = some r := H
           have z27_ := Aside0.mk z26_
           clear z26_
           by_cases z28_ : z25_ = true
           focus
             subst z28_
             have z24_ : (if (z13_.length : Int) = (l0.length : Int) then (some ([] : List Int)) else (if z13_.length < 17592186044416 then (if 0 ≤ z14_ then (if z14_ < (l0.length : Int) then (impl_AncestorsOf.l0 z22_ l0 (z13_ ++ [z14_]) (rd l0 z14_)) else (none)) else (none)) else (none))) = some r := by rw [if_pos rfl] at H; exact H
             clear H
             have H := z24_
             clear z24_
             by_cases z29_ : (z13_.length : Int) = (l0.length : Int)
             focus
               rw [if_pos z29_] at H
               have z30_ : ((z13_.length : Int) == (l0.length : Int)) = true := beq_iff_eq.mpr z29_
               have z31_ : ((z13_.length : Int) != (l0.length : Int)) = false := bne_eq_false_iff_eq.mpr z29_
               have z32_ : (z13_.length == l0.length) = true := by first | simpa using z29_ | (simp at z29_ ⊢; omega)
               clear z29_
               obtain rfl := Option.some.inj H
             rotate_left
             focus
               rw [if_neg z29_] at H
               have z30_ : ((z13_.length : Int) == (l0.length : Int)) = false := beq_eq_false_iff_ne.mpr z29_
               have z31_ : ((z13_.length : Int) != (l0.length : Int)) = true := bne_iff_ne.mpr z29_
               have z32_ : (z13_.length == l0.length) = false := by first | simpa using z29_ | (simp at z29_ ⊢; omega)
               by_cases z33_ : z13_.length < 17592186044416
               focus
                 rw [if_pos z33_] at H
                 have z34_ := Aside0.mk z33_
                 clear z33_
                 obtain ⟨z35_, z36_⟩ : ∃ y_ : List Int, y_ = (z13_ ++ [z14_]) := ⟨_, rfl⟩
                 replace H : (if 0 ≤ z14_ then (if z14_ < (l0.length : Int) then (impl_AncestorsOf.l0 z22_ l0 z35_ (rd l0 z14_)) else (none)) else (none)) = some r := by first | (rw [z36_]; with_reducible exact H) | (have z5_ := (Option.bind_some _ _).symm.trans H; rw [z36_]; with_reducible exact z5_) | (have z5_ := (Option.bind_some _ _).symm.trans H; with_reducible exact z5_) | with_reducible exact H | (rw [z36_]; exact H) | exact H
                 have z37_ := Aside0.mk z36_
                 clear z36_
                 by_cases z38_ : 0 ≤ z14_
                 focus
                   rw [if_pos z38_] at H
                   have z39_ : decide (0 ≤ z14_) = true := decide_eq_true z38_
                   clear z38_
                   by_cases z40_ : z14_ < (l0.length : Int)
                   focus
                     rw [if_pos z40_] at H
                     have z41_ : decide (z14_ < (l0.length : Int)) = true := decide_eq_true z40_
                     clear z40_
                     have H' := Aside0.mk H
                     clear H
                   rotate_left
                   · rw [if_neg z40_] at H
                     exact absurd H (by simp)
                 rotate_left
                 · rw [if_neg z38_] at H
                   exact absurd H (by simp)
               rotate_left
               · rw [if_neg z33_] at H
                 exact absurd H (by simp)
           rotate_left 2
           focus
             replace z28_ := Bool.eq_false_iff.mpr z28_
             subst z28_
             have z24_ : (some ([] : List Int)) = some r := by rw [if_neg (show ¬ (false = true) by decide)] at H; exact H
             clear H
             have H := z24_
             clear z24_
             obtain rfl := Option.some.inj H
         rotate_left 3
         focus
           replace z23_ := Bool.eq_false_iff.mpr z23_
           subst z23_
           have z24_ : (some z13_) = some r := by rw [if_neg (show ¬ (false = true) by decide)] at H; exact H
           clear H
           have H := z24_
           clear z24_
           obtain rfl := Option.some.inj H
         all_goals first
           | skip
             go_wp2_with (first | ((with_reducible refine gate_callee (f := 77) rfl ?_); refine goesL_ (some 24) rfl rfl Try.func77 (by kernel_rfl) rfl #[.int .i64 z14_, .int .i64 0, .int .i64 (wrap64 ((l0.length : Int) - 1))] rfl (by (try simp only [List.map_toArray, List.map_cons, List.map_nil]); first | done | rfl | (simp only [List.length_drop, List.length_take]; rfl)) ?_; (with_reducible refine (impl_inside.calls _ _ _ _ _ z27_.out).mono ?_); rintro e w' ⟨rfl, ⟨nd, rfl⟩⟩; refine ⟨_, rfl, ?_⟩; obtain ⟨y1_, y2_, y3_⟩ := Kd.R_slice z16_.out; subst y3_) | ((with_reducible refine gate_builtin (b := .append) (xs := #[.tmp 33, .tmp 35]) rfl ?_); (try (refine gate_guard (by rfl) ?_; dsimp only)); at_builtin; refine Kd.R_append (Kd.int .i64) (w0 := w) w.heap.size rfl (.tmp 33) (.tmp 35) 24 3 (.int .i64 0) 8 rfl Try.underlying24 info3 rfl (by decide) (by omega) (.slice y1_ z13_.length y2_) z13_ z14_ [.int .i64 z14_] (fun _ => True) (fun _ => False) rfl rfl ?aP (fun _ hk => hk.elim) ?aF ?aO ?aB ?aS ?aL ?_; (case aP => exact rfl); (case aB => exact (by repeat (first | (with_reducible first | exact HB.out | apply below_alloc | apply pw_below_drewN | apply below_drew1) | exact HB.out))); (case aF => exact (fun _ _ => trivial)); (case aO => exact (by (with_reducible repeat (first | apply Kd.R_alloc | apply Kd.R_drewN | apply Kd.R_drew)); exact z16_.out)); (case aS => exact (below_size (by repeat (first | (with_reducible first | exact HB.out | apply below_alloc | apply pw_below_drewN | apply below_drew1) | exact HB.out)))); (case aL => have := z34_.out; omega); intro y4_ y5_ ho hb hg hat; rw [← z37_.out] at ho; have z10_ := Aside0.mk (hb); have z11_ := Aside0.mk (ho); clear HB; clear z16_; have HB := z10_; have y6_ := z11_; clear z10_ z11_; clear ho hb hg hat; have y7_ : 0 ≤ (z14_ : Int) := of_decide_eq_true (by first | (with_reducible assumption) | assumption); have y8_ : z14_ < (l0.length : Int) := of_decide_eq_true (by first | (with_reducible assumption) | assumption); obtain ⟨y9_, y10_, y11_⟩ := Kd.at_int z1_.out z14_ y7_ y8_; cases y10_; replace y11_ := (HB.out.cell (World.block_lt_of_cell? w _ y11_)).trans y11_; replace y7_ := eq_true y7_; replace y8_ := eq_true y8_))
             first
               | skip
                 go_ret
                 exact ⟨_, by first | rfl | (simp [errW_none, errW_some] <;> rfl) | (simp [*, errW_none, errW_some] <;> rfl), by first | exact Kd.R_nil _ _ _ _ _ | exact Kd.N_nil _ _ _ _ _ | exact Kd.V_nil _ _ _ _ _ | exact Kd.Q_nil _ _ _ _ _ | exact Kd.S_nil _ _ _ _ _, by repeat (first | (with_reducible first | exact HB.out | apply below_alloc | apply pw_below_drewN | apply below_drew1) | exact HB.out)⟩
               | skip
                 go_roundg z22_
                 case measure => have := z15_.out; have := z21_.out; omega
                 case rel => exact ⟨(z35_), (rd l0 z14_), (by first | rfl | (simp; done) | (simp [*]; done)), H', ⟨by have := z15_.out; have := z21_.out; omega⟩, ⟨by (with_reducible repeat (first | apply Kd.R_alloc | apply Kd.R_drewN | apply Kd.R_drew)); exact y6_.out⟩, ⟨by repeat (first | (with_reducible first | exact HB.out | apply below_alloc | apply pw_below_drewN | apply below_drew1) | exact HB.out)⟩⟩
           | skip
             go_wp2_with (first | ((with_reducible refine gate_callee (f := 77) rfl ?_); refine goesL_ (some 24) rfl rfl Try.func77 (by kernel_rfl) rfl #[.int .i64 z14_, .int .i64 0, .int .i64 (wrap64 ((l0.length : Int) - 1))] rfl (by (try simp only [List.map_toArray, List.map_cons, List.map_nil]); first | done | rfl | (simp only [List.length_drop, List.length_take]; rfl)) ?_; (with_reducible refine (impl_inside.calls _ _ _ _ _ z27_.out).mono ?_); rintro e w' ⟨rfl, ⟨nd, rfl⟩⟩; refine ⟨_, rfl, ?_⟩))
             go_ret
             exact ⟨_, by first | rfl | (simp [errW_none, errW_some] <;> rfl) | (simp [*, errW_none, errW_some] <;> rfl), by first | exact Kd.R_nil _ _ _ _ _ | exact Kd.N_nil _ _ _ _ _ | exact Kd.V_nil _ _ _ _ _ | exact Kd.Q_nil _ _ _ _ _ | exact Kd.S_nil _ _ _ _ _, by repeat (first | (with_reducible first | exact HB.out | apply below_alloc | apply pw_below_drewN | apply below_drew1) | exact HB.out)⟩
           | skip
             go_wp2
             go_ret
             exact ⟨_, by first | rfl | (simp [errW_none, errW_some] <;> rfl) | (simp [*, errW_none, errW_some] <;> rfl), by (with_reducible repeat (first | apply Kd.R_alloc | apply Kd.R_drewN | apply Kd.R_drew)); exact z16_.out, by repeat (first | (with_reducible first | exact HB.out | apply below_alloc | apply pw_below_drewN | apply below_drew1) | exact HB.out)⟩
end Go.Proofs.Ytkkoenbmokbglaa.F
end
section
namespace Go.Proofs.Ytkkoenbmokbglaa.F
open Go.RowKit Go.Proofs.YtkkoenbmokbglaaW.PrintWords Go.Proofs.YtkkoenbmokbglaaW.PrintLast Go.Proofs.YtkkoenbmokbglaaW.PrintMore
set_option linter.unusedVariables false
set_option linter.unusedSimpArgs false
def impl_CommonAncestor.l0 : Nat → List Int → List Int → Int → Int → Option (Int)
  | 0, _, _, _, _ => none
  | k + 1, x7, x15, x16, x17 => if x17 < x16 then (if 0 ≤ x17 then (if x17 < (x15.length : Int) then ((slices_Contains_int_int.f k x7 (rd x15 x17)).bind fun t108 => (if t108 = true then (some (rd x15 x17)) else (impl_CommonAncestor.l0 k x7 x15 x16 (wrap64 (x17 + 1))))) else (none)) else (none)) else (some (-1))
def impl_CommonAncestor.f (k : Nat) (l0 : List Int) (a1 : Int) (a2 : Int) : Option (Int) := (impl_AncestorsOf.f k l0 a2).bind fun t101 => ((impl_AncestorsOf.f k l0 a1).bind fun t104 => (impl_CommonAncestor.l0 k t101 t104 (t104.length : Int) 0))
set_option maxHeartbeats 8000000 in
set_option maxRecDepth 100000 in
theorem impl_CommonAncestor.calls (k : Nat) (A0 : Option Addr) (c0 : Nat) (l0 : List Int) (a1 : Int) (a2 : Int) (r : Int) (w : World) (hr0 : Kd.C (Kd.int .i64) w A0 l0.length l0) (hc0 : l0.length ≤ c0) (h : impl_CommonAncestor.f k l0 a1 a2 = some r) :
    Calls Try.prog 35 #[.slice A0 l0.length c0, .int .i64 a1, .int .i64 a2] w fun e w' => e = .returned (.int .i64 r) ∧ Below w.heap.size w w' := by
 have z1_ := Aside0.mk hr0
 have z2_ := Aside0.mk hc0
 clear hr0 hc0
 have HB := Aside0.mk (Below.refl w.heap.size w)
 have H : ((impl_AncestorsOf.f k l0 a2).bind fun t101 => ((impl_AncestorsOf.f k l0 a1).bind fun t104 => (impl_CommonAncestor.l0 k t101 t104 (t104.length : Int) 0))) = some r := h
 clear h
 replace H := Option.bind_eq_some_iff.mp H
 obtain ⟨z3_, z4_, H⟩ := H
 replace H : ((impl_AncestorsOf.f k l0 a1).bind fun t104 => (impl_CommonAncestor.l0 k z3_ t104 (t104.length : Int) 0)) = some r := H
 have z5_ := Aside0.mk z4_
 clear z4_
 replace H := Option.bind_eq_some_iff.mp H
 obtain ⟨z6_, z7_, H⟩ := H
 replace H : (impl_CommonAncestor.l0 k z3_ z6_ (z6_.length : Int) 0) = some r := H
 have z8_ := Aside0.mk z7_
 clear z7_
 have H' := Aside0.mk H
 clear H
 go_enter Try.func35, Try.ntmps35
 go_wp2_with (first | ((with_reducible refine gate_callee (f := 38) rfl ?_); refine goesL_ (some 12) rfl rfl Try.func38 (by kernel_rfl) rfl #[.slice A0 l0.length c0, .int .i64 a2] rfl (by (try simp only [List.map_toArray, List.map_cons, List.map_nil]); first | done | rfl | (simp only [List.length_drop, List.length_take]; rfl)) ?_; (with_reducible refine (impl_AncestorsOf.calls _ _ _ _ _ _ _ ?side1 ?side2 z5_.out).mono ?_); (case side1 => repeat (first | exact z1_.out | (with_reducible refine Kd.C_alloc ?_ _) | (with_reducible refine Kd.C_drewN ?_ _) | (with_reducible refine Kd.C_drew ?_))); (case side2 => exact z2_.out); rintro e z9_ ⟨z10_, rfl, z11_, hb⟩; refine ⟨_, rfl, ?_⟩; have z12_ := Aside0.mk (Kd.R_lower z11_ (below_size (by repeat (first | (with_reducible first | exact HB.out | apply below_alloc | apply pw_below_drewN | apply below_drew1) | exact HB.out)))); have z13_ := Aside0.mk (below_step (by repeat (first | (with_reducible first | exact HB.out | apply below_alloc | apply pw_below_drewN | apply below_drew1) | exact HB.out)) hb); clear HB; have z14_ := z12_; have HB := z13_; clear z12_ z13_; (try clear hb); (try clear hb2); (try clear hk); (try clear hi); (try clear z11_)) | ((with_reducible refine gate_callee (f := 38) rfl ?_); refine goesL_ (some 15) rfl rfl Try.func38 (by kernel_rfl) rfl #[.slice A0 l0.length c0, .int .i64 a1] rfl (by (try simp only [List.map_toArray, List.map_cons, List.map_nil]); first | done | rfl | (simp only [List.length_drop, List.length_take]; rfl)) ?_; (with_reducible refine (impl_AncestorsOf.calls _ _ _ _ _ _ _ ?side1 ?side2 z8_.out).mono ?_); (case side1 => repeat (first | exact (Kd.C_below z1_.out HB.out) | (with_reducible refine Kd.C_alloc ?_ _) | (with_reducible refine Kd.C_drewN ?_ _) | (with_reducible refine Kd.C_drew ?_))); (case side2 => exact z2_.out); rintro e z15_ ⟨z16_, rfl, z11_, hb⟩; refine ⟨_, rfl, ?_⟩; have z12_ := Aside0.mk (Kd.R_elder' (by (with_reducible repeat (first | apply Kd.R_alloc | apply Kd.R_drewN | apply Kd.R_drew)); exact z14_.out) (Kd.R_base z11_) hb); have z13_ := Aside0.mk (Kd.R_lower (Kd.R_new' z11_ (Kd.R_lt (by (with_reducible repeat (first | apply Kd.R_alloc | apply Kd.R_drewN | apply Kd.R_drew)); exact z14_.out))) (below_size (by repeat (first | (with_reducible first | exact HB.out | apply below_alloc | apply pw_below_drewN | apply below_drew1) | exact HB.out)))); have z17_ := Aside0.mk (below_step (by repeat (first | (with_reducible first | exact HB.out | apply below_alloc | apply pw_below_drewN | apply below_drew1) | exact HB.out)) hb); clear z14_; clear HB; have z14_ := z12_; have z18_ := z13_; have HB := z17_; clear z12_ z13_ z17_; (try clear hb); (try clear hb2); (try clear hk); (try clear hi); (try clear z11_); obtain ⟨z19_, z20_, z21_⟩ := Kd.R_slice z18_.out; subst z21_))
 go_loopg [17] k (fun kq v17 w' => ∃ (x17_1 : Int), v17 = .int .i64 x17_1 ∧ Aside0 (impl_CommonAncestor.l0 kq z3_ z6_ (z6_.length : Int) x17_1 = some r) ∧ Aside0 (kq ≤ k) ∧ Aside0 (Kd.R (Kd.int .i64) 3 w' w.heap.size (fun k_ => some k_ ≠ ((.slice z19_ z6_.length z20_) : Value).ownBlock) z10_ z3_) ∧ Aside0 (Kd.R (Kd.int .i64) 3 w' w.heap.size (fun k_ => some k_ ≠ (z10_ : Value).ownBlock) (.slice z19_ z6_.length z20_) z6_) ∧ Aside0 (Below w.heap.size w w'))
 case atStart => exact ⟨(0), (by first | rfl | (simp; done) | (simp [*]; done)), H', ⟨Nat.le_refl _⟩, ⟨by (with_reducible repeat (first | apply Kd.R_alloc | apply Kd.R_drewN | apply Kd.R_drew)); exact Kd.R_mono z14_.out (fun _ hk => hk.2)⟩, ⟨by (with_reducible repeat (first | apply Kd.R_alloc | apply Kd.R_drewN | apply Kd.R_drew)); exact Kd.R_mono z18_.out (fun _ hk => hk.2)⟩, ⟨by repeat (first | (with_reducible first | exact HB.out | apply below_alloc | apply pw_below_drewN | apply below_drew1) | exact HB.out)⟩⟩
 case round =>
   clear H'
   try clear p2
   try clear c3
   obtain ⟨z22_, rfl, HA, z23_, z24_, z25_, HB⟩ := hrel
   cases gk with
   | zero => exact absurd HA.out (by simp [impl_CommonAncestor.l0])
   | succ z26_ =>
     have H := HA.out
     clear HA
     simp only [impl_CommonAncestor.l0] at H
     by_cases z27_ : z22_ < (z6_.length : Int)
     focus
       rw [if_pos z27_] at H
       have z28_ : decide (z22_ < (z6_.length : Int)) = true := decide_eq_true z27_
       clear z27_
       by_cases z29_ : 0 ≤ z22_
       focus
         rw [if_pos z29_] at H
         have z30_ : decide (0 ≤ z22_) = true := decide_eq_true z29_
         clear z29_
         by_cases z31_ : z22_ < (z6_.length : Int)
         focus
           rw [if_pos z31_] at H
           have z32_ : decide (z22_ < (z6_.length : Int)) = true := decide_eq_true z31_
           clear z31_
           replace H := Option.bind_eq_some_iff.mp H
           obtain ⟨z33_, z34_, H⟩ := H
           replace H : (if z33_ = true then (some (rd z6_ z22_)) else (impl_CommonAncestor.l0 z26_ z3_ z6_ (z6_.length : Int) (wrap64 (z22_ + 1)))) = some r := H
           have z35_ := Aside0.mk z34_
           clear z34_
           by_cases z36_ : z33_ = true
           focus
             subst z36_
             have z37_ : (some (rd z6_ z22_)) = some r := by rw [if_pos rfl] at H; exact H
             clear H
             have H := z37_
             clear z37_
             obtain rfl := Option.some.inj H
           rotate_left
           focus
             replace z36_ := Bool.eq_false_iff.mpr z36_
             subst z36_
             have z37_ : (impl_CommonAncestor.l0 z26_ z3_ z6_ (z6_.length : Int) (wrap64 (z22_ + 1))) = some r := by rw [if_neg (show ¬ (false = true) by decide)] at H; exact H
             clear H
             have H := z37_
             clear z37_
             have H' := Aside0.mk H
             clear H
         rotate_left 2
         · rw [if_neg z31_] at H
           exact absurd H (by simp)
       rotate_left 2
       · rw [if_neg z29_] at H
         exact absurd H (by simp)
     rotate_left 2
     focus
       rw [if_neg z27_] at H
       have z28_ : decide (z22_ < (z6_.length : Int)) = false := decide_eq_false z27_
       clear z27_
       obtain rfl := Option.some.inj H
     all_goals first
       | skip
         have y1_ : 0 ≤ (z22_ : Int) := of_decide_eq_true (by first | (with_reducible assumption) | assumption)
         have y2_ : z22_ < (z6_.length : Int) := of_decide_eq_true (by first | (with_reducible assumption) | assumption)
         obtain ⟨y3_, y4_, y5_⟩ := Kd.at_int (Kd.R_reads' z25_.out).2.2 z22_ y1_ y2_
         cases y4_
         replace y1_ := eq_true y1_
         replace y2_ := eq_true y2_
         obtain ⟨y6_, y7_, y8_⟩ := Kd.R_slice z24_.out
         subst y8_
         go_wp2_with (first | ((with_reducible refine gate_callee (f := 76) rfl ?_); refine goesL_ (some 23) rfl rfl Try.func76 (by kernel_rfl) rfl #[.slice y6_ z3_.length y7_, .int .i64 (rd z6_ z22_)] rfl (by (try simp only [List.map_toArray, List.map_cons, List.map_nil]); first | done | rfl | (simp only [List.length_drop, List.length_take]; rfl)) ?_; (with_reducible refine (slices_Contains_int_int.calls _ _ _ _ _ _ _ ?side1 ?side2 z35_.out).mono ?_); (case side1 => repeat (first | exact (Kd.R_reads' z24_.out).2.2 | (with_reducible refine Kd.C_alloc ?_ _) | (with_reducible refine Kd.C_drewN ?_ _) | (with_reducible refine Kd.C_drew ?_))); (case side2 => exact (Kd.R_reads' z24_.out).2.1); rintro e w' ⟨rfl, ⟨nd, rfl⟩⟩; refine ⟨_, rfl, ?_⟩))
         first
           | skip
             go_ret
             exact ⟨by first | rfl | (simp [errW_none, errW_some] <;> rfl) | (simp [*, errW_none, errW_some] <;> rfl), by repeat (first | (with_reducible first | exact HB.out | apply below_alloc | apply pw_below_drewN | apply below_drew1) | exact HB.out)⟩
           | skip
             go_roundg z26_
             case measure => have := z23_.out; omega
             case rel => exact ⟨(wrap64 (z22_ + 1)), (by first | rfl | (simp; done) | (simp [*]; done)), H', ⟨by have := z23_.out; omega⟩, ⟨by (with_reducible repeat (first | apply Kd.R_alloc | apply Kd.R_drewN | apply Kd.R_drew)); exact z24_.out⟩, ⟨by (with_reducible repeat (first | apply Kd.R_alloc | apply Kd.R_drewN | apply Kd.R_drew)); exact z25_.out⟩, ⟨by repeat (first | (with_reducible first | exact HB.out | apply below_alloc | apply pw_below_drewN | apply below_drew1) | exact HB.out)⟩⟩
       | skip
         go_wp2
         go_ret
         exact ⟨by first | rfl | (simp [errW_none, errW_some] <;> rfl) | (simp [*, errW_none, errW_some] <;> rfl), by repeat (first | (with_reducible first | exact HB.out | apply below_alloc | apply pw_below_drewN | apply below_drew1) | exact HB.out)⟩
def spec_l01In.f (a0 : Int) (a1 : Int) (a2 : Int) : Option (Bool) := if a0 ≥ a1 then (some (decide (a0 ≤ a2))) else (some false)
set_option maxHeartbeats 8000000 in
set_option maxRecDepth 100000 in
theorem spec_l01In.calls (a0 : Int) (a1 : Int) (a2 : Int) (r : Bool) (w : World) (h : spec_l01In.f a0 a1 a2 = some r) :
    Calls Try.prog 101 #[.int .i64 a0, .int .i64 a1, .int .i64 a2] w fun e w' => e = .returned (.bool r) ∧ Drawn0 w w' := by
 have H : (if a0 ≥ a1 then (some (decide (a0 ≤ a2))) else (some false)) = some r := h
 clear h
 by_cases z1_ : a0 ≥ a1
 focus
   rw [if_pos z1_] at H
   have z2_ : decide (a1 ≤ a0) = true := decide_eq_true z1_
   clear z1_
   obtain rfl := Option.some.inj H
 rotate_left
 focus
   rw [if_neg z1_] at H
   have z2_ : decide (a1 ≤ a0) = false := decide_eq_false z1_
   clear z1_
   obtain rfl := Option.some.inj H
 all_goals
   go_enter Try.func101, Try.ntmps101
   go_wp2
   go_ret
   exact ⟨by first | rfl | (simp; done) | (simp [*]; done), by repeat (first | exact Drawn0.refl _ | apply Drawn0.step)⟩
def spec_GridOk.f (a0_0 : Int) (a0_1 : Int) : Option (Bool) := (spec_l01In.f a0_0 1 4).bind fun t102 => (if t102 = true then ((spec_l01In.f a0_1 1 4).bind fun t103 => (some t103)) else (some false))
set_option maxHeartbeats 8000000 in
set_option maxRecDepth 100000 in
theorem spec_GridOk.calls (a0_0 : Int) (a0_1 : Int) (r : Bool) (w : World) (h : spec_GridOk.f a0_0 a0_1 = some r) :
    Calls Try.prog 125 #[.agg #[.int .i64 a0_0, .int .i64 a0_1]] w fun e w' => e = .returned (.bool r) ∧ Below w.heap.size w w' := by
 have z1_ := Try.underlying32
 have HB := Aside0.mk (Below.refl w.heap.size w)
 have H : ((spec_l01In.f a0_0 1 4).bind fun t102 => (if t102 = true then ((spec_l01In.f a0_1 1 4).bind fun t103 => (some t103)) else (some false))) = some r := h
 clear h
 replace H := Option.bind_eq_some_iff.mp H
 obtain ⟨z2_, z3_, H⟩ := H
 replace H : (if z2_ = true then ((spec_l01In.f a0_1 1 4).bind fun t103 => (some t103)) else (some false)) = some r := H
 have z4_ := Aside0.mk z3_
 clear z3_
 by_cases z5_ : z2_ = true
 focus
   subst z5_
   have z6_ : ((spec_l01In.f a0_1 1 4).bind fun t103 => (some t103)) = some r := by rw [if_pos rfl] at H; exact H
   clear H
   have H := z6_
   clear z6_
   replace H := Option.bind_eq_some_iff.mp H
   obtain ⟨z7_, z8_, H⟩ := H
   replace H : (some z7_) = some r := H
   have z9_ := Aside0.mk z8_
   clear z8_
   obtain rfl := Option.some.inj H
 rotate_left
 focus
   replace z5_ := Bool.eq_false_iff.mpr z5_
   subst z5_
   have z6_ : (some false) = some r := by rw [if_neg (show ¬ (false = true) by decide)] at H; exact H
   clear H
   have H := z6_
   clear z6_
   obtain rfl := Option.some.inj H
 all_goals
   go_enter Try.func125, Try.ntmps125
   go_wp2_with (first | ((with_reducible refine gate_dst (N := 1) rfl ?_); refine box_event ?hg (N := 1) ?hd (cs := #[.int .i64 a0_0, .int .i64 a0_1]) (t := 32) ?hr ?_; (case hd => rfl); (case hg => rfl); (case hr => first | (go_simp; done) | (go_simp; rfl)); intro y1_ hg y2_ hbox hb; have y3_ := Aside0.mk (below_step (by repeat (first | (with_reducible first | exact HB.out | apply below_alloc | apply pw_below_drewN | apply below_drew1) | exact HB.out)) hb); have y4_ := Aside0.mk (hbox); have y5_ := Aside0.mk ((by rw [hg]; exact (below_size (by repeat (first | (with_reducible first | exact HB.out | apply below_alloc | apply pw_below_drewN | apply below_drew1) | exact HB.out))) : w.heap.size ≤ y1_)); have y6_ := Aside0.mk ((by rw [hg]; exact (below_size (by repeat (first | (with_reducible first | exact HB.out | apply below_alloc | apply pw_below_drewN | apply below_drew1) | exact HB.out))) : w.heap.size ≤ y1_)); clear HB; have HB := y3_; have y7_ := y4_; have y8_ := y5_; have y9_ := y6_; clear y3_ y4_ y5_ y6_; clear hb hbox hg; have y10_ : y2_.cell? ⟨y1_, 0, none⟩ = some (.int .i64 a0_0) := (blk_cell y7_.out 0).trans rfl; have y11_ : y2_.cell? ⟨y1_, 1, none⟩ = some (.int .i64 a0_1) := (blk_cell y7_.out 1).trans rfl; have y12_ := blk_frozen y7_.out 0; have y13_ := blk_frozen y7_.out 1) | ((with_reducible refine gate_callee (f := 101) rfl ?_); refine goesL_ (some 5) rfl rfl Try.func101 (by kernel_rfl) rfl #[.int .i64 a0_0, .int .i64 1, .int .i64 4] rfl (by (try simp only [List.map_toArray, List.map_cons, List.map_nil]); first | done | rfl | (simp only [List.length_drop, List.length_take]; rfl)) ?_; (with_reducible refine (spec_l01In.calls _ _ _ _ _ z4_.out).mono ?_); rintro e w' ⟨rfl, ⟨nd, rfl⟩⟩; refine ⟨_, rfl, ?_⟩) | (go_at_call 101; (with_reducible refine (spec_l01In.calls _ _ _ _ _ z9_.out).mono ?_); rintro e w' ⟨rfl, ⟨nd, rfl⟩⟩))
   go_ret
   exact ⟨by first | rfl | (simp [errW_none, errW_some] <;> rfl) | (simp [*, errW_none, errW_some] <;> rfl), by repeat (first | (with_reducible first | exact HB.out | apply below_alloc | apply pw_below_drewN | apply below_drew1 | refine below_set ?_ y9_.out) | exact HB.out)⟩
def spec_NodeCount.f (a0_0 : Int) (a0_1 : Int) : Option (Int) := (spec_GridOk.f a0_0 a0_1).bind fun t102 => (if t102 = true then (some (wrap64 (a0_0 * a0_1))) else (some 0))
set_option maxHeartbeats 8000000 in
set_option maxRecDepth 100000 in
theorem spec_NodeCount.calls (a0_0 : Int) (a0_1 : Int) (r : Int) (w : World) (h : spec_NodeCount.f a0_0 a0_1 = some r) :
    Calls Try.prog 87 #[.agg #[.int .i64 a0_0, .int .i64 a0_1]] w fun e w' => e = .returned (.int .i64 r) ∧ Below w.heap.size w w' := by
 have z1_ := Try.underlying32
 have HB := Aside0.mk (Below.refl w.heap.size w)
 have H : ((spec_GridOk.f a0_0 a0_1).bind fun t102 => (if t102 = true then (some (wrap64 (a0_0 * a0_1))) else (some 0))) = some r := h
 clear h
 replace H := Option.bind_eq_some_iff.mp H
 obtain ⟨z2_, z3_, H⟩ := H
 replace H : (if z2_ = true then (some (wrap64 (a0_0 * a0_1))) else (some 0)) = some r := H
 have z4_ := Aside0.mk z3_
 clear z3_
 by_cases z5_ : z2_ = true
 focus
   subst z5_
   have z6_ : (some (wrap64 (a0_0 * a0_1))) = some r := by rw [if_pos rfl] at H; exact H
   clear H
   have H := z6_
   clear z6_
   obtain rfl := Option.some.inj H
 rotate_left
 focus
   replace z5_ := Bool.eq_false_iff.mpr z5_
   subst z5_
   have z6_ : (some 0) = some r := by rw [if_neg (show ¬ (false = true) by decide)] at H; exact H
   clear H
   have H := z6_
   clear z6_
   obtain rfl := Option.some.inj H
 all_goals
   go_enter Try.func87, Try.ntmps87
   go_wp2_with (first | ((with_reducible refine gate_dst (N := 1) rfl ?_); refine box_event ?hg (N := 1) ?hd (cs := #[.int .i64 a0_0, .int .i64 a0_1]) (t := 32) ?hr ?_; (case hd => rfl); (case hg => rfl); (case hr => first | (go_simp; done) | (go_simp; rfl)); intro y1_ hg y2_ hbox hb; have y3_ := Aside0.mk (below_step (by repeat (first | (with_reducible first | exact HB.out | apply below_alloc | apply pw_below_drewN | apply below_drew1) | exact HB.out)) hb); have y4_ := Aside0.mk (hbox); have y5_ := Aside0.mk ((by rw [hg]; exact (below_size (by repeat (first | (with_reducible first | exact HB.out | apply below_alloc | apply pw_below_drewN | apply below_drew1) | exact HB.out))) : w.heap.size ≤ y1_)); have y6_ := Aside0.mk ((by rw [hg]; exact (below_size (by repeat (first | (with_reducible first | exact HB.out | apply below_alloc | apply pw_below_drewN | apply below_drew1) | exact HB.out))) : w.heap.size ≤ y1_)); clear HB; have HB := y3_; have y7_ := y4_; have y8_ := y5_; have y9_ := y6_; clear y3_ y4_ y5_ y6_; clear hb hbox hg; have y10_ : y2_.cell? ⟨y1_, 0, none⟩ = some (.int .i64 a0_0) := (blk_cell y7_.out 0).trans rfl; have y11_ : y2_.cell? ⟨y1_, 1, none⟩ = some (.int .i64 a0_1) := (blk_cell y7_.out 1).trans rfl; have y12_ := blk_frozen y7_.out 0; have y13_ := blk_frozen y7_.out 1) | ((with_reducible refine gate_callee (f := 125) rfl ?_); refine goesL_ (some 4) rfl rfl Try.func125 (by kernel_rfl) rfl #[.agg #[.int .i64 a0_0, .int .i64 a0_1]] rfl (by (try simp only [List.map_toArray, List.map_cons, List.map_nil]); first | done | rfl | (simp only [List.length_drop, List.length_take]; rfl)) ?_; (with_reducible refine (spec_GridOk.calls _ _ _ _ z4_.out).mono ?_); rintro e y14_ ⟨rfl, hb⟩; refine ⟨_, rfl, ?_⟩; have y3_ := Aside0.mk (blk_below (g := y1_) (o := .cells #[.int .i64 a0_0, .int .i64 a0_1] 32 (0, 0)) (by (with_reducible repeat (first | refine blk_drewN ?_ _ | refine blk_drew ?_ | refine blk_alloc ?_ _)); exact y7_.out) hb); have y4_ := Aside0.mk (below_step (by repeat (first | (with_reducible first | exact HB.out | apply below_alloc | apply pw_below_drewN | apply below_drew1 | refine below_set ?_ y9_.out) | exact HB.out)) hb); clear y7_; clear HB; have y7_ := y3_; have HB := y4_; clear y3_ y4_; (try clear hb); (try clear hb2); (try clear hk); (try clear hi); have y15_ : y14_.cell? ⟨y1_, 0, none⟩ = some (.int .i64 a0_0) := (blk_cell y7_.out 0).trans rfl; have y16_ : y14_.cell? ⟨y1_, 1, none⟩ = some (.int .i64 a0_1) := (blk_cell y7_.out 1).trans rfl; have y17_ := blk_frozen y7_.out 0; have y18_ := blk_frozen y7_.out 1) | ((with_reducible refine gate_callee (f := 125) rfl ?_); refine goesL_ (some 4) rfl rfl Try.func125 (by kernel_rfl) rfl #[.agg #[.int .i64 a0_0, .int .i64 a0_1]] rfl (by (try simp only [List.map_toArray, List.map_cons, List.map_nil]); first | done | rfl | (simp only [List.length_drop, List.length_take]; rfl)) ?_; (with_reducible refine (spec_GridOk.calls _ _ _ _ z4_.out).mono ?_); rintro e y14_ ⟨rfl, hb⟩; refine ⟨_, rfl, ?_⟩; have y3_ := Aside0.mk (blk_below (g := y1_) (o := .cells #[.int .i64 a0_0, .int .i64 a0_1] 32 (0, 0)) (by (with_reducible repeat (first | refine blk_drewN ?_ _ | refine blk_drew ?_ | refine blk_alloc ?_ _)); exact y7_.out) hb); have y4_ := Aside0.mk (below_step (by repeat (first | (with_reducible first | exact HB.out | apply below_alloc | apply pw_below_drewN | apply below_drew1 | refine below_set ?_ y9_.out) | exact HB.out)) hb); clear y7_; clear HB; have y7_ := y3_; have HB := y4_; clear y3_ y4_; (try clear hb); (try clear hb2); (try clear hk); (try clear hi)))
   go_ret
   exact ⟨by first | rfl | (simp [errW_none, errW_some] <;> rfl) | (simp [*, errW_none, errW_some] <;> rfl), by repeat (first | (with_reducible first | exact HB.out | apply below_alloc | apply pw_below_drewN | apply below_drew1 | refine below_set ?_ y9_.out) | exact HB.out)⟩
def spec_l01Once.f (s0_0 : List Int) (s0_1 : Int) (s0_2 : Int) (a1 : Int) : Option (Bool × Int × Int) := (spec_l01Below.f s0_0 s0_1 s0_2 a1).bind fun bt101 => (some ((bt101.1 == 0), bt101.2.1, bt101.2.2))
set_option maxHeartbeats 8000000 in
set_option maxRecDepth 100000 in
theorem spec_l01Once.calls (g : Nat) (s0_0 : List Int) (s0_1 : Int) (s0_2 : Int) (a1 : Int) (r1 : Bool) (r2 : Int) (r3 : Int) (w0 w : World) (hI : IsS124 w0 w g s0_0 s0_1 s0_2) (hB : Below w0.heap.size w0 w) (h : spec_l01Once.f s0_0 s0_1 s0_2 a1 = some (r1, r2, r3)) :
    Calls Try.prog 115 #[.pointer (some ⟨g, 0, none⟩), .int .i64 a1] w fun e w' => e = .returned (.bool r1) ∧ IsS124 w0 w' g s0_0 r2 r3 ∧ Below w0.heap.size w0 w' ∧ KeepBut w w' g none := by
 have z1_ := Aside0.mk hI
 have HK := Aside0.mk (KeepBut.refl w g none)
 have HL := Aside0.mk hB.size
 clear hI
 have z2_ := Aside0.mk hB.size
 have HB := Aside0.mk hB
 clear hB
 have H : ((spec_l01Below.f s0_0 s0_1 s0_2 a1).bind fun bt101 => (some ((bt101.1 == 0), bt101.2.1, bt101.2.2))) = some (r1, r2, r3) := h
 clear h
 replace H := Option.bind_eq_some_iff.mp H
 obtain ⟨⟨z3_, z4_, z5_⟩, z6_, H⟩ := H
 replace H : (some ((z3_ == 0), z4_, z5_)) = some (r1, r2, r3) := H
 have z7_ := Aside0.mk z6_
 clear z6_
 simp only [Option.some.injEq, Prod.mk.injEq] at H
 obtain ⟨rfl, rfl, rfl⟩ := H
 go_enter Try.func115, Try.ntmps115
 go_wp2_with (first | ((with_reducible refine gate_callee (f := 72) rfl ?_); refine goesL_ (some 7) rfl rfl Try.func72 (by kernel_rfl) rfl #[.pointer (some ⟨g, 0, none⟩), .int .i64 a1] rfl (by (try simp only [List.map_toArray, List.map_cons, List.map_nil]); first | done | rfl | (simp only [List.length_drop, List.length_take]; rfl)) ?_; (with_reducible refine (spec_l01Below.calls _ _ _ _ _ _ _ _ w0 _ ?side1 ?side2 z7_.out).mono ?_); (case side1 => repeat (first | (with_reducible first | exact z1_.out | apply IsS124.alloc | apply IsS124.drewN | apply IsS124.drew | apply IsS124.set_1 | apply IsS124.set_2) | exact z1_.out)); (case side2 => repeat (first | (with_reducible first | exact HB.out | apply below_alloc | apply pw_below_drewN | apply below_drew1 | refine below_set ?_ (IsS124.ge z1_.out)) | exact HB.out)); rintro e z8_ ⟨rfl, hi, hb, hk⟩; refine ⟨_, rfl, ?_⟩; have z9_ := Aside0.mk (KeepBut.trans (by repeat (first | (with_reducible first | exact HK.out | apply KeepBut.set_ | apply keep_drewN | apply keep_drew | apply keep_alloc) | exact HK.out)) hk (.inl rfl)); have z10_ := Aside0.mk (hb); have z11_ := Aside0.mk (hi); clear HK; clear HB; clear z1_; have HK := z9_; have HB := z10_; have z1_ := z11_; clear z9_ z10_ z11_; (try clear hb); (try clear hb2); (try clear hk); (try clear hi)))
 go_ret
 exact ⟨by first | rfl | (simp [errW_none, errW_some] <;> rfl) | (simp [*, errW_none, errW_some] <;> rfl), by repeat (first | (with_reducible first | exact z1_.out | apply IsS124.alloc | apply IsS124.drewN | apply IsS124.drew | apply IsS124.set_1 | apply IsS124.set_2) | exact z1_.out), by repeat (first | (with_reducible first | exact HB.out | apply below_alloc | apply pw_below_drewN | apply below_drew1 | refine below_set ?_ (IsS124.ge z1_.out)) | exact HB.out), by repeat (first | (with_reducible first | exact HK.out | apply KeepBut.set_ | apply keep_drewN | apply keep_drew | apply keep_alloc) | exact HK.out)⟩
def spec_l02Has.f (a0_0 : Int) (a0_1 : Int) (a1 : Int) : Option (Bool) := (spec_NodeCount.f a0_0 a0_1).bind fun t102 => ((spec_l01In.f a1 0 (wrap64 (t102 - 1))).bind fun t103 => (some t103))
set_option maxHeartbeats 8000000 in
set_option maxRecDepth 100000 in
theorem spec_l02Has.calls (a0_0 : Int) (a0_1 : Int) (a1 : Int) (r : Bool) (w : World) (h : spec_l02Has.f a0_0 a0_1 a1 = some r) :
    Calls Try.prog 99 #[.agg #[.int .i64 a0_0, .int .i64 a0_1], .int .i64 a1] w fun e w' => e = .returned (.bool r) ∧ Below w.heap.size w w' := by
 have z1_ := Try.underlying32
 have HB := Aside0.mk (Below.refl w.heap.size w)
 have H : ((spec_NodeCount.f a0_0 a0_1).bind fun t102 => ((spec_l01In.f a1 0 (wrap64 (t102 - 1))).bind fun t103 => (some t103))) = some r := h
 clear h
 replace H := Option.bind_eq_some_iff.mp H
 obtain ⟨z2_, z3_, H⟩ := H
 replace H : ((spec_l01In.f a1 0 (wrap64 (z2_ - 1))).bind fun t103 => (some t103)) = some r := H
 have z4_ := Aside0.mk z3_
 clear z3_
 replace H := Option.bind_eq_some_iff.mp H
 obtain ⟨z5_, z6_, H⟩ := H
 replace H : (some z5_) = some r := H
 have z7_ := Aside0.mk z6_
 clear z6_
 obtain rfl := Option.some.inj H
 go_enter Try.func99, Try.ntmps99
 go_wp2_with (first | ((with_reducible refine gate_dst (N := 2) rfl ?_); refine box_event ?hg (N := 2) ?hd (cs := #[.int .i64 a0_0, .int .i64 a0_1]) (t := 32) ?hr ?_; (case hd => rfl); (case hg => rfl); (case hr => first | (go_simp; done) | (go_simp; rfl)); intro z8_ hg z9_ hbox hb; have z10_ := Aside0.mk (below_step (by repeat (first | (with_reducible first | exact HB.out | apply below_alloc | apply pw_below_drewN | apply below_drew1) | exact HB.out)) hb); have z11_ := Aside0.mk (hbox); have z12_ := Aside0.mk ((by rw [hg]; exact (below_size (by repeat (first | (with_reducible first | exact HB.out | apply below_alloc | apply pw_below_drewN | apply below_drew1) | exact HB.out))) : w.heap.size ≤ z8_)); have z13_ := Aside0.mk ((by rw [hg]; exact (below_size (by repeat (first | (with_reducible first | exact HB.out | apply below_alloc | apply pw_below_drewN | apply below_drew1) | exact HB.out))) : w.heap.size ≤ z8_)); clear HB; have HB := z10_; have z14_ := z11_; have z15_ := z12_; have z16_ := z13_; clear z10_ z11_ z12_ z13_; clear hb hbox hg; have z17_ : z9_.cell? ⟨z8_, 0, none⟩ = some (.int .i64 a0_0) := (blk_cell z14_.out 0).trans rfl; have z18_ : z9_.cell? ⟨z8_, 1, none⟩ = some (.int .i64 a0_1) := (blk_cell z14_.out 1).trans rfl; have z19_ := blk_frozen z14_.out 0; have z20_ := blk_frozen z14_.out 1) | ((with_reducible refine gate_callee (f := 87) rfl ?_); refine goesL_ (some 7) rfl rfl Try.func87 (by kernel_rfl) rfl #[.agg #[.int .i64 a0_0, .int .i64 a0_1]] rfl (by (try simp only [List.map_toArray, List.map_cons, List.map_nil]); first | done | rfl | (simp only [List.length_drop, List.length_take]; rfl)) ?_; (with_reducible refine (spec_NodeCount.calls _ _ _ _ z4_.out).mono ?_); rintro e z21_ ⟨rfl, hb⟩; refine ⟨_, rfl, ?_⟩; have z10_ := Aside0.mk (blk_below (g := z8_) (o := .cells #[.int .i64 a0_0, .int .i64 a0_1] 32 (0, 0)) (by (with_reducible repeat (first | refine blk_drewN ?_ _ | refine blk_drew ?_ | refine blk_alloc ?_ _)); exact z14_.out) hb); have z11_ := Aside0.mk (below_step (by repeat (first | (with_reducible first | exact HB.out | apply below_alloc | apply pw_below_drewN | apply below_drew1 | refine below_set ?_ z16_.out) | exact HB.out)) hb); clear z14_; clear HB; have z14_ := z10_; have HB := z11_; clear z10_ z11_; (try clear hb); (try clear hb2); (try clear hk); (try clear hi)) | ((with_reducible refine gate_callee (f := 101) rfl ?_); refine goesL_ (some 9) rfl rfl Try.func101 (by kernel_rfl) rfl #[.int .i64 a1, .int .i64 0, .int .i64 (wrap64 (z2_ - 1))] rfl (by (try simp only [List.map_toArray, List.map_cons, List.map_nil]); first | done | rfl | (simp only [List.length_drop, List.length_take]; rfl)) ?_; (with_reducible refine (spec_l01In.calls _ _ _ _ _ z7_.out).mono ?_); rintro e w' ⟨rfl, ⟨nd, rfl⟩⟩; refine ⟨_, rfl, ?_⟩))
 go_ret
 exact ⟨by first | rfl | (simp [errW_none, errW_some] <;> rfl) | (simp [*, errW_none, errW_some] <;> rfl), by repeat (first | (with_reducible first | exact HB.out | apply below_alloc | apply pw_below_drewN | apply below_drew1 | refine below_set ?_ z16_.out) | exact HB.out)⟩
def spec_NodeAt.f (a0_0 : Int) (a0_1 : Int) (a1 : Int) (a2 : Int) : Option (Int) := (spec_GridOk.f a0_0 a0_1).bind fun t102 => (if t102 = true then ((spec_l01In.f a1 0 (wrap64 (a0_0 - 1))).bind fun t103 => (if t103 = true then ((spec_l01In.f a2 0 (wrap64 (a0_1 - 1))).bind fun t104 => (if t104 = true then (some (wrap64 ((wrap64 (a2 * a0_0)) + a1))) else (some (-1)))) else (some (-1)))) else (some (-1)))
set_option maxHeartbeats 8000000 in
set_option maxRecDepth 100000 in
theorem spec_NodeAt.calls (a0_0 : Int) (a0_1 : Int) (a1 : Int) (a2 : Int) (r : Int) (w : World) (h : spec_NodeAt.f a0_0 a0_1 a1 a2 = some r) :
    Calls Try.prog 120 #[.agg #[.int .i64 a0_0, .int .i64 a0_1], .int .i64 a1, .int .i64 a2] w fun e w' => e = .returned (.int .i64 r) ∧ Below w.heap.size w w' := by
 have z1_ := Try.underlying32
 have HB := Aside0.mk (Below.refl w.heap.size w)
 have H : ((spec_GridOk.f a0_0 a0_1).bind fun t102 => (if t102 = true then ((spec_l01In.f a1 0 (wrap64 (a0_0 - 1))).bind fun t103 => (if t103 = true then ((spec_l01In.f a2 0 (wrap64 (a0_1 - 1))).bind fun t104 => (if t104 = true then (some (wrap64 ((wrap64 (a2 * a0_0)) + a1))) else (some (-1)))) else (some (-1)))) else (some (-1)))) = some r := h
 clear h
 replace H := Option.bind_eq_some_iff.mp H
 obtain ⟨z2_, z3_, H⟩ := H
 replace H : (if z2_ = true then ((spec_l01In.f a1 0 (wrap64 (a0_0 - 1))).bind fun t103 => (if t103 = true then ((spec_l01In.f a2 0 (wrap64 (a0_1 - 1))).bind fun t104 => (if t104 = true then (some (wrap64 ((wrap64 (a2 * a0_0)) + a1))) else (some (-1)))) else (some (-1)))) else (some (-1))) = some r := H
 have z4_ := Aside0.mk z3_
 clear z3_
 by_cases z5_ : z2_ = true
 focus
   subst z5_
   have z6_ : ((spec_l01In.f a1 0 (wrap64 (a0_0 - 1))).bind fun t103 => (if t103 = true then ((spec_l01In.f a2 0 (wrap64 (a0_1 - 1))).bind fun t104 => (if t104 = true then (some (wrap64 ((wrap64 (a2 * a0_0)) + a1))) else (some (-1)))) else (some (-1)))) = some r := by rw [if_pos rfl] at H; exact H
   clear H
   have H := z6_
   clear z6_
   replace H := Option.bind_eq_some_iff.mp H
   obtain ⟨z7_, z8_, H⟩ := H
   replace H : (if z7_ = true then ((spec_l01In.f a2 0 (wrap64 (a0_1 - 1))).bind fun t104 => (if t104 = true then (some (wrap64 ((wrap64 (a2 * a0_0)) + a1))) else (some (-1)))) else (some (-1))) = some r := H
   have z9_ := Aside0.mk z8_
   clear z8_
   by_cases z10_ : z7_ = true
   focus
     subst z10_
     have z6_ : ((spec_l01In.f a2 0 (wrap64 (a0_1 - 1))).bind fun t104 => (if t104 = true then (some (wrap64 ((wrap64 (a2 * a0_0)) + a1))) else (some (-1)))) = some r := by rw [if_pos rfl] at H; exact H
     clear H
     have H := z6_
     clear z6_
     replace H := Option.bind_eq_some_iff.mp H
     obtain ⟨z11_, z12_, H⟩ := H
     replace H : (if z11_ = true then (some (wrap64 ((wrap64 (a2 * a0_0)) + a1))) else (some (-1))) = some r := H
     have z13_ := Aside0.mk z12_
     clear z12_
     by_cases z14_ : z11_ = true
     focus
       subst z14_
       have z6_ : (some (wrap64 ((wrap64 (a2 * a0_0)) + a1))) = some r := by rw [if_pos rfl] at H; exact H
       clear H
       have H := z6_
       clear z6_
       obtain rfl := Option.some.inj H
     rotate_left
     focus
       replace z14_ := Bool.eq_false_iff.mpr z14_
       subst z14_
       have z6_ : (some (-1)) = some r := by rw [if_neg (show ¬ (false = true) by decide)] at H; exact H
       clear H
       have H := z6_
       clear z6_
       obtain rfl := Option.some.inj H
   rotate_left 2
   focus
     replace z10_ := Bool.eq_false_iff.mpr z10_
     subst z10_
     have z6_ : (some (-1)) = some r := by rw [if_neg (show ¬ (false = true) by decide)] at H; exact H
     clear H
     have H := z6_
     clear z6_
     obtain rfl := Option.some.inj H
 rotate_left 3
 focus
   replace z5_ := Bool.eq_false_iff.mpr z5_
   subst z5_
   have z6_ : (some (-1)) = some r := by rw [if_neg (show ¬ (false = true) by decide)] at H; exact H
   clear H
   have H := z6_
   clear z6_
   obtain rfl := Option.some.inj H
 all_goals
   go_enter Try.func120, Try.ntmps120
   go_wp2_with (first | ((with_reducible refine gate_dst (N := 3) rfl ?_); refine box_event ?hg (N := 3) ?hd (cs := #[.int .i64 a0_0, .int .i64 a0_1]) (t := 32) ?hr ?_; (case hd => rfl); (case hg => rfl); (case hr => first | (go_simp; done) | (go_simp; rfl)); intro y1_ hg y2_ hbox hb; have y3_ := Aside0.mk (below_step (by repeat (first | (with_reducible first | exact HB.out | apply below_alloc | apply pw_below_drewN | apply below_drew1) | exact HB.out)) hb); have y4_ := Aside0.mk (hbox); have y5_ := Aside0.mk ((by rw [hg]; exact (below_size (by repeat (first | (with_reducible first | exact HB.out | apply below_alloc | apply pw_below_drewN | apply below_drew1) | exact HB.out))) : w.heap.size ≤ y1_)); have y6_ := Aside0.mk ((by rw [hg]; exact (below_size (by repeat (first | (with_reducible first | exact HB.out | apply below_alloc | apply pw_below_drewN | apply below_drew1) | exact HB.out))) : w.heap.size ≤ y1_)); clear HB; have HB := y3_; have y7_ := y4_; have y8_ := y5_; have y9_ := y6_; clear y3_ y4_ y5_ y6_; clear hb hbox hg; have y10_ : y2_.cell? ⟨y1_, 0, none⟩ = some (.int .i64 a0_0) := (blk_cell y7_.out 0).trans rfl; have y11_ : y2_.cell? ⟨y1_, 1, none⟩ = some (.int .i64 a0_1) := (blk_cell y7_.out 1).trans rfl; have y12_ := blk_frozen y7_.out 0; have y13_ := blk_frozen y7_.out 1) | ((with_reducible refine gate_callee (f := 125) rfl ?_); refine goesL_ (some 8) rfl rfl Try.func125 (by kernel_rfl) rfl #[.agg #[.int .i64 a0_0, .int .i64 a0_1]] rfl (by (try simp only [List.map_toArray, List.map_cons, List.map_nil]); first | done | rfl | (simp only [List.length_drop, List.length_take]; rfl)) ?_; (with_reducible refine (spec_GridOk.calls _ _ _ _ z4_.out).mono ?_); rintro e y14_ ⟨rfl, hb⟩; refine ⟨_, rfl, ?_⟩; have y3_ := Aside0.mk (blk_below (g := y1_) (o := .cells #[.int .i64 a0_0, .int .i64 a0_1] 32 (0, 0)) (by (with_reducible repeat (first | refine blk_drewN ?_ _ | refine blk_drew ?_ | refine blk_alloc ?_ _)); exact y7_.out) hb); have y4_ := Aside0.mk (below_step (by repeat (first | (with_reducible first | exact HB.out | apply below_alloc | apply pw_below_drewN | apply below_drew1 | refine below_set ?_ y9_.out) | exact HB.out)) hb); clear y7_; clear HB; have y7_ := y3_; have HB := y4_; clear y3_ y4_; (try clear hb); (try clear hb2); (try clear hk); (try clear hi); have y15_ : y14_.cell? ⟨y1_, 0, none⟩ = some (.int .i64 a0_0) := (blk_cell y7_.out 0).trans rfl; have y16_ : y14_.cell? ⟨y1_, 1, none⟩ = some (.int .i64 a0_1) := (blk_cell y7_.out 1).trans rfl; have y17_ := blk_frozen y7_.out 0; have y18_ := blk_frozen y7_.out 1) | (go_at_call 101; (with_reducible refine (spec_l01In.calls _ _ _ _ _ z9_.out).mono ?_); rintro e w' ⟨rfl, ⟨nd, rfl⟩⟩) | (go_at_call 101; (with_reducible refine (spec_l01In.calls _ _ _ _ _ z13_.out).mono ?_); rintro e w' ⟨rfl, ⟨nd, rfl⟩⟩) | ((with_reducible refine gate_callee (f := 125) rfl ?_); refine goesL_ (some 8) rfl rfl Try.func125 (by kernel_rfl) rfl #[.agg #[.int .i64 a0_0, .int .i64 a0_1]] rfl (by (try simp only [List.map_toArray, List.map_cons, List.map_nil]); first | done | rfl | (simp only [List.length_drop, List.length_take]; rfl)) ?_; (with_reducible refine (spec_GridOk.calls _ _ _ _ z4_.out).mono ?_); rintro e y14_ ⟨rfl, hb⟩; refine ⟨_, rfl, ?_⟩; have y3_ := Aside0.mk (blk_below (g := y1_) (o := .cells #[.int .i64 a0_0, .int .i64 a0_1] 32 (0, 0)) (by (with_reducible repeat (first | refine blk_drewN ?_ _ | refine blk_drew ?_ | refine blk_alloc ?_ _)); exact y7_.out) hb); have y4_ := Aside0.mk (below_step (by repeat (first | (with_reducible first | exact HB.out | apply below_alloc | apply pw_below_drewN | apply below_drew1 | refine below_set ?_ y9_.out) | exact HB.out)) hb); clear y7_; clear HB; have y7_ := y3_; have HB := y4_; clear y3_ y4_; (try clear hb); (try clear hb2); (try clear hk); (try clear hi)))
   go_ret
   exact ⟨by first | rfl | (simp [errW_none, errW_some] <;> rfl) | (simp [*, errW_none, errW_some] <;> rfl), by repeat (first | (with_reducible first | exact HB.out | apply below_alloc | apply pw_below_drewN | apply below_drew1 | refine below_set ?_ y9_.out) | exact HB.out)⟩
end Go.Proofs.Ytkkoenbmokbglaa.F
end
