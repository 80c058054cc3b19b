/- Parts of a proof that the law FnAncestors holds for every input: contracts of the program's functions and plain laws on what they compute. -/
import Derived.Test.YtkkoenbmokbglaaQFnAncestors12
section
namespace Go.Proofs.Ytkkoenbmokbglaa.F
open Go.RowKit Go.Proofs.YtkkoenbmokbglaaW.PrintWords Go.Proofs.YtkkoenbmokbglaaW.PrintLast Go.Proofs.YtkkoenbmokbglaaW.PrintMore
set_option linter.unusedVariables false
set_option linter.unusedSimpArgs false
def impl_NextNode.f (a0_0 : Int) (a0_1 : Int) (a1 : Int) (a2 : Int) : Option (Int) := (impl_isNode.f a0_0 a0_1 a1).bind fun t102 => (if t102 = true then (if a0_0 = 0 then (none) else (if a2 = 0 then ((impl_NodeAt.f a0_0 a0_1 (Int.tmod a1 a0_0) (wrap64 ((wrap64 (Int.tdiv a1 a0_0)) - 1))).bind fun t103 => (some t103)) else (if a2 = 1 then ((impl_NodeAt.f a0_0 a0_1 (wrap64 ((Int.tmod a1 a0_0) + 1)) (wrap64 (Int.tdiv a1 a0_0))).bind fun t104 => (some t104)) else (if a2 = 2 then ((impl_NodeAt.f a0_0 a0_1 (Int.tmod a1 a0_0) (wrap64 ((wrap64 (Int.tdiv a1 a0_0)) + 1))).bind fun t105 => (some t105)) else (if a2 = 3 then ((impl_NodeAt.f a0_0 a0_1 (wrap64 ((Int.tmod a1 a0_0) - 1)) (wrap64 (Int.tdiv a1 a0_0))).bind fun t106 => (some t106)) else (if a2 = 4 then (some a1) else (some (-1)))))))) else (some (-1)))
set_option maxHeartbeats 8000000 in
set_option maxRecDepth 100000 in
theorem impl_NextNode.calls (a0_0 : Int) (a0_1 : Int) (a1 : Int) (a2 : Int) (r : Int) (w : World) (h : impl_NextNode.f a0_0 a0_1 a1 a2 = some r) :
    Calls Try.prog 113 #[.agg #[.int .i64 a0_0, .int .i64 a0_1], .int .i64 a1, .int .i64 a2] w fun e w' => e = .returned (.int .i64 r) ∧ Below w.heap.size w w' := by
 have z1_ := Try.underlying32
 have HB := Aside0.mk (Below.refl w.heap.size w)
 have H : ((impl_isNode.f a0_0 a0_1 a1).bind fun t102 => (if t102 = true then (if a0_0 = 0 then (none) else (if a2 = 0 then ((impl_NodeAt.f a0_0 a0_1 (Int.tmod a1 a0_0) (wrap64 ((wrap64 (Int.tdiv a1 a0_0)) - 1))).bind fun t103 => (some t103)) else (if a2 = 1 then ((impl_NodeAt.f a0_0 a0_1 (wrap64 ((Int.tmod a1 a0_0) + 1)) (wrap64 (Int.tdiv a1 a0_0))).bind fun t104 => (some t104)) else (if a2 = 2 then ((impl_NodeAt.f a0_0 a0_1 (Int.tmod a1 a0_0) (wrap64 ((wrap64 (Int.tdiv a1 a0_0)) + 1))).bind fun t105 => (some t105)) else (if a2 = 3 then ((impl_NodeAt.f a0_0 a0_1 (wrap64 ((Int.tmod a1 a0_0) - 1)) (wrap64 (Int.tdiv a1 a0_0))).bind fun t106 => (some t106)) else (if a2 = 4 then (some a1) else (some (-1)))))))) else (some (-1)))) = some r := h
 clear h
 replace H := Option.bind_eq_some_iff.mp H
 obtain ⟨z2_, z3_, H⟩ := H
 replace H : (if z2_ = true then (if a0_0 = 0 then (none) else (if a2 = 0 then ((impl_NodeAt.f a0_0 a0_1 (Int.tmod a1 a0_0) (wrap64 ((wrap64 (Int.tdiv a1 a0_0)) - 1))).bind fun t103 => (some t103)) else (if a2 = 1 then ((impl_NodeAt.f a0_0 a0_1 (wrap64 ((Int.tmod a1 a0_0) + 1)) (wrap64 (Int.tdiv a1 a0_0))).bind fun t104 => (some t104)) else (if a2 = 2 then ((impl_NodeAt.f a0_0 a0_1 (Int.tmod a1 a0_0) (wrap64 ((wrap64 (Int.tdiv a1 a0_0)) + 1))).bind fun t105 => (some t105)) else (if a2 = 3 then ((impl_NodeAt.f a0_0 a0_1 (wrap64 ((Int.tmod a1 a0_0) - 1)) (wrap64 (Int.tdiv a1 a0_0))).bind fun t106 => (some t106)) else (if a2 = 4 then (some a1) else (some (-1)))))))) else (some (-1))) = some r := H
 have z4_ := Aside0.mk z3_
 clear z3_
 by_cases z5_ : z2_ = true
 focus
   subst z5_
   have z6_ : (if a0_0 = 0 then (none) else (if a2 = 0 then ((impl_NodeAt.f a0_0 a0_1 (Int.tmod a1 a0_0) (wrap64 ((wrap64 (Int.tdiv a1 a0_0)) - 1))).bind fun t103 => (some t103)) else (if a2 = 1 then ((impl_NodeAt.f a0_0 a0_1 (wrap64 ((Int.tmod a1 a0_0) + 1)) (wrap64 (Int.tdiv a1 a0_0))).bind fun t104 => (some t104)) else (if a2 = 2 then ((impl_NodeAt.f a0_0 a0_1 (Int.tmod a1 a0_0) (wrap64 ((wrap64 (Int.tdiv a1 a0_0)) + 1))).bind fun t105 => (some t105)) else (if a2 = 3 then ((impl_NodeAt.f a0_0 a0_1 (wrap64 ((Int.tmod a1 a0_0) - 1)) (wrap64 (Int.tdiv a1 a0_0))).bind fun t106 => (some t106)) else (if a2 = 4 then (some a1) else (some (-1)))))))) = some r := by rw [if_pos rfl] at H; exact H
   clear H
   have H := z6_
   clear z6_
   by_cases z7_ : a0_0 = 0
   · rw [if_pos z7_] at H
     exact absurd H (by simp)
   focus
     rw [if_neg z7_] at H
     have z8_ : (a0_0 == 0) = false := beq_eq_false_iff_ne.mpr z7_
     have z9_ : (a0_0 != 0) = true := bne_iff_ne.mpr z7_
     by_cases z10_ : a2 = 0
     focus
       rw [if_pos z10_] at H
       have z11_ : (a2 == 0) = true := beq_iff_eq.mpr z10_
       have z12_ : (a2 != 0) = false := bne_eq_false_iff_eq.mpr z10_
       clear z10_
       replace H := Option.bind_eq_some_iff.mp H
       obtain ⟨z13_, z14_, H⟩ := H
       replace H : (some z13_) = some r := H
       have z15_ := Aside0.mk z14_
       clear z14_
       obtain rfl := Option.some.inj H
     rotate_left
     focus
       rw [if_neg z10_] at H
       have z11_ : (a2 == 0) = false := beq_eq_false_iff_ne.mpr z10_
       have z12_ : (a2 != 0) = true := bne_iff_ne.mpr z10_
       by_cases z13_ : a2 = 1
       focus
         rw [if_pos z13_] at H
         have z14_ : (a2 == 1) = true := beq_iff_eq.mpr z13_
         have z15_ : (a2 != 1) = false := bne_eq_false_iff_eq.mpr z13_
         clear z13_
         replace H := Option.bind_eq_some_iff.mp H
         obtain ⟨z16_, z17_, H⟩ := H
         replace H : (some z16_) = some r := H
         have z18_ := Aside0.mk z17_
         clear z17_
         obtain rfl := Option.some.inj H
       rotate_left
       focus
         rw [if_neg z13_] at H
         have z14_ : (a2 == 1) = false := beq_eq_false_iff_ne.mpr z13_
         have z15_ : (a2 != 1) = true := bne_iff_ne.mpr z13_
         by_cases z16_ : a2 = 2
         focus
           rw [if_pos z16_] at H
           have z17_ : (a2 == 2) = true := beq_iff_eq.mpr z16_
           have z18_ : (a2 != 2) = false := bne_eq_false_iff_eq.mpr z16_
           clear z16_
           replace H := Option.bind_eq_some_iff.mp H
           obtain ⟨z19_, z20_, H⟩ := H
           replace H : (some z19_) = some r := H
           have z21_ := Aside0.mk z20_
           clear z20_
           obtain rfl := Option.some.inj H
         rotate_left
         focus
           rw [if_neg z16_] at H
           have z17_ : (a2 == 2) = false := beq_eq_false_iff_ne.mpr z16_
           have z18_ : (a2 != 2) = true := bne_iff_ne.mpr z16_
           by_cases z19_ : a2 = 3
           focus
             rw [if_pos z19_] at H
             have z20_ : (a2 == 3) = true := beq_iff_eq.mpr z19_
             have z21_ : (a2 != 3) = false := bne_eq_false_iff_eq.mpr z19_
             clear z19_
             replace H := Option.bind_eq_some_iff.mp H
             obtain ⟨z22_, z23_, H⟩ := H
             replace H : (some z22_) = some r := H
             have z24_ := Aside0.mk z23_
             clear z23_
             obtain rfl := Option.some.inj H
           rotate_left
           focus
             rw [if_neg z19_] at H
             have z20_ : (a2 == 3) = false := beq_eq_false_iff_ne.mpr z19_
             have z21_ : (a2 != 3) = true := bne_iff_ne.mpr z19_
             by_cases z22_ : a2 = 4
             focus
               rw [if_pos z22_] at H
               have z23_ : (a2 == 4) = true := beq_iff_eq.mpr z22_
               have z24_ : (a2 != 4) = false := bne_eq_false_iff_eq.mpr z22_
               clear z22_
               obtain rfl := Option.some.inj H
             rotate_left
             focus
               rw [if_neg z22_] at H
               have z23_ : (a2 == 4) = false := beq_eq_false_iff_ne.mpr z22_
               have z24_ : (a2 != 4) = true := bne_iff_ne.mpr z22_
               obtain rfl := Option.some.inj H
 rotate_left 6
 focus
   replace z5_ := Bool.eq_false_iff.mpr z5_
   subst z5_
   have z6_ : (some (-1)) = some r := by rw [if_neg (show ¬ (false = true) by decide)] at H; exact H
   clear H
   have H := z6_
   clear z6_
   obtain rfl := Option.some.inj H
 all_goals first
   | skip
     go_enter Try.func113, Try.ntmps113
     go_wp2_with (first | ((with_reducible refine gate_dst (N := 3) rfl ?_); refine box_event ?hg (N := 3) ?hd (cs := #[.int .i64 a0_0, .int .i64 a0_1]) (t := 32) ?hr ?_; (case hd => rfl); (case hg => rfl); (case hr => first | (go_simp; done) | (go_simp; rfl)); intro y1_ hg y2_ hbox hb; have y3_ := Aside0.mk (below_step (by repeat (first | (with_reducible first | exact HB.out | apply below_alloc | apply pw_below_drewN | apply below_drew1) | exact HB.out)) hb); have y4_ := Aside0.mk (hbox); have y5_ := Aside0.mk ((by rw [hg]; exact (below_size (by repeat (first | (with_reducible first | exact HB.out | apply below_alloc | apply pw_below_drewN | apply below_drew1) | exact HB.out))) : w.heap.size ≤ y1_)); have y6_ := Aside0.mk ((by rw [hg]; exact (below_size (by repeat (first | (with_reducible first | exact HB.out | apply below_alloc | apply pw_below_drewN | apply below_drew1) | exact HB.out))) : w.heap.size ≤ y1_)); clear HB; have HB := y3_; have y7_ := y4_; have y8_ := y5_; have y9_ := y6_; clear y3_ y4_ y5_ y6_; clear hb hbox hg; have y10_ : y2_.cell? ⟨y1_, 0, none⟩ = some (.int .i64 a0_0) := (blk_cell y7_.out 0).trans rfl; have y11_ : y2_.cell? ⟨y1_, 1, none⟩ = some (.int .i64 a0_1) := (blk_cell y7_.out 1).trans rfl; have y12_ := blk_frozen y7_.out 0; have y13_ := blk_frozen y7_.out 1) | (go_at_call 104; (with_reducible refine (impl_isNode.calls _ _ _ _ _ z4_.out).mono ?_); rintro e y14_ ⟨rfl, hb⟩; have y3_ := Aside0.mk (blk_below (g := y1_) (o := .cells #[.int .i64 a0_0, .int .i64 a0_1] 32 (0, 0)) (by (with_reducible repeat (first | refine blk_drewN ?_ _ | refine blk_drew ?_ | refine blk_alloc ?_ _)); exact y7_.out) hb); have y4_ := Aside0.mk (below_step (by repeat (first | (with_reducible first | exact HB.out | apply below_alloc | apply pw_below_drewN | apply below_drew1 | refine below_set ?_ y9_.out) | exact HB.out)) hb); clear y7_; clear HB; have y7_ := y3_; have HB := y4_; clear y3_ y4_; (try clear hb); (try clear hb2); (try clear hk); (try clear hi); have y15_ : y14_.cell? ⟨y1_, 0, none⟩ = some (.int .i64 a0_0) := (blk_cell y7_.out 0).trans rfl; have y16_ : y14_.cell? ⟨y1_, 1, none⟩ = some (.int .i64 a0_1) := (blk_cell y7_.out 1).trans rfl; have y17_ := blk_frozen y7_.out 0; have y18_ := blk_frozen y7_.out 1) | (go_at_call 149; (with_reducible refine (impl_NodeAt.calls _ _ _ _ _ _ z15_.out).mono ?_); rintro e y19_ ⟨rfl, hb⟩; have y3_ := Aside0.mk (blk_below (g := y1_) (o := .cells #[.int .i64 a0_0, .int .i64 a0_1] 32 (0, 0)) (by (with_reducible repeat (first | refine blk_drewN ?_ _ | refine blk_drew ?_ | refine blk_alloc ?_ _)); exact y7_.out) hb); have y4_ := Aside0.mk (below_step (by repeat (first | (with_reducible first | exact HB.out | apply below_alloc | apply pw_below_drewN | apply below_drew1 | refine below_set ?_ y9_.out) | exact HB.out)) hb); clear y7_; clear HB; have y7_ := y3_; have HB := y4_; clear y3_ y4_; (try clear hb); (try clear hb2); (try clear hk); (try clear hi)))
     repeat (go_quiet (first | ((with_reducible refine gate_dst (N := 3) rfl ?_); refine box_event ?hg (N := 3) ?hd (cs := #[.int .i64 a0_0, .int .i64 a0_1]) (t := 32) ?hr ?_; (case hd => rfl); (case hg => rfl); (case hr => first | (go_simp; done) | (go_simp; rfl)); intro y1_ hg y2_ hbox hb; have y3_ := Aside0.mk (below_step (by repeat (first | (with_reducible first | exact HB.out | apply below_alloc | apply pw_below_drewN | apply below_drew1) | exact HB.out)) hb); have y4_ := Aside0.mk (hbox); have y5_ := Aside0.mk ((by rw [hg]; exact (below_size (by repeat (first | (with_reducible first | exact HB.out | apply below_alloc | apply pw_below_drewN | apply below_drew1) | exact HB.out))) : w.heap.size ≤ y1_)); have y6_ := Aside0.mk ((by rw [hg]; exact (below_size (by repeat (first | (with_reducible first | exact HB.out | apply below_alloc | apply pw_below_drewN | apply below_drew1) | exact HB.out))) : w.heap.size ≤ y1_)); clear HB; have HB := y3_; have y7_ := y4_; have y8_ := y5_; have y9_ := y6_; clear y3_ y4_ y5_ y6_; clear hb hbox hg; have y10_ : y2_.cell? ⟨y1_, 0, none⟩ = some (.int .i64 a0_0) := (blk_cell y7_.out 0).trans rfl; have y11_ : y2_.cell? ⟨y1_, 1, none⟩ = some (.int .i64 a0_1) := (blk_cell y7_.out 1).trans rfl; have y12_ := blk_frozen y7_.out 0; have y13_ := blk_frozen y7_.out 1) | (go_at_call 104; (with_reducible refine (impl_isNode.calls _ _ _ _ _ z4_.out).mono ?_); rintro e y14_ ⟨rfl, hb⟩; have y3_ := Aside0.mk (blk_below (g := y1_) (o := .cells #[.int .i64 a0_0, .int .i64 a0_1] 32 (0, 0)) (by (with_reducible repeat (first | refine blk_drewN ?_ _ | refine blk_drew ?_ | refine blk_alloc ?_ _)); exact y7_.out) hb); have y4_ := Aside0.mk (below_step (by repeat (first | (with_reducible first | exact HB.out | apply below_alloc | apply pw_below_drewN | apply below_drew1 | refine below_set ?_ y9_.out) | exact HB.out)) hb); clear y7_; clear HB; have y7_ := y3_; have HB := y4_; clear y3_ y4_; (try clear hb); (try clear hb2); (try clear hk); (try clear hi); have y15_ : y14_.cell? ⟨y1_, 0, none⟩ = some (.int .i64 a0_0) := (blk_cell y7_.out 0).trans rfl; have y16_ : y14_.cell? ⟨y1_, 1, none⟩ = some (.int .i64 a0_1) := (blk_cell y7_.out 1).trans rfl; have y17_ := blk_frozen y7_.out 0; have y18_ := blk_frozen y7_.out 1) | (go_at_call 149; (with_reducible refine (impl_NodeAt.calls _ _ _ _ _ _ z15_.out).mono ?_); rintro e y19_ ⟨rfl, hb⟩; have y3_ := Aside0.mk (blk_below (g := y1_) (o := .cells #[.int .i64 a0_0, .int .i64 a0_1] 32 (0, 0)) (by (with_reducible repeat (first | refine blk_drewN ?_ _ | refine blk_drew ?_ | refine blk_alloc ?_ _)); exact y7_.out) hb); have y4_ := Aside0.mk (below_step (by repeat (first | (with_reducible first | exact HB.out | apply below_alloc | apply pw_below_drewN | apply below_drew1 | refine below_set ?_ y9_.out) | exact HB.out)) hb); clear y7_; clear HB; have y7_ := y3_; have HB := y4_; clear y3_ y4_; (try clear hb); (try clear hb2); (try clear hk); (try clear hi))); try go_wp2_with (first | ((with_reducible refine gate_dst (N := 3) rfl ?_); refine box_event ?hg (N := 3) ?hd (cs := #[.int .i64 a0_0, .int .i64 a0_1]) (t := 32) ?hr ?_; (case hd => rfl); (case hg => rfl); (case hr => first | (go_simp; done) | (go_simp; rfl)); intro y1_ hg y2_ hbox hb; have y3_ := Aside0.mk (below_step (by repeat (first | (with_reducible first | exact HB.out | apply below_alloc | apply pw_below_drewN | apply below_drew1) | exact HB.out)) hb); have y4_ := Aside0.mk (hbox); have y5_ := Aside0.mk ((by rw [hg]; exact (below_size (by repeat (first | (with_reducible first | exact HB.out | apply below_alloc | apply pw_below_drewN | apply below_drew1) | exact HB.out))) : w.heap.size ≤ y1_)); have y6_ := Aside0.mk ((by rw [hg]; exact (below_size (by repeat (first | (with_reducible first | exact HB.out | apply below_alloc | apply pw_below_drewN | apply below_drew1) | exact HB.out))) : w.heap.size ≤ y1_)); clear HB; have HB := y3_; have y7_ := y4_; have y8_ := y5_; have y9_ := y6_; clear y3_ y4_ y5_ y6_; clear hb hbox hg; have y10_ : y2_.cell? ⟨y1_, 0, none⟩ = some (.int .i64 a0_0) := (blk_cell y7_.out 0).trans rfl; have y11_ : y2_.cell? ⟨y1_, 1, none⟩ = some (.int .i64 a0_1) := (blk_cell y7_.out 1).trans rfl; have y12_ := blk_frozen y7_.out 0; have y13_ := blk_frozen y7_.out 1) | (go_at_call 104; (with_reducible refine (impl_isNode.calls _ _ _ _ _ z4_.out).mono ?_); rintro e y14_ ⟨rfl, hb⟩; have y3_ := Aside0.mk (blk_below (g := y1_) (o := .cells #[.int .i64 a0_0, .int .i64 a0_1] 32 (0, 0)) (by (with_reducible repeat (first | refine blk_drewN ?_ _ | refine blk_drew ?_ | refine blk_alloc ?_ _)); exact y7_.out) hb); have y4_ := Aside0.mk (below_step (by repeat (first | (with_reducible first | exact HB.out | apply below_alloc | apply pw_below_drewN | apply below_drew1 | refine below_set ?_ y9_.out) | exact HB.out)) hb); clear y7_; clear HB; have y7_ := y3_; have HB := y4_; clear y3_ y4_; (try clear hb); (try clear hb2); (try clear hk); (try clear hi); have y15_ : y14_.cell? ⟨y1_, 0, none⟩ = some (.int .i64 a0_0) := (blk_cell y7_.out 0).trans rfl; have y16_ : y14_.cell? ⟨y1_, 1, none⟩ = some (.int .i64 a0_1) := (blk_cell y7_.out 1).trans rfl; have y17_ := blk_frozen y7_.out 0; have y18_ := blk_frozen y7_.out 1) | (go_at_call 149; (with_reducible refine (impl_NodeAt.calls _ _ _ _ _ _ z15_.out).mono ?_); rintro e y19_ ⟨rfl, hb⟩; have y3_ := Aside0.mk (blk_below (g := y1_) (o := .cells #[.int .i64 a0_0, .int .i64 a0_1] 32 (0, 0)) (by (with_reducible repeat (first | refine blk_drewN ?_ _ | refine blk_drew ?_ | refine blk_alloc ?_ _)); exact y7_.out) hb); have y4_ := Aside0.mk (below_step (by repeat (first | (with_reducible first | exact HB.out | apply below_alloc | apply pw_below_drewN | apply below_drew1 | refine below_set ?_ y9_.out) | exact HB.out)) hb); clear y7_; clear HB; have y7_ := y3_; have HB := y4_; clear y3_ y4_; (try clear hb); (try clear hb2); (try clear hk); (try clear hi))))
     go_ret
     exact ⟨by first | rfl | (simp [errW_none, errW_some] <;> rfl) | (simp [*, errW_none, errW_some] <;> rfl), by repeat (first | (with_reducible first | exact HB.out | apply below_alloc | apply pw_below_drewN | apply below_drew1 | refine below_set ?_ y9_.out) | exact HB.out)⟩
   | skip
     go_enter Try.func113, Try.ntmps113
     go_wp2_with (first | ((with_reducible refine gate_dst (N := 3) rfl ?_); refine box_event ?hg (N := 3) ?hd (cs := #[.int .i64 a0_0, .int .i64 a0_1]) (t := 32) ?hr ?_; (case hd => rfl); (case hg => rfl); (case hr => first | (go_simp; done) | (go_simp; rfl)); intro y1_ hg y2_ hbox hb; have y3_ := Aside0.mk (below_step (by repeat (first | (with_reducible first | exact HB.out | apply below_alloc | apply pw_below_drewN | apply below_drew1) | exact HB.out)) hb); have y4_ := Aside0.mk (hbox); have y5_ := Aside0.mk ((by rw [hg]; exact (below_size (by repeat (first | (with_reducible first | exact HB.out | apply below_alloc | apply pw_below_drewN | apply below_drew1) | exact HB.out))) : w.heap.size ≤ y1_)); have y6_ := Aside0.mk ((by rw [hg]; exact (below_size (by repeat (first | (with_reducible first | exact HB.out | apply below_alloc | apply pw_below_drewN | apply below_drew1) | exact HB.out))) : w.heap.size ≤ y1_)); clear HB; have HB := y3_; have y7_ := y4_; have y8_ := y5_; have y9_ := y6_; clear y3_ y4_ y5_ y6_; clear hb hbox hg; have y10_ : y2_.cell? ⟨y1_, 0, none⟩ = some (.int .i64 a0_0) := (blk_cell y7_.out 0).trans rfl; have y11_ : y2_.cell? ⟨y1_, 1, none⟩ = some (.int .i64 a0_1) := (blk_cell y7_.out 1).trans rfl; have y12_ := blk_frozen y7_.out 0; have y13_ := blk_frozen y7_.out 1) | (go_at_call 104; (with_reducible refine (impl_isNode.calls _ _ _ _ _ z4_.out).mono ?_); rintro e y14_ ⟨rfl, hb⟩; have y3_ := Aside0.mk (blk_below (g := y1_) (o := .cells #[.int .i64 a0_0, .int .i64 a0_1] 32 (0, 0)) (by (with_reducible repeat (first | refine blk_drewN ?_ _ | refine blk_drew ?_ | refine blk_alloc ?_ _)); exact y7_.out) hb); have y4_ := Aside0.mk (below_step (by repeat (first | (with_reducible first | exact HB.out | apply below_alloc | apply pw_below_drewN | apply below_drew1 | refine below_set ?_ y9_.out) | exact HB.out)) hb); clear y7_; clear HB; have y7_ := y3_; have HB := y4_; clear y3_ y4_; (try clear hb); (try clear hb2); (try clear hk); (try clear hi); have y15_ : y14_.cell? ⟨y1_, 0, none⟩ = some (.int .i64 a0_0) := (blk_cell y7_.out 0).trans rfl; have y16_ : y14_.cell? ⟨y1_, 1, none⟩ = some (.int .i64 a0_1) := (blk_cell y7_.out 1).trans rfl; have y17_ := blk_frozen y7_.out 0; have y18_ := blk_frozen y7_.out 1) | (go_at_call 149; (with_reducible refine (impl_NodeAt.calls _ _ _ _ _ _ z18_.out).mono ?_); rintro e y19_ ⟨rfl, hb⟩; have y3_ := Aside0.mk (blk_below (g := y1_) (o := .cells #[.int .i64 a0_0, .int .i64 a0_1] 32 (0, 0)) (by (with_reducible repeat (first | refine blk_drewN ?_ _ | refine blk_drew ?_ | refine blk_alloc ?_ _)); exact y7_.out) hb); have y4_ := Aside0.mk (below_step (by repeat (first | (with_reducible first | exact HB.out | apply below_alloc | apply pw_below_drewN | apply below_drew1 | refine below_set ?_ y9_.out) | exact HB.out)) hb); clear y7_; clear HB; have y7_ := y3_; have HB := y4_; clear y3_ y4_; (try clear hb); (try clear hb2); (try clear hk); (try clear hi)))
     repeat (go_quiet (first | ((with_reducible refine gate_dst (N := 3) rfl ?_); refine box_event ?hg (N := 3) ?hd (cs := #[.int .i64 a0_0, .int .i64 a0_1]) (t := 32) ?hr ?_; (case hd => rfl); (case hg => rfl); (case hr => first | (go_simp; done) | (go_simp; rfl)); intro y1_ hg y2_ hbox hb; have y3_ := Aside0.mk (below_step (by repeat (first | (with_reducible first | exact HB.out | apply below_alloc | apply pw_below_drewN | apply below_drew1) | exact HB.out)) hb); have y4_ := Aside0.mk (hbox); have y5_ := Aside0.mk ((by rw [hg]; exact (below_size (by repeat (first | (with_reducible first | exact HB.out | apply below_alloc | apply pw_below_drewN | apply below_drew1) | exact HB.out))) : w.heap.size ≤ y1_)); have y6_ := Aside0.mk ((by rw [hg]; exact (below_size (by repeat (first | (with_reducible first | exact HB.out | apply below_alloc | apply pw_below_drewN | apply below_drew1) | exact HB.out))) : w.heap.size ≤ y1_)); clear HB; have HB := y3_; have y7_ := y4_; have y8_ := y5_; have y9_ := y6_; clear y3_ y4_ y5_ y6_; clear hb hbox hg; have y10_ : y2_.cell? ⟨y1_, 0, none⟩ = some (.int .i64 a0_0) := (blk_cell y7_.out 0).trans rfl; have y11_ : y2_.cell? ⟨y1_, 1, none⟩ = some (.int .i64 a0_1) := (blk_cell y7_.out 1).trans rfl; have y12_ := blk_frozen y7_.out 0; have y13_ := blk_frozen y7_.out 1) | (go_at_call 104; (with_reducible refine (impl_isNode.calls _ _ _ _ _ z4_.out).mono ?_); rintro e y14_ ⟨rfl, hb⟩; have y3_ := Aside0.mk (blk_below (g := y1_) (o := .cells #[.int .i64 a0_0, .int .i64 a0_1] 32 (0, 0)) (by (with_reducible repeat (first | refine blk_drewN ?_ _ | refine blk_drew ?_ | refine blk_alloc ?_ _)); exact y7_.out) hb); have y4_ := Aside0.mk (below_step (by repeat (first | (with_reducible first | exact HB.out | apply below_alloc | apply pw_below_drewN | apply below_drew1 | refine below_set ?_ y9_.out) | exact HB.out)) hb); clear y7_; clear HB; have y7_ := y3_; have HB := y4_; clear y3_ y4_; (try clear hb); (try clear hb2); (try clear hk); (try clear hi); have y15_ : y14_.cell? ⟨y1_, 0, none⟩ = some (.int .i64 a0_0) := (blk_cell y7_.out 0).trans rfl; have y16_ : y14_.cell? ⟨y1_, 1, none⟩ = some (.int .i64 a0_1) := (blk_cell y7_.out 1).trans rfl; have y17_ := blk_frozen y7_.out 0; have y18_ := blk_frozen y7_.out 1) | (go_at_call 149; (with_reducible refine (impl_NodeAt.calls _ _ _ _ _ _ z18_.out).mono ?_); rintro e y19_ ⟨rfl, hb⟩; have y3_ := Aside0.mk (blk_below (g := y1_) (o := .cells #[.int .i64 a0_0, .int .i64 a0_1] 32 (0, 0)) (by (with_reducible repeat (first | refine blk_drewN ?_ _ | refine blk_drew ?_ | refine blk_alloc ?_ _)); exact y7_.out) hb); have y4_ := Aside0.mk (below_step (by repeat (first | (with_reducible first | exact HB.out | apply below_alloc | apply pw_below_drewN | apply below_drew1 | refine below_set ?_ y9_.out) | exact HB.out)) hb); clear y7_; clear HB; have y7_ := y3_; have HB := y4_; clear y3_ y4_; (try clear hb); (try clear hb2); (try clear hk); (try clear hi))); try go_wp2_with (first | ((with_reducible refine gate_dst (N := 3) rfl ?_); refine box_event ?hg (N := 3) ?hd (cs := #[.int .i64 a0_0, .int .i64 a0_1]) (t := 32) ?hr ?_; (case hd => rfl); (case hg => rfl); (case hr => first | (go_simp; done) | (go_simp; rfl)); intro y1_ hg y2_ hbox hb; have y3_ := Aside0.mk (below_step (by repeat (first | (with_reducible first | exact HB.out | apply below_alloc | apply pw_below_drewN | apply below_drew1) | exact HB.out)) hb); have y4_ := Aside0.mk (hbox); have y5_ := Aside0.mk ((by rw [hg]; exact (below_size (by repeat (first | (with_reducible first | exact HB.out | apply below_alloc | apply pw_below_drewN | apply below_drew1) | exact HB.out))) : w.heap.size ≤ y1_)); have y6_ := Aside0.mk ((by rw [hg]; exact (below_size (by repeat (first | (with_reducible first | exact HB.out | apply below_alloc | apply pw_below_drewN | apply below_drew1) | exact HB.out))) : w.heap.size ≤ y1_)); clear HB; have HB := y3_; have y7_ := y4_; have y8_ := y5_; have y9_ := y6_; clear y3_ y4_ y5_ y6_; clear hb hbox hg; have y10_ : y2_.cell? ⟨y1_, 0, none⟩ = some (.int .i64 a0_0) := (blk_cell y7_.out 0).trans rfl; have y11_ : y2_.cell? ⟨y1_, 1, none⟩ = some (.int .i64 a0_1) := (blk_cell y7_.out 1).trans rfl; have y12_ := blk_frozen y7_.out 0; have y13_ := blk_frozen y7_.out 1) | (go_at_call 104; (with_reducible refine (impl_isNode.calls _ _ _ _ _ z4_.out).mono ?_); rintro e y14_ ⟨rfl, hb⟩; have y3_ := Aside0.mk (blk_below (g := y1_) (o := .cells #[.int .i64 a0_0, .int .i64 a0_1] 32 (0, 0)) (by (with_reducible repeat (first | refine blk_drewN ?_ _ | refine blk_drew ?_ | refine blk_alloc ?_ _)); exact y7_.out) hb); have y4_ := Aside0.mk (below_step (by repeat (first | (with_reducible first | exact HB.out | apply below_alloc | apply pw_below_drewN | apply below_drew1 | refine below_set ?_ y9_.out) | exact HB.out)) hb); clear y7_; clear HB; have y7_ := y3_; have HB := y4_; clear y3_ y4_; (try clear hb); (try clear hb2); (try clear hk); (try clear hi); have y15_ : y14_.cell? ⟨y1_, 0, none⟩ = some (.int .i64 a0_0) := (blk_cell y7_.out 0).trans rfl; have y16_ : y14_.cell? ⟨y1_, 1, none⟩ = some (.int .i64 a0_1) := (blk_cell y7_.out 1).trans rfl; have y17_ := blk_frozen y7_.out 0; have y18_ := blk_frozen y7_.out 1) | (go_at_call 149; (with_reducible refine (impl_NodeAt.calls _ _ _ _ _ _ z18_.out).mono ?_); rintro e y19_ ⟨rfl, hb⟩; have y3_ := Aside0.mk (blk_below (g := y1_) (o := .cells #[.int .i64 a0_0, .int .i64 a0_1] 32 (0, 0)) (by (with_reducible repeat (first | refine blk_drewN ?_ _ | refine blk_drew ?_ | refine blk_alloc ?_ _)); exact y7_.out) hb); have y4_ := Aside0.mk (below_step (by repeat (first | (with_reducible first | exact HB.out | apply below_alloc | apply pw_below_drewN | apply below_drew1 | refine below_set ?_ y9_.out) | exact HB.out)) hb); clear y7_; clear HB; have y7_ := y3_; have HB := y4_; clear y3_ y4_; (try clear hb); (try clear hb2); (try clear hk); (try clear hi))))
     go_ret
     exact ⟨by first | rfl | (simp [errW_none, errW_some] <;> rfl) | (simp [*, errW_none, errW_some] <;> rfl), by repeat (first | (with_reducible first | exact HB.out | apply below_alloc | apply pw_below_drewN | apply below_drew1 | refine below_set ?_ y9_.out) | exact HB.out)⟩
   | skip
     go_enter Try.func113, Try.ntmps113
     go_wp2_with (first | ((with_reducible refine gate_dst (N := 3) rfl ?_); refine box_event ?hg (N := 3) ?hd (cs := #[.int .i64 a0_0, .int .i64 a0_1]) (t := 32) ?hr ?_; (case hd => rfl); (case hg => rfl); (case hr => first | (go_simp; done) | (go_simp; rfl)); intro y1_ hg y2_ hbox hb; have y3_ := Aside0.mk (below_step (by repeat (first | (with_reducible first | exact HB.out | apply below_alloc | apply pw_below_drewN | apply below_drew1) | exact HB.out)) hb); have y4_ := Aside0.mk (hbox); have y5_ := Aside0.mk ((by rw [hg]; exact (below_size (by repeat (first | (with_reducible first | exact HB.out | apply below_alloc | apply pw_below_drewN | apply below_drew1) | exact HB.out))) : w.heap.size ≤ y1_)); have y6_ := Aside0.mk ((by rw [hg]; exact (below_size (by repeat (first | (with_reducible first | exact HB.out | apply below_alloc | apply pw_below_drewN | apply below_drew1) | exact HB.out))) : w.heap.size ≤ y1_)); clear HB; have HB := y3_; have y7_ := y4_; have y8_ := y5_; have y9_ := y6_; clear y3_ y4_ y5_ y6_; clear hb hbox hg; have y10_ : y2_.cell? ⟨y1_, 0, none⟩ = some (.int .i64 a0_0) := (blk_cell y7_.out 0).trans rfl; have y11_ : y2_.cell? ⟨y1_, 1, none⟩ = some (.int .i64 a0_1) := (blk_cell y7_.out 1).trans rfl; have y12_ := blk_frozen y7_.out 0; have y13_ := blk_frozen y7_.out 1) | (go_at_call 104; (with_reducible refine (impl_isNode.calls _ _ _ _ _ z4_.out).mono ?_); rintro e y14_ ⟨rfl, hb⟩; have y3_ := Aside0.mk (blk_below (g := y1_) (o := .cells #[.int .i64 a0_0, .int .i64 a0_1] 32 (0, 0)) (by (with_reducible repeat (first | refine blk_drewN ?_ _ | refine blk_drew ?_ | refine blk_alloc ?_ _)); exact y7_.out) hb); have y4_ := Aside0.mk (below_step (by repeat (first | (with_reducible first | exact HB.out | apply below_alloc | apply pw_below_drewN | apply below_drew1 | refine below_set ?_ y9_.out) | exact HB.out)) hb); clear y7_; clear HB; have y7_ := y3_; have HB := y4_; clear y3_ y4_; (try clear hb); (try clear hb2); (try clear hk); (try clear hi); have y15_ : y14_.cell? ⟨y1_, 0, none⟩ = some (.int .i64 a0_0) := (blk_cell y7_.out 0).trans rfl; have y16_ : y14_.cell? ⟨y1_, 1, none⟩ = some (.int .i64 a0_1) := (blk_cell y7_.out 1).trans rfl; have y17_ := blk_frozen y7_.out 0; have y18_ := blk_frozen y7_.out 1) | (go_at_call 149; (with_reducible refine (impl_NodeAt.calls _ _ _ _ _ _ z21_.out).mono ?_); rintro e y19_ ⟨rfl, hb⟩; have y3_ := Aside0.mk (blk_below (g := y1_) (o := .cells #[.int .i64 a0_0, .int .i64 a0_1] 32 (0, 0)) (by (with_reducible repeat (first | refine blk_drewN ?_ _ | refine blk_drew ?_ | refine blk_alloc ?_ _)); exact y7_.out) hb); have y4_ := Aside0.mk (below_step (by repeat (first | (with_reducible first | exact HB.out | apply below_alloc | apply pw_below_drewN | apply below_drew1 | refine below_set ?_ y9_.out) | exact HB.out)) hb); clear y7_; clear HB; have y7_ := y3_; have HB := y4_; clear y3_ y4_; (try clear hb); (try clear hb2); (try clear hk); (try clear hi)))
     repeat (go_quiet (first | ((with_reducible refine gate_dst (N := 3) rfl ?_); refine box_event ?hg (N := 3) ?hd (cs := #[.int .i64 a0_0, .int .i64 a0_1]) (t := 32) ?hr ?_; (case hd => rfl); (case hg => rfl); (case hr => first | (go_simp; done) | (go_simp; rfl)); intro y1_ hg y2_ hbox hb; have y3_ := Aside0.mk (below_step (by repeat (first | (with_reducible first | exact HB.out | apply below_alloc | apply pw_below_drewN | apply below_drew1) | exact HB.out)) hb); have y4_ := Aside0.mk (hbox); have y5_ := Aside0.mk ((by rw [hg]; exact (below_size (by repeat (first | (with_reducible first | exact HB.out | apply below_alloc | apply pw_below_drewN | apply below_drew1) | exact HB.out))) : w.heap.size ≤ y1_)); have y6_ := Aside0.mk ((by rw [hg]; exact (below_size (by repeat (first | (with_reducible first | exact HB.out | apply below_alloc | apply pw_below_drewN | apply below_drew1) | exact HB.out))) : w.heap.size ≤ y1_)); clear HB; have HB := y3_; have y7_ := y4_; have y8_ := y5_; have y9_ := y6_; clear y3_ y4_ y5_ y6_; clear hb hbox hg; have y10_ : y2_.cell? ⟨y1_, 0, none⟩ = some (.int .i64 a0_0) := (blk_cell y7_.out 0).trans rfl; have y11_ : y2_.cell? ⟨y1_, 1, none⟩ = some (.int .i64 a0_1) := (blk_cell y7_.out 1).trans rfl; have y12_ := blk_frozen y7_.out 0; have y13_ := blk_frozen y7_.out 1) | (go_at_call 104; (with_reducible refine (impl_isNode.calls _ _ _ _ _ z4_.out).mono ?_); rintro e y14_ ⟨rfl, hb⟩; have y3_ := Aside0.mk (blk_below (g := y1_) (o := .cells #[.int .i64 a0_0, .int .i64 a0_1] 32 (0, 0)) (by (with_reducible repeat (first | refine blk_drewN ?_ _ | refine blk_drew ?_ | refine blk_alloc ?_ _)); exact y7_.out) hb); have y4_ := Aside0.mk (below_step (by repeat (first | (with_reducible first | exact HB.out | apply below_alloc | apply pw_below_drewN | apply below_drew1 | refine below_set ?_ y9_.out) | exact HB.out)) hb); clear y7_; clear HB; have y7_ := y3_; have HB := y4_; clear y3_ y4_; (try clear hb); (try clear hb2); (try clear hk); (try clear hi); have y15_ : y14_.cell? ⟨y1_, 0, none⟩ = some (.int .i64 a0_0) := (blk_cell y7_.out 0).trans rfl; have y16_ : y14_.cell? ⟨y1_, 1, none⟩ = some (.int .i64 a0_1) := (blk_cell y7_.out 1).trans rfl; have y17_ := blk_frozen y7_.out 0; have y18_ := blk_frozen y7_.out 1) | (go_at_call 149; (with_reducible refine (impl_NodeAt.calls _ _ _ _ _ _ z21_.out).mono ?_); rintro e y19_ ⟨rfl, hb⟩; have y3_ := Aside0.mk (blk_below (g := y1_) (o := .cells #[.int .i64 a0_0, .int .i64 a0_1] 32 (0, 0)) (by (with_reducible repeat (first | refine blk_drewN ?_ _ | refine blk_drew ?_ | refine blk_alloc ?_ _)); exact y7_.out) hb); have y4_ := Aside0.mk (below_step (by repeat (first | (with_reducible first | exact HB.out | apply below_alloc | apply pw_below_drewN | apply below_drew1 | refine below_set ?_ y9_.out) | exact HB.out)) hb); clear y7_; clear HB; have y7_ := y3_; have HB := y4_; clear y3_ y4_; (try clear hb); (try clear hb2); (try clear hk); (try clear hi))); try go_wp2_with (first | ((with_reducible refine gate_dst (N := 3) rfl ?_); refine box_event ?hg (N := 3) ?hd (cs := #[.int .i64 a0_0, .int .i64 a0_1]) (t := 32) ?hr ?_; (case hd => rfl); (case hg => rfl); (case hr => first | (go_simp; done) | (go_simp; rfl)); intro y1_ hg y2_ hbox hb; have y3_ := Aside0.mk (below_step (by repeat (first | (with_reducible first | exact HB.out | apply below_alloc | apply pw_below_drewN | apply below_drew1) | exact HB.out)) hb); have y4_ := Aside0.mk (hbox); have y5_ := Aside0.mk ((by rw [hg]; exact (below_size (by repeat (first | (with_reducible first | exact HB.out | apply below_alloc | apply pw_below_drewN | apply below_drew1) | exact HB.out))) : w.heap.size ≤ y1_)); have y6_ := Aside0.mk ((by rw [hg]; exact (below_size (by repeat (first | (with_reducible first | exact HB.out | apply below_alloc | apply pw_below_drewN | apply below_drew1) | exact HB.out))) : w.heap.size ≤ y1_)); clear HB; have HB := y3_; have y7_ := y4_; have y8_ := y5_; have y9_ := y6_; clear y3_ y4_ y5_ y6_; clear hb hbox hg; have y10_ : y2_.cell? ⟨y1_, 0, none⟩ = some (.int .i64 a0_0) := (blk_cell y7_.out 0).trans rfl; have y11_ : y2_.cell? ⟨y1_, 1, none⟩ = some (.int .i64 a0_1) := (blk_cell y7_.out 1).trans rfl; have y12_ := blk_frozen y7_.out 0; have y13_ := blk_frozen y7_.out 1) | (go_at_call 104; (with_reducible refine (impl_isNode.calls _ _ _ _ _ z4_.out).mono ?_); rintro e y14_ ⟨rfl, hb⟩; have y3_ := Aside0.mk (blk_below (g := y1_) (o := .cells #[.int .i64 a0_0, .int .i64 a0_1] 32 (0, 0)) (by (with_reducible repeat (first | refine blk_drewN ?_ _ | refine blk_drew ?_ | refine blk_alloc ?_ _)); exact y7_.out) hb); have y4_ := Aside0.mk (below_step (by repeat (first | (with_reducible first | exact HB.out | apply below_alloc | apply pw_below_drewN | apply below_drew1 | refine below_set ?_ y9_.out) | exact HB.out)) hb); clear y7_; clear HB; have y7_ := y3_; have HB := y4_; clear y3_ y4_; (try clear hb); (try clear hb2); (try clear hk); (try clear hi); have y15_ : y14_.cell? ⟨y1_, 0, none⟩ = some (.int .i64 a0_0) := (blk_cell y7_.out 0).trans rfl; have y16_ : y14_.cell? ⟨y1_, 1, none⟩ = some (.int .i64 a0_1) := (blk_cell y7_.out 1).trans rfl; have y17_ := blk_frozen y7_.out 0; have y18_ := blk_frozen y7_.out 1) | (go_at_call 149; (with_reducible refine (impl_NodeAt.calls _ _ _ _ _ _ z21_.out).mono ?_); rintro e y19_ ⟨rfl, hb⟩; have y3_ := Aside0.mk (blk_below (g := y1_) (o := .cells #[.int .i64 a0_0, .int .i64 a0_1] 32 (0, 0)) (by (with_reducible repeat (first | refine blk_drewN ?_ _ | refine blk_drew ?_ | refine blk_alloc ?_ _)); exact y7_.out) hb); have y4_ := Aside0.mk (below_step (by repeat (first | (with_reducible first | exact HB.out | apply below_alloc | apply pw_below_drewN | apply below_drew1 | refine below_set ?_ y9_.out) | exact HB.out)) hb); clear y7_; clear HB; have y7_ := y3_; have HB := y4_; clear y3_ y4_; (try clear hb); (try clear hb2); (try clear hk); (try clear hi))))
     go_ret
     exact ⟨by first | rfl | (simp [errW_none, errW_some] <;> rfl) | (simp [*, errW_none, errW_some] <;> rfl), by repeat (first | (with_reducible first | exact HB.out | apply below_alloc | apply pw_below_drewN | apply below_drew1 | refine below_set ?_ y9_.out) | exact HB.out)⟩
   | skip
     go_enter Try.func113, Try.ntmps113
     go_wp2_with (first | ((with_reducible refine gate_dst (N := 3) rfl ?_); refine box_event ?hg (N := 3) ?hd (cs := #[.int .i64 a0_0, .int .i64 a0_1]) (t := 32) ?hr ?_; (case hd => rfl); (case hg => rfl); (case hr => first | (go_simp; done) | (go_simp; rfl)); intro y1_ hg y2_ hbox hb; have y3_ := Aside0.mk (below_step (by repeat (first | (with_reducible first | exact HB.out | apply below_alloc | apply pw_below_drewN | apply below_drew1) | exact HB.out)) hb); have y4_ := Aside0.mk (hbox); have y5_ := Aside0.mk ((by rw [hg]; exact (below_size (by repeat (first | (with_reducible first | exact HB.out | apply below_alloc | apply pw_below_drewN | apply below_drew1) | exact HB.out))) : w.heap.size ≤ y1_)); have y6_ := Aside0.mk ((by rw [hg]; exact (below_size (by repeat (first | (with_reducible first | exact HB.out | apply below_alloc | apply pw_below_drewN | apply below_drew1) | exact HB.out))) : w.heap.size ≤ y1_)); clear HB; have HB := y3_; have y7_ := y4_; have y8_ := y5_; have y9_ := y6_; clear y3_ y4_ y5_ y6_; clear hb hbox hg; have y10_ : y2_.cell? ⟨y1_, 0, none⟩ = some (.int .i64 a0_0) := (blk_cell y7_.out 0).trans rfl; have y11_ : y2_.cell? ⟨y1_, 1, none⟩ = some (.int .i64 a0_1) := (blk_cell y7_.out 1).trans rfl; have y12_ := blk_frozen y7_.out 0; have y13_ := blk_frozen y7_.out 1) | (go_at_call 104; (with_reducible refine (impl_isNode.calls _ _ _ _ _ z4_.out).mono ?_); rintro e y14_ ⟨rfl, hb⟩; have y3_ := Aside0.mk (blk_below (g := y1_) (o := .cells #[.int .i64 a0_0, .int .i64 a0_1] 32 (0, 0)) (by (with_reducible repeat (first | refine blk_drewN ?_ _ | refine blk_drew ?_ | refine blk_alloc ?_ _)); exact y7_.out) hb); have y4_ := Aside0.mk (below_step (by repeat (first | (with_reducible first | exact HB.out | apply below_alloc | apply pw_below_drewN | apply below_drew1 | refine below_set ?_ y9_.out) | exact HB.out)) hb); clear y7_; clear HB; have y7_ := y3_; have HB := y4_; clear y3_ y4_; (try clear hb); (try clear hb2); (try clear hk); (try clear hi); have y15_ : y14_.cell? ⟨y1_, 0, none⟩ = some (.int .i64 a0_0) := (blk_cell y7_.out 0).trans rfl; have y16_ : y14_.cell? ⟨y1_, 1, none⟩ = some (.int .i64 a0_1) := (blk_cell y7_.out 1).trans rfl; have y17_ := blk_frozen y7_.out 0; have y18_ := blk_frozen y7_.out 1) | (go_at_call 149; (with_reducible refine (impl_NodeAt.calls _ _ _ _ _ _ z24_.out).mono ?_); rintro e y19_ ⟨rfl, hb⟩; have y3_ := Aside0.mk (blk_below (g := y1_) (o := .cells #[.int .i64 a0_0, .int .i64 a0_1] 32 (0, 0)) (by (with_reducible repeat (first | refine blk_drewN ?_ _ | refine blk_drew ?_ | refine blk_alloc ?_ _)); exact y7_.out) hb); have y4_ := Aside0.mk (below_step (by repeat (first | (with_reducible first | exact HB.out | apply below_alloc | apply pw_below_drewN | apply below_drew1 | refine below_set ?_ y9_.out) | exact HB.out)) hb); clear y7_; clear HB; have y7_ := y3_; have HB := y4_; clear y3_ y4_; (try clear hb); (try clear hb2); (try clear hk); (try clear hi)))
     repeat (go_quiet (first | ((with_reducible refine gate_dst (N := 3) rfl ?_); refine box_event ?hg (N := 3) ?hd (cs := #[.int .i64 a0_0, .int .i64 a0_1]) (t := 32) ?hr ?_; (case hd => rfl); (case hg => rfl); (case hr => first | (go_simp; done) | (go_simp; rfl)); intro y1_ hg y2_ hbox hb; have y3_ := Aside0.mk (below_step (by repeat (first | (with_reducible first | exact HB.out | apply below_alloc | apply pw_below_drewN | apply below_drew1) | exact HB.out)) hb); have y4_ := Aside0.mk (hbox); have y5_ := Aside0.mk ((by rw [hg]; exact (below_size (by repeat (first | (with_reducible first | exact HB.out | apply below_alloc | apply pw_below_drewN | apply below_drew1) | exact HB.out))) : w.heap.size ≤ y1_)); have y6_ := Aside0.mk ((by rw [hg]; exact (below_size (by repeat (first | (with_reducible first | exact HB.out | apply below_alloc | apply pw_below_drewN | apply below_drew1) | exact HB.out))) : w.heap.size ≤ y1_)); clear HB; have HB := y3_; have y7_ := y4_; have y8_ := y5_; have y9_ := y6_; clear y3_ y4_ y5_ y6_; clear hb hbox hg; have y10_ : y2_.cell? ⟨y1_, 0, none⟩ = some (.int .i64 a0_0) := (blk_cell y7_.out 0).trans rfl; have y11_ : y2_.cell? ⟨y1_, 1, none⟩ = some (.int .i64 a0_1) := (blk_cell y7_.out 1).trans rfl; have y12_ := blk_frozen y7_.out 0; have y13_ := blk_frozen y7_.out 1) | (go_at_call 104; (with_reducible refine (impl_isNode.calls _ _ _ _ _ z4_.out).mono ?_); rintro e y14_ ⟨rfl, hb⟩; have y3_ := Aside0.mk (blk_below (g := y1_) (o := .cells #[.int .i64 a0_0, .int .i64 a0_1] 32 (0, 0)) (by (with_reducible repeat (first | refine blk_drewN ?_ _ | refine blk_drew ?_ | refine blk_alloc ?_ _)); exact y7_.out) hb); have y4_ := Aside0.mk (below_step (by repeat (first | (with_reducible first | exact HB.out | apply below_alloc | apply pw_below_drewN | apply below_drew1 | refine below_set ?_ y9_.out) | exact HB.out)) hb); clear y7_; clear HB; have y7_ := y3_; have HB := y4_; clear y3_ y4_; (try clear hb); (try clear hb2); (try clear hk); (try clear hi); have y15_ : y14_.cell? ⟨y1_, 0, none⟩ = some (.int .i64 a0_0) := (blk_cell y7_.out 0).trans rfl; have y16_ : y14_.cell? ⟨y1_, 1, none⟩ = some (.int .i64 a0_1) := (blk_cell y7_.out 1).trans rfl; have y17_ := blk_frozen y7_.out 0; have y18_ := blk_frozen y7_.out 1) | (go_at_call 149; (with_reducible refine (impl_NodeAt.calls _ _ _ _ _ _ z24_.out).mono ?_); rintro e y19_ ⟨rfl, hb⟩; have y3_ := Aside0.mk (blk_below (g := y1_) (o := .cells #[.int .i64 a0_0, .int .i64 a0_1] 32 (0, 0)) (by (with_reducible repeat (first | refine blk_drewN ?_ _ | refine blk_drew ?_ | refine blk_alloc ?_ _)); exact y7_.out) hb); have y4_ := Aside0.mk (below_step (by repeat (first | (with_reducible first | exact HB.out | apply below_alloc | apply pw_below_drewN | apply below_drew1 | refine below_set ?_ y9_.out) | exact HB.out)) hb); clear y7_; clear HB; have y7_ := y3_; have HB := y4_; clear y3_ y4_; (try clear hb); (try clear hb2); (try clear hk); (try clear hi))); try go_wp2_with (first | ((with_reducible refine gate_dst (N := 3) rfl ?_); refine box_event ?hg (N := 3) ?hd (cs := #[.int .i64 a0_0, .int .i64 a0_1]) (t := 32) ?hr ?_; (case hd => rfl); (case hg => rfl); (case hr => first | (go_simp; done) | (go_simp; rfl)); intro y1_ hg y2_ hbox hb; have y3_ := Aside0.mk (below_step (by repeat (first | (with_reducible first | exact HB.out | apply below_alloc | apply pw_below_drewN | apply below_drew1) | exact HB.out)) hb); have y4_ := Aside0.mk (hbox); have y5_ := Aside0.mk ((by rw [hg]; exact (below_size (by repeat (first | (with_reducible first | exact HB.out | apply below_alloc | apply pw_below_drewN | apply below_drew1) | exact HB.out))) : w.heap.size ≤ y1_)); have y6_ := Aside0.mk ((by rw [hg]; exact (below_size (by repeat (first | (with_reducible first | exact HB.out | apply below_alloc | apply pw_below_drewN | apply below_drew1) | exact HB.out))) : w.heap.size ≤ y1_)); clear HB; have HB := y3_; have y7_ := y4_; have y8_ := y5_; have y9_ := y6_; clear y3_ y4_ y5_ y6_; clear hb hbox hg; have y10_ : y2_.cell? ⟨y1_, 0, none⟩ = some (.int .i64 a0_0) := (blk_cell y7_.out 0).trans rfl; have y11_ : y2_.cell? ⟨y1_, 1, none⟩ = some (.int .i64 a0_1) := (blk_cell y7_.out 1).trans rfl; have y12_ := blk_frozen y7_.out 0; have y13_ := blk_frozen y7_.out 1) | (go_at_call 104; (with_reducible refine (impl_isNode.calls _ _ _ _ _ z4_.out).mono ?_); rintro e y14_ ⟨rfl, hb⟩; have y3_ := Aside0.mk (blk_below (g := y1_) (o := .cells #[.int .i64 a0_0, .int .i64 a0_1] 32 (0, 0)) (by (with_reducible repeat (first | refine blk_drewN ?_ _ | refine blk_drew ?_ | refine blk_alloc ?_ _)); exact y7_.out) hb); have y4_ := Aside0.mk (below_step (by repeat (first | (with_reducible first | exact HB.out | apply below_alloc | apply pw_below_drewN | apply below_drew1 | refine below_set ?_ y9_.out) | exact HB.out)) hb); clear y7_; clear HB; have y7_ := y3_; have HB := y4_; clear y3_ y4_; (try clear hb); (try clear hb2); (try clear hk); (try clear hi); have y15_ : y14_.cell? ⟨y1_, 0, none⟩ = some (.int .i64 a0_0) := (blk_cell y7_.out 0).trans rfl; have y16_ : y14_.cell? ⟨y1_, 1, none⟩ = some (.int .i64 a0_1) := (blk_cell y7_.out 1).trans rfl; have y17_ := blk_frozen y7_.out 0; have y18_ := blk_frozen y7_.out 1) | (go_at_call 149; (with_reducible refine (impl_NodeAt.calls _ _ _ _ _ _ z24_.out).mono ?_); rintro e y19_ ⟨rfl, hb⟩; have y3_ := Aside0.mk (blk_below (g := y1_) (o := .cells #[.int .i64 a0_0, .int .i64 a0_1] 32 (0, 0)) (by (with_reducible repeat (first | refine blk_drewN ?_ _ | refine blk_drew ?_ | refine blk_alloc ?_ _)); exact y7_.out) hb); have y4_ := Aside0.mk (below_step (by repeat (first | (with_reducible first | exact HB.out | apply below_alloc | apply pw_below_drewN | apply below_drew1 | refine below_set ?_ y9_.out) | exact HB.out)) hb); clear y7_; clear HB; have y7_ := y3_; have HB := y4_; clear y3_ y4_; (try clear hb); (try clear hb2); (try clear hk); (try clear hi))))
     go_ret
     exact ⟨by first | rfl | (simp [errW_none, errW_some] <;> rfl) | (simp [*, errW_none, errW_some] <;> rfl), by repeat (first | (with_reducible first | exact HB.out | apply below_alloc | apply pw_below_drewN | apply below_drew1 | refine below_set ?_ y9_.out) | exact HB.out)⟩
   | skip
     go_enter Try.func113, Try.ntmps113
     go_wp2_with (first | ((with_reducible refine gate_dst (N := 3) rfl ?_); refine box_event ?hg (N := 3) ?hd (cs := #[.int .i64 a0_0, .int .i64 a0_1]) (t := 32) ?hr ?_; (case hd => rfl); (case hg => rfl); (case hr => first | (go_simp; done) | (go_simp; rfl)); intro y1_ hg y2_ hbox hb; have y3_ := Aside0.mk (below_step (by repeat (first | (with_reducible first | exact HB.out | apply below_alloc | apply pw_below_drewN | apply below_drew1) | exact HB.out)) hb); have y4_ := Aside0.mk (hbox); have y5_ := Aside0.mk ((by rw [hg]; exact (below_size (by repeat (first | (with_reducible first | exact HB.out | apply below_alloc | apply pw_below_drewN | apply below_drew1) | exact HB.out))) : w.heap.size ≤ y1_)); have y6_ := Aside0.mk ((by rw [hg]; exact (below_size (by repeat (first | (with_reducible first | exact HB.out | apply below_alloc | apply pw_below_drewN | apply below_drew1) | exact HB.out))) : w.heap.size ≤ y1_)); clear HB; have HB := y3_; have y7_ := y4_; have y8_ := y5_; have y9_ := y6_; clear y3_ y4_ y5_ y6_; clear hb hbox hg; have y10_ : y2_.cell? ⟨y1_, 0, none⟩ = some (.int .i64 a0_0) := (blk_cell y7_.out 0).trans rfl; have y11_ : y2_.cell? ⟨y1_, 1, none⟩ = some (.int .i64 a0_1) := (blk_cell y7_.out 1).trans rfl; have y12_ := blk_frozen y7_.out 0; have y13_ := blk_frozen y7_.out 1) | (go_at_call 104; (with_reducible refine (impl_isNode.calls _ _ _ _ _ z4_.out).mono ?_); rintro e y14_ ⟨rfl, hb⟩; have y3_ := Aside0.mk (blk_below (g := y1_) (o := .cells #[.int .i64 a0_0, .int .i64 a0_1] 32 (0, 0)) (by (with_reducible repeat (first | refine blk_drewN ?_ _ | refine blk_drew ?_ | refine blk_alloc ?_ _)); exact y7_.out) hb); have y4_ := Aside0.mk (below_step (by repeat (first | (with_reducible first | exact HB.out | apply below_alloc | apply pw_below_drewN | apply below_drew1 | refine below_set ?_ y9_.out) | exact HB.out)) hb); clear y7_; clear HB; have y7_ := y3_; have HB := y4_; clear y3_ y4_; (try clear hb); (try clear hb2); (try clear hk); (try clear hi); have y15_ : y14_.cell? ⟨y1_, 0, none⟩ = some (.int .i64 a0_0) := (blk_cell y7_.out 0).trans rfl; have y16_ : y14_.cell? ⟨y1_, 1, none⟩ = some (.int .i64 a0_1) := (blk_cell y7_.out 1).trans rfl; have y17_ := blk_frozen y7_.out 0; have y18_ := blk_frozen y7_.out 1))
     repeat (go_quiet (first | ((with_reducible refine gate_dst (N := 3) rfl ?_); refine box_event ?hg (N := 3) ?hd (cs := #[.int .i64 a0_0, .int .i64 a0_1]) (t := 32) ?hr ?_; (case hd => rfl); (case hg => rfl); (case hr => first | (go_simp; done) | (go_simp; rfl)); intro y1_ hg y2_ hbox hb; have y3_ := Aside0.mk (below_step (by repeat (first | (with_reducible first | exact HB.out | apply below_alloc | apply pw_below_drewN | apply below_drew1) | exact HB.out)) hb); have y4_ := Aside0.mk (hbox); have y5_ := Aside0.mk ((by rw [hg]; exact (below_size (by repeat (first | (with_reducible first | exact HB.out | apply below_alloc | apply pw_below_drewN | apply below_drew1) | exact HB.out))) : w.heap.size ≤ y1_)); have y6_ := Aside0.mk ((by rw [hg]; exact (below_size (by repeat (first | (with_reducible first | exact HB.out | apply below_alloc | apply pw_below_drewN | apply below_drew1) | exact HB.out))) : w.heap.size ≤ y1_)); clear HB; have HB := y3_; have y7_ := y4_; have y8_ := y5_; have y9_ := y6_; clear y3_ y4_ y5_ y6_; clear hb hbox hg; have y10_ : y2_.cell? ⟨y1_, 0, none⟩ = some (.int .i64 a0_0) := (blk_cell y7_.out 0).trans rfl; have y11_ : y2_.cell? ⟨y1_, 1, none⟩ = some (.int .i64 a0_1) := (blk_cell y7_.out 1).trans rfl; have y12_ := blk_frozen y7_.out 0; have y13_ := blk_frozen y7_.out 1) | (go_at_call 104; (with_reducible refine (impl_isNode.calls _ _ _ _ _ z4_.out).mono ?_); rintro e y14_ ⟨rfl, hb⟩; have y3_ := Aside0.mk (blk_below (g := y1_) (o := .cells #[.int .i64 a0_0, .int .i64 a0_1] 32 (0, 0)) (by (with_reducible repeat (first | refine blk_drewN ?_ _ | refine blk_drew ?_ | refine blk_alloc ?_ _)); exact y7_.out) hb); have y4_ := Aside0.mk (below_step (by repeat (first | (with_reducible first | exact HB.out | apply below_alloc | apply pw_below_drewN | apply below_drew1 | refine below_set ?_ y9_.out) | exact HB.out)) hb); clear y7_; clear HB; have y7_ := y3_; have HB := y4_; clear y3_ y4_; (try clear hb); (try clear hb2); (try clear hk); (try clear hi); have y15_ : y14_.cell? ⟨y1_, 0, none⟩ = some (.int .i64 a0_0) := (blk_cell y7_.out 0).trans rfl; have y16_ : y14_.cell? ⟨y1_, 1, none⟩ = some (.int .i64 a0_1) := (blk_cell y7_.out 1).trans rfl; have y17_ := blk_frozen y7_.out 0; have y18_ := blk_frozen y7_.out 1)); try go_wp2_with (first | ((with_reducible refine gate_dst (N := 3) rfl ?_); refine box_event ?hg (N := 3) ?hd (cs := #[.int .i64 a0_0, .int .i64 a0_1]) (t := 32) ?hr ?_; (case hd => rfl); (case hg => rfl); (case hr => first | (go_simp; done) | (go_simp; rfl)); intro y1_ hg y2_ hbox hb; have y3_ := Aside0.mk (below_step (by repeat (first | (with_reducible first | exact HB.out | apply below_alloc | apply pw_below_drewN | apply below_drew1) | exact HB.out)) hb); have y4_ := Aside0.mk (hbox); have y5_ := Aside0.mk ((by rw [hg]; exact (below_size (by repeat (first | (with_reducible first | exact HB.out | apply below_alloc | apply pw_below_drewN | apply below_drew1) | exact HB.out))) : w.heap.size ≤ y1_)); have y6_ := Aside0.mk ((by rw [hg]; exact (below_size (by repeat (first | (with_reducible first | exact HB.out | apply below_alloc | apply pw_below_drewN | apply below_drew1) | exact HB.out))) : w.heap.size ≤ y1_)); clear HB; have HB := y3_; have y7_ := y4_; have y8_ := y5_; have y9_ := y6_; clear y3_ y4_ y5_ y6_; clear hb hbox hg; have y10_ : y2_.cell? ⟨y1_, 0, none⟩ = some (.int .i64 a0_0) := (blk_cell y7_.out 0).trans rfl; have y11_ : y2_.cell? ⟨y1_, 1, none⟩ = some (.int .i64 a0_1) := (blk_cell y7_.out 1).trans rfl; have y12_ := blk_frozen y7_.out 0; have y13_ := blk_frozen y7_.out 1) | (go_at_call 104; (with_reducible refine (impl_isNode.calls _ _ _ _ _ z4_.out).mono ?_); rintro e y14_ ⟨rfl, hb⟩; have y3_ := Aside0.mk (blk_below (g := y1_) (o := .cells #[.int .i64 a0_0, .int .i64 a0_1] 32 (0, 0)) (by (with_reducible repeat (first | refine blk_drewN ?_ _ | refine blk_drew ?_ | refine blk_alloc ?_ _)); exact y7_.out) hb); have y4_ := Aside0.mk (below_step (by repeat (first | (with_reducible first | exact HB.out | apply below_alloc | apply pw_below_drewN | apply below_drew1 | refine below_set ?_ y9_.out) | exact HB.out)) hb); clear y7_; clear HB; have y7_ := y3_; have HB := y4_; clear y3_ y4_; (try clear hb); (try clear hb2); (try clear hk); (try clear hi); have y15_ : y14_.cell? ⟨y1_, 0, none⟩ = some (.int .i64 a0_0) := (blk_cell y7_.out 0).trans rfl; have y16_ : y14_.cell? ⟨y1_, 1, none⟩ = some (.int .i64 a0_1) := (blk_cell y7_.out 1).trans rfl; have y17_ := blk_frozen y7_.out 0; have y18_ := blk_frozen y7_.out 1)))
     go_ret
     exact ⟨by first | rfl | (simp [errW_none, errW_some] <;> rfl) | (simp [*, errW_none, errW_some] <;> rfl), by repeat (first | (with_reducible first | exact HB.out | apply below_alloc | apply pw_below_drewN | apply below_drew1 | refine below_set ?_ y9_.out) | exact HB.out)⟩
   | skip
     go_enter Try.func113, Try.ntmps113
     go_wp2_with (first | ((with_reducible refine gate_dst (N := 3) rfl ?_); refine box_event ?hg (N := 3) ?hd (cs := #[.int .i64 a0_0, .int .i64 a0_1]) (t := 32) ?hr ?_; (case hd => rfl); (case hg => rfl); (case hr => first | (go_simp; done) | (go_simp; rfl)); intro y1_ hg y2_ hbox hb; have y3_ := Aside0.mk (below_step (by repeat (first | (with_reducible first | exact HB.out | apply below_alloc | apply pw_below_drewN | apply below_drew1) | exact HB.out)) hb); have y4_ := Aside0.mk (hbox); have y5_ := Aside0.mk ((by rw [hg]; exact (below_size (by repeat (first | (with_reducible first | exact HB.out | apply below_alloc | apply pw_below_drewN | apply below_drew1) | exact HB.out))) : w.heap.size ≤ y1_)); have y6_ := Aside0.mk ((by rw [hg]; exact (below_size (by repeat (first | (with_reducible first | exact HB.out | apply below_alloc | apply pw_below_drewN | apply below_drew1) | exact HB.out))) : w.heap.size ≤ y1_)); clear HB; have HB := y3_; have y7_ := y4_; have y8_ := y5_; have y9_ := y6_; clear y3_ y4_ y5_ y6_; clear hb hbox hg; have y10_ : y2_.cell? ⟨y1_, 0, none⟩ = some (.int .i64 a0_0) := (blk_cell y7_.out 0).trans rfl; have y11_ : y2_.cell? ⟨y1_, 1, none⟩ = some (.int .i64 a0_1) := (blk_cell y7_.out 1).trans rfl; have y12_ := blk_frozen y7_.out 0; have y13_ := blk_frozen y7_.out 1) | (go_at_call 104; (with_reducible refine (impl_isNode.calls _ _ _ _ _ z4_.out).mono ?_); rintro e y14_ ⟨rfl, hb⟩; have y3_ := Aside0.mk (blk_below (g := y1_) (o := .cells #[.int .i64 a0_0, .int .i64 a0_1] 32 (0, 0)) (by (with_reducible repeat (first | refine blk_drewN ?_ _ | refine blk_drew ?_ | refine blk_alloc ?_ _)); exact y7_.out) hb); have y4_ := Aside0.mk (below_step (by repeat (first | (with_reducible first | exact HB.out | apply below_alloc | apply pw_below_drewN | apply below_drew1 | refine below_set ?_ y9_.out) | exact HB.out)) hb); clear y7_; clear HB; have y7_ := y3_; have HB := y4_; clear y3_ y4_; (try clear hb); (try clear hb2); (try clear hk); (try clear hi)))
     repeat (go_quiet (first | ((with_reducible refine gate_dst (N := 3) rfl ?_); refine box_event ?hg (N := 3) ?hd (cs := #[.int .i64 a0_0, .int .i64 a0_1]) (t := 32) ?hr ?_; (case hd => rfl); (case hg => rfl); (case hr => first | (go_simp; done) | (go_simp; rfl)); intro y1_ hg y2_ hbox hb; have y3_ := Aside0.mk (below_step (by repeat (first | (with_reducible first | exact HB.out | apply below_alloc | apply pw_below_drewN | apply below_drew1) | exact HB.out)) hb); have y4_ := Aside0.mk (hbox); have y5_ := Aside0.mk ((by rw [hg]; exact (below_size (by repeat (first | (with_reducible first | exact HB.out | apply below_alloc | apply pw_below_drewN | apply below_drew1) | exact HB.out))) : w.heap.size ≤ y1_)); have y6_ := Aside0.mk ((by rw [hg]; exact (below_size (by repeat (first | (with_reducible first | exact HB.out | apply below_alloc | apply pw_below_drewN | apply below_drew1) | exact HB.out))) : w.heap.size ≤ y1_)); clear HB; have HB := y3_; have y7_ := y4_; have y8_ := y5_; have y9_ := y6_; clear y3_ y4_ y5_ y6_; clear hb hbox hg; have y10_ : y2_.cell? ⟨y1_, 0, none⟩ = some (.int .i64 a0_0) := (blk_cell y7_.out 0).trans rfl; have y11_ : y2_.cell? ⟨y1_, 1, none⟩ = some (.int .i64 a0_1) := (blk_cell y7_.out 1).trans rfl; have y12_ := blk_frozen y7_.out 0; have y13_ := blk_frozen y7_.out 1) | (go_at_call 104; (with_reducible refine (impl_isNode.calls _ _ _ _ _ z4_.out).mono ?_); rintro e y14_ ⟨rfl, hb⟩; have y3_ := Aside0.mk (blk_below (g := y1_) (o := .cells #[.int .i64 a0_0, .int .i64 a0_1] 32 (0, 0)) (by (with_reducible repeat (first | refine blk_drewN ?_ _ | refine blk_drew ?_ | refine blk_alloc ?_ _)); exact y7_.out) hb); have y4_ := Aside0.mk (below_step (by repeat (first | (with_reducible first | exact HB.out | apply below_alloc | apply pw_below_drewN | apply below_drew1 | refine below_set ?_ y9_.out) | exact HB.out)) hb); clear y7_; clear HB; have y7_ := y3_; have HB := y4_; clear y3_ y4_; (try clear hb); (try clear hb2); (try clear hk); (try clear hi))); try go_wp2_with (first | ((with_reducible refine gate_dst (N := 3) rfl ?_); refine box_event ?hg (N := 3) ?hd (cs := #[.int .i64 a0_0, .int .i64 a0_1]) (t := 32) ?hr ?_; (case hd => rfl); (case hg => rfl); (case hr => first | (go_simp; done) | (go_simp; rfl)); intro y1_ hg y2_ hbox hb; have y3_ := Aside0.mk (below_step (by repeat (first | (with_reducible first | exact HB.out | apply below_alloc | apply pw_below_drewN | apply below_drew1) | exact HB.out)) hb); have y4_ := Aside0.mk (hbox); have y5_ := Aside0.mk ((by rw [hg]; exact (below_size (by repeat (first | (with_reducible first | exact HB.out | apply below_alloc | apply pw_below_drewN | apply below_drew1) | exact HB.out))) : w.heap.size ≤ y1_)); have y6_ := Aside0.mk ((by rw [hg]; exact (below_size (by repeat (first | (with_reducible first | exact HB.out | apply below_alloc | apply pw_below_drewN | apply below_drew1) | exact HB.out))) : w.heap.size ≤ y1_)); clear HB; have HB := y3_; have y7_ := y4_; have y8_ := y5_; have y9_ := y6_; clear y3_ y4_ y5_ y6_; clear hb hbox hg; have y10_ : y2_.cell? ⟨y1_, 0, none⟩ = some (.int .i64 a0_0) := (blk_cell y7_.out 0).trans rfl; have y11_ : y2_.cell? ⟨y1_, 1, none⟩ = some (.int .i64 a0_1) := (blk_cell y7_.out 1).trans rfl; have y12_ := blk_frozen y7_.out 0; have y13_ := blk_frozen y7_.out 1) | (go_at_call 104; (with_reducible refine (impl_isNode.calls _ _ _ _ _ z4_.out).mono ?_); rintro e y14_ ⟨rfl, hb⟩; have y3_ := Aside0.mk (blk_below (g := y1_) (o := .cells #[.int .i64 a0_0, .int .i64 a0_1] 32 (0, 0)) (by (with_reducible repeat (first | refine blk_drewN ?_ _ | refine blk_drew ?_ | refine blk_alloc ?_ _)); exact y7_.out) hb); have y4_ := Aside0.mk (below_step (by repeat (first | (with_reducible first | exact HB.out | apply below_alloc | apply pw_below_drewN | apply below_drew1 | refine below_set ?_ y9_.out) | exact HB.out)) hb); clear y7_; clear HB; have y7_ := y3_; have HB := y4_; clear y3_ y4_; (try clear hb); (try clear hb2); (try clear hk); (try clear hi))))
     go_ret
     exact ⟨by first | rfl | (simp [errW_none, errW_some] <;> rfl) | (simp [*, errW_none, errW_some] <;> rfl), by repeat (first | (with_reducible first | exact HB.out | apply below_alloc | apply pw_below_drewN | apply below_drew1 | refine below_set ?_ y9_.out) | exact HB.out)⟩
def impl_endOf.f (a0_0 : Int) (a0_1 : Int) (l0_2 : List Int) (a1 : Int) : Option (Int) := (impl_NextNode.f a0_0 a0_1 (wrap64 (Int.tdiv a1 4)) (Int.tmod a1 4)).bind fun t102 => (some t102)
set_option maxHeartbeats 8000000 in
set_option maxRecDepth 100000 in
theorem impl_endOf.calls (a0_0 : Int) (a0_1 : Int) (A0_2 : Option Addr) (c0_2 : Nat) (l0_2 : List Int) (a1 : Int) (r : Int) (w : World) (hr0_2 : Kd.C (Kd.int .i64) w A0_2 l0_2.length l0_2) (hc0_2 : l0_2.length ≤ c0_2) (h : impl_endOf.f a0_0 a0_1 l0_2 a1 = some r) :
    Calls Try.prog 68 #[.agg #[.int .i64 a0_0, .int .i64 a0_1, .slice A0_2 l0_2.length c0_2], .int .i64 a1] w fun e w' => e = .returned (.int .i64 r) ∧ Below w.heap.size w w' := by
 have z1_ := Try.underlying34
 have z2_ := Try.underlying32
 have z3_ := Aside0.mk hr0_2
 have z4_ := Aside0.mk hc0_2
 clear hr0_2 hc0_2
 have HB := Aside0.mk (Below.refl w.heap.size w)
 have H : ((impl_NextNode.f a0_0 a0_1 (wrap64 (Int.tdiv a1 4)) (Int.tmod a1 4)).bind fun t102 => (some t102)) = some r := h
 clear h
 replace H := Option.bind_eq_some_iff.mp H
 obtain ⟨z5_, z6_, H⟩ := H
 replace H : (some z5_) = some r := H
 have z7_ := Aside0.mk z6_
 clear z6_
 obtain rfl := Option.some.inj H
 go_enter Try.func68, Try.ntmps68
 go_wp2_with (first | ((with_reducible refine gate_dst (N := 2) rfl ?_); refine box_event ?hg (N := 2) ?hd (cs := #[.int .i64 a0_0, .int .i64 a0_1, .slice A0_2 l0_2.length c0_2]) (t := 34) ?hr ?_; (case hd => rfl); (case hg => rfl); (case hr => first | (go_simp; done) | (go_simp; rfl)); intro z8_ hg z9_ hbox hb; have z10_ := Aside0.mk (below_step (by repeat (first | (with_reducible first | exact HB.out | apply below_alloc | apply pw_below_drewN | apply below_drew1) | exact HB.out)) hb); have z11_ := Aside0.mk (hbox); have z12_ := Aside0.mk ((by rw [hg]; exact (below_size (by repeat (first | (with_reducible first | exact HB.out | apply below_alloc | apply pw_below_drewN | apply below_drew1) | exact HB.out))) : w.heap.size ≤ z8_)); have z13_ := Aside0.mk ((by rw [hg]; exact (below_size (by repeat (first | (with_reducible first | exact HB.out | apply below_alloc | apply pw_below_drewN | apply below_drew1) | exact HB.out))) : w.heap.size ≤ z8_)); clear HB; have HB := z10_; have z14_ := z11_; have z15_ := z12_; have z16_ := z13_; clear z10_ z11_ z12_ z13_; clear hb hbox hg; have z17_ : z9_.cell? ⟨z8_, 0, none⟩ = some (.int .i64 a0_0) := (blk_cell z14_.out 0).trans rfl; have z18_ : z9_.cell? ⟨z8_, 1, none⟩ = some (.int .i64 a0_1) := (blk_cell z14_.out 1).trans rfl; have z19_ : z9_.cell? ⟨z8_, 2, none⟩ = some (.slice A0_2 l0_2.length c0_2) := (blk_cell z14_.out 2).trans rfl; have z20_ := blk_frozen z14_.out 0; have z21_ := blk_frozen z14_.out 1; have z22_ := blk_frozen z14_.out 2) | ((with_reducible refine gate_callee (f := 113) rfl ?_); refine goesL_ (some 11) rfl rfl Try.func113 (by kernel_rfl) rfl #[.agg #[.int .i64 a0_0, .int .i64 a0_1], .int .i64 (wrap64 (Int.tdiv a1 4)), .int .i64 (Int.tmod a1 4)] rfl (by (try simp only [List.map_toArray, List.map_cons, List.map_nil]); first | done | rfl | (simp only [List.length_drop, List.length_take]; rfl)) ?_; (with_reducible refine (impl_NextNode.calls _ _ _ _ _ _ z7_.out).mono ?_); rintro e z23_ ⟨rfl, hb⟩; refine ⟨_, rfl, ?_⟩; have z10_ := Aside0.mk (blk_below (g := z8_) (o := .cells #[.int .i64 a0_0, .int .i64 a0_1, .slice A0_2 l0_2.length c0_2] 34 (0, 0)) (by (with_reducible repeat (first | refine blk_drewN ?_ _ | refine blk_drew ?_ | refine blk_alloc ?_ _)); exact z14_.out) hb); have z11_ := Aside0.mk (below_step (by repeat (first | (with_reducible first | exact HB.out | apply below_alloc | apply pw_below_drewN | apply below_drew1 | refine below_set ?_ z16_.out) | exact HB.out)) hb); clear z14_; clear HB; have z14_ := z10_; have HB := z11_; clear z10_ z11_; (try clear hb); (try clear hb2); (try clear hk); (try clear hi)))
 go_ret
 exact ⟨by first | rfl | (simp [errW_none, errW_some] <;> rfl) | (simp [*, errW_none, errW_some] <;> rfl), by repeat (first | (with_reducible first | exact HB.out | apply below_alloc | apply pw_below_drewN | apply below_drew1 | refine below_set ?_ z16_.out) | exact HB.out)⟩
def impl_leads.f (a0_0 : Int) (a0_1 : Int) (a1 : Int) : Option (Bool) := (impl_NodeCount.f a0_0 a0_1).bind fun t102 => ((impl_inside.f a1 0 (wrap64 ((wrap64 (4 * t102)) - 1))).bind fun t103 => (if t103 = true then ((impl_NextNode.f a0_0 a0_1 (wrap64 (Int.tdiv a1 4)) (Int.tmod a1 4)).bind fun t104 => (some (decide (t104 ≥ 0)))) else (some false)))
set_option maxHeartbeats 8000000 in
set_option maxRecDepth 100000 in
theorem impl_leads.calls (a0_0 : Int) (a0_1 : Int) (a1 : Int) (r : Bool) (w : World) (h : impl_leads.f a0_0 a0_1 a1 = some r) :
    Calls Try.prog 145 #[.agg #[.int .i64 a0_0, .int .i64 a0_1], .int .i64 a1] w fun e w' => e = .returned (.bool r) ∧ Below w.heap.size w w' := by
 have z1_ := Try.underlying32
 have HB := Aside0.mk (Below.refl w.heap.size w)
 have H : ((impl_NodeCount.f a0_0 a0_1).bind fun t102 => ((impl_inside.f a1 0 (wrap64 ((wrap64 (4 * t102)) - 1))).bind fun t103 => (if t103 = true then ((impl_NextNode.f a0_0 a0_1 (wrap64 (Int.tdiv a1 4)) (Int.tmod a1 4)).bind fun t104 => (some (decide (t104 ≥ 0)))) else (some false)))) = some r := h
 clear h
 replace H := Option.bind_eq_some_iff.mp H
 obtain ⟨z2_, z3_, H⟩ := H
 replace H : ((impl_inside.f a1 0 (wrap64 ((wrap64 (4 * z2_)) - 1))).bind fun t103 => (if t103 = true then ((impl_NextNode.f a0_0 a0_1 (wrap64 (Int.tdiv a1 4)) (Int.tmod a1 4)).bind fun t104 => (some (decide (t104 ≥ 0)))) else (some false))) = some r := H
 have z4_ := Aside0.mk z3_
 clear z3_
 replace H := Option.bind_eq_some_iff.mp H
 obtain ⟨z5_, z6_, H⟩ := H
 replace H : (if z5_ = true then ((impl_NextNode.f a0_0 a0_1 (wrap64 (Int.tdiv a1 4)) (Int.tmod a1 4)).bind fun t104 => (some (decide (t104 ≥ 0)))) else (some false)) = some r := H
 have z7_ := Aside0.mk z6_
 clear z6_
 by_cases z8_ : z5_ = true
 focus
   subst z8_
   have z9_ : ((impl_NextNode.f a0_0 a0_1 (wrap64 (Int.tdiv a1 4)) (Int.tmod a1 4)).bind fun t104 => (some (decide (t104 ≥ 0)))) = some r := by rw [if_pos rfl] at H; exact H
   clear H
   have H := z9_
   clear z9_
   replace H := Option.bind_eq_some_iff.mp H
   obtain ⟨z10_, z11_, H⟩ := H
   replace H : (some (decide (z10_ ≥ 0))) = some r := H
   have z12_ := Aside0.mk z11_
   clear z11_
   obtain rfl := Option.some.inj H
 rotate_left
 focus
   replace z8_ := Bool.eq_false_iff.mpr z8_
   subst z8_
   have z9_ : (some false) = some r := by rw [if_neg (show ¬ (false = true) by decide)] at H; exact H
   clear H
   have H := z9_
   clear z9_
   obtain rfl := Option.some.inj H
 all_goals
   go_enter Try.func145, Try.ntmps145
   go_wp2_with (first | ((with_reducible refine gate_dst (N := 2) rfl ?_); refine box_event ?hg (N := 2) ?hd (cs := #[.int .i64 a0_0, .int .i64 a0_1]) (t := 32) ?hr ?_; (case hd => rfl); (case hg => rfl); (case hr => first | (go_simp; done) | (go_simp; rfl)); intro y1_ hg y2_ hbox hb; have y3_ := Aside0.mk (below_step (by repeat (first | (with_reducible first | exact HB.out | apply below_alloc | apply pw_below_drewN | apply below_drew1) | exact HB.out)) hb); have y4_ := Aside0.mk (hbox); have y5_ := Aside0.mk ((by rw [hg]; exact (below_size (by repeat (first | (with_reducible first | exact HB.out | apply below_alloc | apply pw_below_drewN | apply below_drew1) | exact HB.out))) : w.heap.size ≤ y1_)); have y6_ := Aside0.mk ((by rw [hg]; exact (below_size (by repeat (first | (with_reducible first | exact HB.out | apply below_alloc | apply pw_below_drewN | apply below_drew1) | exact HB.out))) : w.heap.size ≤ y1_)); clear HB; have HB := y3_; have y7_ := y4_; have y8_ := y5_; have y9_ := y6_; clear y3_ y4_ y5_ y6_; clear hb hbox hg; have y10_ : y2_.cell? ⟨y1_, 0, none⟩ = some (.int .i64 a0_0) := (blk_cell y7_.out 0).trans rfl; have y11_ : y2_.cell? ⟨y1_, 1, none⟩ = some (.int .i64 a0_1) := (blk_cell y7_.out 1).trans rfl; have y12_ := blk_frozen y7_.out 0; have y13_ := blk_frozen y7_.out 1) | ((with_reducible refine gate_callee (f := 66) rfl ?_); refine goesL_ (some 7) rfl rfl Try.func66 (by kernel_rfl) rfl #[.agg #[.int .i64 a0_0, .int .i64 a0_1]] rfl (by (try simp only [List.map_toArray, List.map_cons, List.map_nil]); first | done | rfl | (simp only [List.length_drop, List.length_take]; rfl)) ?_; (with_reducible refine (impl_NodeCount.calls _ _ _ _ z4_.out).mono ?_); rintro e y14_ ⟨rfl, hb⟩; refine ⟨_, rfl, ?_⟩; have y3_ := Aside0.mk (blk_below (g := y1_) (o := .cells #[.int .i64 a0_0, .int .i64 a0_1] 32 (0, 0)) (by (with_reducible repeat (first | refine blk_drewN ?_ _ | refine blk_drew ?_ | refine blk_alloc ?_ _)); exact y7_.out) hb); have y4_ := Aside0.mk (below_step (by repeat (first | (with_reducible first | exact HB.out | apply below_alloc | apply pw_below_drewN | apply below_drew1 | refine below_set ?_ y9_.out) | exact HB.out)) hb); clear y7_; clear HB; have y7_ := y3_; have HB := y4_; clear y3_ y4_; (try clear hb); (try clear hb2); (try clear hk); (try clear hi)) | ((with_reducible refine gate_callee (f := 77) rfl ?_); refine goesL_ (some 10) rfl rfl Try.func77 (by kernel_rfl) rfl #[.int .i64 a1, .int .i64 0, .int .i64 (wrap64 ((wrap64 (4 * z2_)) - 1))] rfl (by (try simp only [List.map_toArray, List.map_cons, List.map_nil]); first | done | rfl | (simp only [List.length_drop, List.length_take]; rfl)) ?_; (with_reducible refine (impl_inside.calls _ _ _ _ _ z7_.out).mono ?_); rintro e w' ⟨rfl, ⟨nd, rfl⟩⟩; refine ⟨_, rfl, ?_⟩; have y15_ : y14_.cell? ⟨y1_, 0, none⟩ = some (.int .i64 a0_0) := (blk_cell y7_.out 0).trans rfl; have y16_ : y14_.cell? ⟨y1_, 1, none⟩ = some (.int .i64 a0_1) := (blk_cell y7_.out 1).trans rfl; have y17_ := blk_frozen y7_.out 0; have y18_ := blk_frozen y7_.out 1) | (go_at_call 113; (with_reducible refine (impl_NextNode.calls _ _ _ _ _ _ z12_.out).mono ?_); rintro e y19_ ⟨rfl, hb⟩; have y3_ := Aside0.mk (blk_below (g := y1_) (o := .cells #[.int .i64 a0_0, .int .i64 a0_1] 32 (0, 0)) (by (with_reducible repeat (first | refine blk_drewN ?_ _ | refine blk_drew ?_ | refine blk_alloc ?_ _)); exact y7_.out) hb); have y4_ := Aside0.mk (below_step (by repeat (first | (with_reducible first | exact HB.out | apply below_alloc | apply pw_below_drewN | apply below_drew1 | refine below_set ?_ y9_.out) | exact HB.out)) hb); clear y7_; clear HB; have y7_ := y3_; have HB := y4_; clear y3_ y4_; (try clear hb); (try clear hb2); (try clear hk); (try clear hi)) | ((with_reducible refine gate_callee (f := 77) rfl ?_); refine goesL_ (some 10) rfl rfl Try.func77 (by kernel_rfl) rfl #[.int .i64 a1, .int .i64 0, .int .i64 (wrap64 ((wrap64 (4 * z2_)) - 1))] rfl (by (try simp only [List.map_toArray, List.map_cons, List.map_nil]); first | done | rfl | (simp only [List.length_drop, List.length_take]; rfl)) ?_; (with_reducible refine (impl_inside.calls _ _ _ _ _ z7_.out).mono ?_); rintro e w' ⟨rfl, ⟨nd, rfl⟩⟩; refine ⟨_, rfl, ?_⟩))
   go_ret
   exact ⟨by first | rfl | (simp [errW_none, errW_some] <;> rfl) | (simp [*, errW_none, errW_some] <;> rfl), by repeat (first | (with_reducible first | exact HB.out | apply below_alloc | apply pw_below_drewN | apply below_drew1 | refine below_set ?_ y9_.out) | exact HB.out)⟩
def impl_MeshOk.l0 : Nat → List Int → Int → Int → Int → Int → List Int → Option (Bool)
  | 0, _, _, _, _, _, _ => none
  | k + 1, x6, x7, x8, x102000, x102001, x102002 => if x8 < x7 then (if 0 ≤ x8 then (if x8 < (x6.length : Int) then ((impl_leads.f x102000 x102001 (rd x6 x8)).bind fun t103 => (if t103 = true then (if x8 > 0 then (if 0 ≤ (wrap64 (x8 - 1)) then (if (wrap64 (x8 - 1)) < (x102002.length : Int) then (if (rd x102002 (wrap64 (x8 - 1))) ≥ (rd x6 x8) then (some false) else (impl_MeshOk.l0 k x6 x7 (wrap64 (x8 + 1)) x102000 x102001 x102002)) else (none)) else (none)) else (impl_MeshOk.l0 k x6 x7 (wrap64 (x8 + 1)) x102000 x102001 x102002)) else (some false))) else (none)) else (none)) else ((impl_GridOk.f x102000 x102001).bind fun t105 => (some t105))
def impl_MeshOk.f (k : Nat) (a0_0 : Int) (a0_1 : Int) (l0_2 : List Int) : Option (Bool) := impl_MeshOk.l0 k l0_2 (l0_2.length : Int) 0 a0_0 a0_1 l0_2
set_option maxHeartbeats 8000000 in
set_option maxRecDepth 100000 in
theorem impl_MeshOk.calls (k : Nat) (a0_0 : Int) (a0_1 : Int) (A0_2 : Option Addr) (c0_2 : Nat) (l0_2 : List Int) (r : Bool) (w : World) (hr0_2 : Kd.C (Kd.int .i64) w A0_2 l0_2.length l0_2) (hc0_2 : l0_2.length ≤ c0_2) (h : impl_MeshOk.f k a0_0 a0_1 l0_2 = some r) :
    Calls Try.prog 106 #[.agg #[.int .i64 a0_0, .int .i64 a0_1, .slice A0_2 l0_2.length c0_2]] w fun e w' => e = .returned (.bool r) ∧ Below w.heap.size w w' := by
 have z1_ := Try.underlying34
 have z2_ := Try.underlying32
 have z3_ := Aside0.mk hr0_2
 have z4_ := Aside0.mk hc0_2
 clear hr0_2 hc0_2
 have HB := Aside0.mk (Below.refl w.heap.size w)
 have H : (impl_MeshOk.l0 k l0_2 (l0_2.length : Int) 0 a0_0 a0_1 l0_2) = some r := h
 clear h
 have H' := Aside0.mk H
 clear H
 go_enter Try.func106, Try.ntmps106
 go_wp2_with (first | ((with_reducible refine gate_dst (N := 1) rfl ?_); refine box_event ?hg (N := 1) ?hd (cs := #[.int .i64 a0_0, .int .i64 a0_1, .slice A0_2 l0_2.length c0_2]) (t := 34) ?hr ?_; (case hd => rfl); (case hg => rfl); (case hr => first | (go_simp; done) | (go_simp; rfl)); intro z5_ hg z6_ hbox hb; have z7_ := Aside0.mk (below_step (by repeat (first | (with_reducible first | exact HB.out | apply below_alloc | apply pw_below_drewN | apply below_drew1) | exact HB.out)) hb); have z8_ := Aside0.mk (hbox); have z9_ := Aside0.mk ((by rw [hg]; exact (below_size (by repeat (first | (with_reducible first | exact HB.out | apply below_alloc | apply pw_below_drewN | apply below_drew1) | exact HB.out))) : w.heap.size ≤ z5_)); have z10_ := Aside0.mk ((by rw [hg]; exact (below_size (by repeat (first | (with_reducible first | exact HB.out | apply below_alloc | apply pw_below_drewN | apply below_drew1) | exact HB.out))) : w.heap.size ≤ z5_)); clear HB; have HB := z7_; have z11_ := z8_; have z12_ := z9_; have z13_ := z10_; clear z7_ z8_ z9_ z10_; clear hb hbox hg; have z14_ : z6_.cell? ⟨z5_, 0, none⟩ = some (.int .i64 a0_0) := (blk_cell z11_.out 0).trans rfl; have z15_ : z6_.cell? ⟨z5_, 1, none⟩ = some (.int .i64 a0_1) := (blk_cell z11_.out 1).trans rfl; have z16_ : z6_.cell? ⟨z5_, 2, none⟩ = some (.slice A0_2 l0_2.length c0_2) := (blk_cell z11_.out 2).trans rfl; have z17_ := blk_frozen z11_.out 0; have z18_ := blk_frozen z11_.out 1; have z19_ := blk_frozen z11_.out 2))
 go_loopg [8] k (fun kq v8 w' => ∃ (x8_1 : Int), v8 = .int .i64 x8_1 ∧ Aside0 (impl_MeshOk.l0 kq l0_2 (l0_2.length : Int) x8_1 a0_0 a0_1 l0_2 = some r) ∧ Aside0 (kq ≤ k) ∧ Aside0 (w'.heap[z5_]? = some (.cells #[.int .i64 a0_0, .int .i64 a0_1, (.slice A0_2 l0_2.length c0_2)] 34 (0, 0))) ∧ Aside0 (Below w.heap.size w w'))
 case atStart => exact ⟨(0), (by first | rfl | (simp; done) | (simp [*]; done)), H', ⟨Nat.le_refl _⟩, ⟨by (with_reducible repeat (first | refine blk_drewN ?_ _ | refine blk_drew ?_ | refine blk_alloc ?_ _)); exact z11_.out⟩, ⟨by repeat (first | (with_reducible first | exact HB.out | apply below_alloc | apply pw_below_drewN | apply below_drew1 | refine below_set ?_ z13_.out) | exact HB.out)⟩⟩
 case round =>
   clear H'
   try clear c1
   try clear p2
   try clear z14_
   try clear z15_
   try clear z16_
   try clear z17_
   try clear z18_
   try clear z19_
   obtain ⟨z20_, rfl, HA, z21_, z11_, HB⟩ := hrel
   cases gk with
   | zero => exact absurd HA.out (by simp [impl_MeshOk.l0])
   | succ z22_ =>
     have H := HA.out
     clear HA
     simp only [impl_MeshOk.l0] at H
     by_cases z23_ : z20_ < (l0_2.length : Int)
     focus
       rw [if_pos z23_] at H
       have z24_ : decide (z20_ < (l0_2.length : Int)) = true := decide_eq_true z23_
       clear z23_
       by_cases z25_ : 0 ≤ z20_
       focus
         rw [if_pos z25_] at H
         have z26_ : decide (0 ≤ z20_) = true := decide_eq_true z25_
         clear z25_
         by_cases z27_ : z20_ < (l0_2.length : Int)
         focus
           rw [if_pos z27_] at H
           have z28_ : decide (z20_ < (l0_2.length : Int)) = true := decide_eq_true z27_
           clear z27_
           replace H := Option.bind_eq_some_iff.mp H
           obtain ⟨z29_, z30_, H⟩ := H
           replace H : (if z29_ = true then (if z20_ > 0 then (if 0 ≤ (wrap64 (z20_ - 1)) then (if (wrap64 (z20_ - 1)) < (l0_2.length : Int) then (if (rd l0_2 (wrap64 (z20_ - 1))) ≥ (rd l0_2 z20_) then (some false) else (impl_MeshOk.l0 z22_ l0_2 (l0_2.length : Int) (wrap64 (z20_ + 1)) a0_0 a0_1 l0_2)) else (none)) else (none)) else (impl_MeshOk.l0 z22_ l0_2 (l0_2.length : Int) (wrap64 (z20_ + 1)) a0_0 a0_1 l0_2)) else (some false)) = some r := H
           have z31_ := Aside0.mk z30_
           clear z30_
           by_cases z32_ : z29_ = true
           focus
             subst z32_
             have z33_ : (if z20_ > 0 then (if 0 ≤ (wrap64 (z20_ - 1)) then (if (wrap64 (z20_ - 1)) < (l0_2.length : Int) then (if (rd l0_2 (wrap64 (z20_ - 1))) ≥ (rd l0_2 z20_) then (some false) else (impl_MeshOk.l0 z22_ l0_2 (l0_2.length : Int) (wrap64 (z20_ + 1)) a0_0 a0_1 l0_2)) else (none)) else (none)) else (impl_MeshOk.l0 z22_ l0_2 (l0_2.length : Int) (wrap64 (z20_ + 1)) a0_0 a0_1 l0_2)) = some r := by rw [if_pos rfl] at H; exact H
             clear H
             have H := z33_
             clear z33_
             by_cases z34_ : z20_ > 0
             focus
               rw [if_pos z34_] at H
               have z35_ : decide (0 < z20_) = true := decide_eq_true z34_
               clear z34_
               obtain ⟨z36_, z37_⟩ : ∃ j_ : Int, (wrap64 (z20_ - 1)) = j_ := ⟨_, rfl⟩
               replace H : (if 0 ≤ (z36_) then (if (z36_) < (l0_2.length : Int) then (if (rd l0_2 (z36_)) ≥ (rd l0_2 z20_) then (some false) else (impl_MeshOk.l0 z22_ l0_2 (l0_2.length : Int) (wrap64 (z20_ + 1)) a0_0 a0_1 l0_2)) else (none)) else (none)) = some r := by first | (rw [z37_] at H; exact H) | (simp only [z37_] at H ⊢; exact H)
               (try rw [z37_] at z31_)
               have z38_ : (IntKind.i64.wrap (z20_ - 1)) = z36_ := (i64_w _).trans z37_
               by_cases z39_ : 0 ≤ (z36_)
               focus
                 rw [if_pos z39_] at H
                 have z40_ : decide (0 ≤ (z36_)) = true := decide_eq_true z39_
                 clear z39_
                 by_cases z41_ : (z36_) < (l0_2.length : Int)
                 focus
                   rw [if_pos z41_] at H
                   have z42_ : decide ((z36_) < (l0_2.length : Int)) = true := decide_eq_true z41_
                   clear z41_
                   by_cases z43_ : (rd l0_2 (z36_)) ≥ (rd l0_2 z20_)
                   focus
                     rw [if_pos z43_] at H
                     have z44_ : decide ((rd l0_2 z20_) ≤ (rd l0_2 (z36_))) = true := decide_eq_true z43_
                     clear z43_
                     obtain rfl := Option.some.inj H
                   rotate_left
                   focus
                     rw [if_neg z43_] at H
                     have z44_ : decide ((rd l0_2 z20_) ≤ (rd l0_2 (z36_))) = false := decide_eq_false z43_
                     clear z43_
                     have H' := Aside0.mk H
                     clear H
                 rotate_left 2
                 · rw [if_neg z41_] at H
                   exact absurd H (by simp)
               rotate_left 2
               · rw [if_neg z39_] at H
                 exact absurd H (by simp)
             rotate_left 2
             focus
               rw [if_neg z34_] at H
               have z35_ : decide (0 < z20_) = false := decide_eq_false z34_
               clear z34_
               have H' := Aside0.mk H
               clear H
           rotate_left 3
           focus
             replace z32_ := Bool.eq_false_iff.mpr z32_
             subst z32_
             have z33_ : (some false) = some r := by rw [if_neg (show ¬ (false = true) by decide)] at H; exact H
             clear H
             have H := z33_
             clear z33_
             obtain rfl := Option.some.inj H
         rotate_left 4
         · rw [if_neg z27_] at H
           exact absurd H (by simp)
       rotate_left 4
       · rw [if_neg z25_] at H
         exact absurd H (by simp)
     rotate_left 4
     focus
       rw [if_neg z23_] at H
       have z24_ : decide (z20_ < (l0_2.length : Int)) = false := decide_eq_false z23_
       clear z23_
       replace H := Option.bind_eq_some_iff.mp H
       obtain ⟨z25_, z26_, H⟩ := H
       replace H : (some z25_) = some r := H
       have z27_ := Aside0.mk z26_
       clear z26_
       obtain rfl := Option.some.inj H
     all_goals first
       | skip
         have y1_ : 0 ≤ (z20_ : Int) := of_decide_eq_true (by first | (with_reducible assumption) | assumption)
         have y2_ : z20_ < (l0_2.length : Int) := of_decide_eq_true (by first | (with_reducible assumption) | assumption)
         obtain ⟨y3_, y4_, y5_⟩ := Kd.at_int z3_.out z20_ y1_ y2_
         cases y4_
         replace y5_ := (HB.out.cell (World.block_lt_of_cell? w _ y5_)).trans y5_
         replace y1_ := eq_true y1_
         replace y2_ := eq_true y2_
         have y6_ : wr.cell? ⟨z5_, 0, none⟩ = some (.int .i64 a0_0) := (blk_cell z11_.out 0).trans rfl
         have y7_ : wr.cell? ⟨z5_, 1, none⟩ = some (.int .i64 a0_1) := (blk_cell z11_.out 1).trans rfl
         have y8_ : wr.cell? ⟨z5_, 2, none⟩ = some (.slice (some y3_) l0_2.length c0_2) := (blk_cell z11_.out 2).trans rfl
         have y9_ := blk_frozen z11_.out 0
         have y10_ := blk_frozen z11_.out 1
         have y11_ := blk_frozen z11_.out 2
         go_wp2_with (first | ((with_reducible refine gate_callee (f := 145) rfl ?_); refine goesL_ (some 16) rfl rfl Try.func145 (by kernel_rfl) rfl #[.agg #[.int .i64 a0_0, .int .i64 a0_1], .int .i64 (rd l0_2 z20_)] rfl (by (try simp only [List.map_toArray, List.map_cons, List.map_nil]); first | done | rfl | (simp only [List.length_drop, List.length_take]; rfl)) ?_; (with_reducible refine (impl_leads.calls _ _ _ _ _ z31_.out).mono ?_); rintro e y12_ ⟨rfl, hb⟩; refine ⟨_, rfl, ?_⟩; have z7_ := Aside0.mk (blk_below (g := z5_) (o := .cells #[.int .i64 a0_0, .int .i64 a0_1, .slice (some y3_) l0_2.length c0_2] 34 (0, 0)) (by (with_reducible repeat (first | refine blk_drewN ?_ _ | refine blk_drew ?_ | refine blk_alloc ?_ _)); exact z11_.out) hb); have z8_ := Aside0.mk (below_step (by repeat (first | (with_reducible first | exact HB.out | apply below_alloc | apply pw_below_drewN | apply below_drew1 | refine below_set ?_ z13_.out) | exact HB.out)) hb); clear z11_; clear HB; have z11_ := z7_; have HB := z8_; clear z7_ z8_; (try clear hb); (try clear hb2); (try clear hk); (try clear hi); have y13_ : y12_.cell? ⟨z5_, 0, none⟩ = some (.int .i64 a0_0) := (blk_cell z11_.out 0).trans rfl; have y14_ : y12_.cell? ⟨z5_, 1, none⟩ = some (.int .i64 a0_1) := (blk_cell z11_.out 1).trans rfl; have y15_ : y12_.cell? ⟨z5_, 2, none⟩ = some (.slice (some y3_) l0_2.length c0_2) := (blk_cell z11_.out 2).trans rfl; have y16_ := blk_frozen z11_.out 0; have y17_ := blk_frozen z11_.out 1; have y18_ := blk_frozen z11_.out 2; have y19_ : 0 ≤ ((z36_) : Int) := of_decide_eq_true (by first | (with_reducible assumption) | assumption); have y20_ : (z36_) < (l0_2.length : Int) := of_decide_eq_true (by first | (with_reducible assumption) | assumption); obtain ⟨y21_, y22_, y23_⟩ := Kd.at_int z3_.out (z36_) y19_ y20_; obtain rfl : y3_ = y21_ := (by injection y22_); replace y23_ := (HB.out.cell (World.block_lt_of_cell? w _ y23_)).trans y23_; replace y19_ := eq_true y19_; replace y20_ := eq_true y20_))
         first
           | skip
             go_ret
             exact ⟨by first | rfl | (simp [errW_none, errW_some] <;> rfl) | (simp only [← z37_]; first | rfl | (simp [errW_none, errW_some] <;> rfl)) | (simp [*, errW_none, errW_some] <;> rfl), by repeat (first | (with_reducible first | exact HB.out | apply below_alloc | apply pw_below_drewN | apply below_drew1 | refine below_set ?_ z13_.out) | exact HB.out)⟩
           | skip
             go_roundg z22_
             case measure => have := z21_.out; omega
             case rel => exact ⟨(wrap64 (z20_ + 1)), (by first | rfl | (simp; done) | (simp [*]; done)), H', ⟨by have := z21_.out; omega⟩, ⟨by (with_reducible repeat (first | refine blk_drewN ?_ _ | refine blk_drew ?_ | refine blk_alloc ?_ _)); exact z11_.out⟩, ⟨by repeat (first | (with_reducible first | exact HB.out | apply below_alloc | apply pw_below_drewN | apply below_drew1 | refine below_set ?_ z13_.out) | exact HB.out)⟩⟩
       | skip
         have y1_ : 0 ≤ (z20_ : Int) := of_decide_eq_true (by first | (with_reducible assumption) | assumption)
         have y2_ : z20_ < (l0_2.length : Int) := of_decide_eq_true (by first | (with_reducible assumption) | assumption)
         obtain ⟨y3_, y4_, y5_⟩ := Kd.at_int z3_.out z20_ y1_ y2_
         cases y4_
         replace y5_ := (HB.out.cell (World.block_lt_of_cell? w _ y5_)).trans y5_
         replace y1_ := eq_true y1_
         replace y2_ := eq_true y2_
         have y6_ : wr.cell? ⟨z5_, 0, none⟩ = some (.int .i64 a0_0) := (blk_cell z11_.out 0).trans rfl
         have y7_ : wr.cell? ⟨z5_, 1, none⟩ = some (.int .i64 a0_1) := (blk_cell z11_.out 1).trans rfl
         have y8_ : wr.cell? ⟨z5_, 2, none⟩ = some (.slice (some y3_) l0_2.length c0_2) := (blk_cell z11_.out 2).trans rfl
         have y9_ := blk_frozen z11_.out 0
         have y10_ := blk_frozen z11_.out 1
         have y11_ := blk_frozen z11_.out 2
         go_wp2_with (first | ((with_reducible refine gate_callee (f := 145) rfl ?_); refine goesL_ (some 16) rfl rfl Try.func145 (by kernel_rfl) rfl #[.agg #[.int .i64 a0_0, .int .i64 a0_1], .int .i64 (rd l0_2 z20_)] rfl (by (try simp only [List.map_toArray, List.map_cons, List.map_nil]); first | done | rfl | (simp only [List.length_drop, List.length_take]; rfl)) ?_; (with_reducible refine (impl_leads.calls _ _ _ _ _ z31_.out).mono ?_); rintro e y12_ ⟨rfl, hb⟩; refine ⟨_, rfl, ?_⟩; have z7_ := Aside0.mk (blk_below (g := z5_) (o := .cells #[.int .i64 a0_0, .int .i64 a0_1, .slice (some y3_) l0_2.length c0_2] 34 (0, 0)) (by (with_reducible repeat (first | refine blk_drewN ?_ _ | refine blk_drew ?_ | refine blk_alloc ?_ _)); exact z11_.out) hb); have z8_ := Aside0.mk (below_step (by repeat (first | (with_reducible first | exact HB.out | apply below_alloc | apply pw_below_drewN | apply below_drew1 | refine below_set ?_ z13_.out) | exact HB.out)) hb); clear z11_; clear HB; have z11_ := z7_; have HB := z8_; clear z7_ z8_; (try clear hb); (try clear hb2); (try clear hk); (try clear hi)))
         first
           | skip
             go_roundg z22_
             case measure => have := z21_.out; omega
             case rel => exact ⟨(wrap64 (z20_ + 1)), (by first | rfl | (simp; done) | (simp [*]; done)), H', ⟨by have := z21_.out; omega⟩, ⟨by (with_reducible repeat (first | refine blk_drewN ?_ _ | refine blk_drew ?_ | refine blk_alloc ?_ _)); exact z11_.out⟩, ⟨by repeat (first | (with_reducible first | exact HB.out | apply below_alloc | apply pw_below_drewN | apply below_drew1 | refine below_set ?_ z13_.out) | exact HB.out)⟩⟩
           | skip
             go_ret
             exact ⟨by first | rfl | (simp [errW_none, errW_some] <;> rfl) | (simp [*, errW_none, errW_some] <;> rfl), by repeat (first | (with_reducible first | exact HB.out | apply below_alloc | apply pw_below_drewN | apply below_drew1 | refine below_set ?_ z13_.out) | exact HB.out)⟩
       | skip
         have y1_ : wr.cell? ⟨z5_, 0, none⟩ = some (.int .i64 a0_0) := (blk_cell z11_.out 0).trans rfl
         have y2_ : wr.cell? ⟨z5_, 1, none⟩ = some (.int .i64 a0_1) := (blk_cell z11_.out 1).trans rfl
         have y3_ : wr.cell? ⟨z5_, 2, none⟩ = some (.slice A0_2 l0_2.length c0_2) := (blk_cell z11_.out 2).trans rfl
         have y4_ := blk_frozen z11_.out 0
         have y5_ := blk_frozen z11_.out 1
         have y6_ := blk_frozen z11_.out 2
         go_wp2_with (first | ((with_reducible refine gate_callee (f := 111) rfl ?_); refine goesL_ (some 35) rfl rfl Try.func111 (by kernel_rfl) rfl #[.agg #[.int .i64 a0_0, .int .i64 a0_1]] rfl (by (try simp only [List.map_toArray, List.map_cons, List.map_nil]); first | done | rfl | (simp only [List.length_drop, List.length_take]; rfl)) ?_; (with_reducible refine (impl_GridOk.calls _ _ _ _ z27_.out).mono ?_); rintro e y7_ ⟨rfl, hb⟩; refine ⟨_, rfl, ?_⟩; have z7_ := Aside0.mk (blk_below (g := z5_) (o := .cells #[.int .i64 a0_0, .int .i64 a0_1, .slice A0_2 l0_2.length c0_2] 34 (0, 0)) (by (with_reducible repeat (first | refine blk_drewN ?_ _ | refine blk_drew ?_ | refine blk_alloc ?_ _)); exact z11_.out) hb); have z8_ := Aside0.mk (below_step (by repeat (first | (with_reducible first | exact HB.out | apply below_alloc | apply pw_below_drewN | apply below_drew1 | refine below_set ?_ z13_.out) | exact HB.out)) hb); clear z11_; clear HB; have z11_ := z7_; have HB := z8_; clear z7_ z8_; (try clear hb); (try clear hb2); (try clear hk); (try clear hi)))
         go_ret
         exact ⟨by first | rfl | (simp [errW_none, errW_some] <;> rfl) | (simp [*, errW_none, errW_some] <;> rfl), by repeat (first | (with_reducible first | exact HB.out | apply below_alloc | apply pw_below_drewN | apply below_drew1 | refine below_set ?_ z13_.out) | exact HB.out)⟩
def slices_Index_int_int.l0 : Nat → List Int → Int → Int → Int → Option (Int)
  | 0, _, _, _, _ => none
  | k + 1, x0, x1, x7, x8 => if x8 < x7 then (if 0 ≤ x8 then (if x8 < (x0.length : Int) then (if x1 = (rd x0 x8) then (some x8) else (slices_Index_int_int.l0 k x0 x1 x7 (wrap64 (x8 + 1)))) else (none)) else (none)) else (some (-1))
def slices_Index_int_int.f (k : Nat) (l0 : List Int) (a1 : Int) : Option (Int) := slices_Index_int_int.l0 k l0 a1 (l0.length : Int) 0
set_option maxHeartbeats 8000000 in
set_option maxRecDepth 100000 in
theorem slices_Index_int_int.calls (k : Nat) (A0 : Option Addr) (c0 : Nat) (l0 : List Int) (a1 : Int) (r : Int) (w : World) (hr0 : Kd.C (Kd.int .i64) w A0 l0.length l0) (hc0 : l0.length ≤ c0) (h : slices_Index_int_int.f k l0 a1 = some r) :
    Calls Try.prog 73 #[.slice A0 l0.length c0, .int .i64 a1] w fun e w' => e = .returned (.int .i64 r) ∧ Drawn0 w w' := by
 have z1_ := Aside0.mk hr0
 have z2_ := Aside0.mk hc0
 clear hr0 hc0
 have H : (slices_Index_int_int.l0 k l0 a1 (l0.length : Int) 0) = some r := h
 clear h
 have H' := Aside0.mk H
 clear H
 go_enter Try.func73, Try.ntmps73
 go_wp2
 go_loopg [8] k (fun kq v8 w' => ∃ (x8_1 : Int), v8 = .int .i64 x8_1 ∧ Aside0 (slices_Index_int_int.l0 kq l0 a1 (l0.length : Int) x8_1 = some r) ∧ Aside0 (kq ≤ k) ∧ Drawn0 w w')
 case atStart => exact ⟨(0), (by first | rfl | (simp; done) | (simp [*]; done)), H', ⟨Nat.le_refl _⟩, by repeat (first | exact Drawn0.refl _ | apply Drawn0.step)⟩
 case round =>
   clear H'
   try clear p2
   obtain ⟨z3_, rfl, HA, z4_, ⟨z5_, rfl⟩⟩ := hrel
   cases gk with
   | zero => exact absurd HA.out (by simp [slices_Index_int_int.l0])
   | succ z6_ =>
     have H := HA.out
     clear HA
     simp only [slices_Index_int_int.l0] at H
     by_cases z7_ : z3_ < (l0.length : Int)
     focus
       rw [if_pos z7_] at H
       have z8_ : decide (z3_ < (l0.length : Int)) = true := decide_eq_true z7_
       clear z7_
       by_cases z9_ : 0 ≤ z3_
       focus
         rw [if_pos z9_] at H
         have z10_ : decide (0 ≤ z3_) = true := decide_eq_true z9_
         clear z9_
         by_cases z11_ : z3_ < (l0.length : Int)
         focus
           rw [if_pos z11_] at H
           have z12_ : decide (z3_ < (l0.length : Int)) = true := decide_eq_true z11_
           clear z11_
           by_cases z13_ : a1 = (rd l0 z3_)
           focus
             rw [if_pos z13_] at H
             have z14_ : (a1 == (rd l0 z3_)) = true := beq_iff_eq.mpr z13_
             have z15_ : (a1 != (rd l0 z3_)) = false := bne_eq_false_iff_eq.mpr z13_
             clear z13_
             obtain rfl := Option.some.inj H
           rotate_left
           focus
             rw [if_neg z13_] at H
             have z14_ : (a1 == (rd l0 z3_)) = false := beq_eq_false_iff_ne.mpr z13_
             have z15_ : (a1 != (rd l0 z3_)) = true := bne_iff_ne.mpr z13_
             have H' := Aside0.mk H
             clear H
         rotate_left 2
         · rw [if_neg z11_] at H
           exact absurd H (by simp)
       rotate_left 2
       · rw [if_neg z9_] at H
         exact absurd H (by simp)
     rotate_left 2
     focus
       rw [if_neg z7_] at H
       have z8_ : decide (z3_ < (l0.length : Int)) = false := decide_eq_false z7_
       clear z7_
       obtain rfl := Option.some.inj H
     all_goals first
       | skip
         have y1_ : 0 ≤ (z3_ : Int) := of_decide_eq_true (by first | (with_reducible assumption) | assumption)
         have y2_ : z3_ < (l0.length : Int) := of_decide_eq_true (by first | (with_reducible assumption) | assumption)
         obtain ⟨y3_, y4_, y5_⟩ := Kd.at_int z1_.out z3_ y1_ y2_
         cases y4_
         replace y1_ := eq_true y1_
         replace y2_ := eq_true y2_
         go_wp2
         first
           | skip
             go_ret
             exact ⟨by first | rfl | (simp; done) | (simp [*]; done), by repeat (first | exact Drawn0.refl _ | apply Drawn0.step)⟩
           | skip
             go_roundg z6_
             case measure => have := z4_.out; omega
             case rel => exact ⟨(wrap64 (z3_ + 1)), (by first | rfl | (simp; done) | (simp [*]; done)), H', ⟨by have := z4_.out; omega⟩, by repeat (first | exact Drawn0.refl _ | apply Drawn0.step)⟩
       | skip
         go_wp2
         go_ret
         exact ⟨by first | rfl | (simp; done) | (simp [*]; done), by repeat (first | exact Drawn0.refl _ | apply Drawn0.step)⟩
def slices_Contains_int_int.f (k : Nat) (l0 : List Int) (a1 : Int) : Option (Bool) := (slices_Index_int_int.f k l0 a1).bind fun t101 => (some (decide (t101 ≥ 0)))
set_option maxHeartbeats 8000000 in
set_option maxRecDepth 100000 in
theorem slices_Contains_int_int.calls (k : Nat) (A0 : Option Addr) (c0 : Nat) (l0 : List Int) (a1 : Int) (r : Bool) (w : World) (hr0 : Kd.C (Kd.int .i64) w A0 l0.length l0) (hc0 : l0.length ≤ c0) (h : slices_Contains_int_int.f k l0 a1 = some r) :
    Calls Try.prog 76 #[.slice A0 l0.length c0, .int .i64 a1] w fun e w' => e = .returned (.bool r) ∧ Drawn0 w w' := by
 have z1_ := Aside0.mk hr0
 have z2_ := Aside0.mk hc0
 clear hr0 hc0
 have H : ((slices_Index_int_int.f k l0 a1).bind fun t101 => (some (decide (t101 ≥ 0)))) = some r := h
 clear h
 replace H := Option.bind_eq_some_iff.mp H
 obtain ⟨z3_, z4_, H⟩ := H
 replace H : (some (decide (z3_ ≥ 0))) = some r := H
 have z5_ := Aside0.mk z4_
 clear z4_
 obtain rfl := Option.some.inj H
 go_enter Try.func76, Try.ntmps76
 go_wp2_with (first | ((with_reducible refine gate_callee (f := 73) rfl ?_); refine goesL_ (some 7) rfl rfl Try.func73 (by kernel_rfl) rfl #[.slice A0 l0.length c0, .int .i64 a1] rfl (by (try simp only [List.map_toArray, List.map_cons, List.map_nil]); first | done | rfl | (simp only [List.length_drop, List.length_take]; rfl)) ?_; (with_reducible refine (slices_Index_int_int.calls _ _ _ _ _ _ _ ?side1 ?side2 z5_.out).mono ?_); (case side1 => repeat (first | exact z1_.out | (with_reducible refine Kd.C_alloc ?_ _) | (with_reducible refine Kd.C_drewN ?_ _) | (with_reducible refine Kd.C_drew ?_))); (case side2 => exact z2_.out); rintro e w' ⟨rfl, ⟨nd, rfl⟩⟩; refine ⟨_, rfl, ?_⟩))
 go_ret
 exact ⟨by first | rfl | (simp; done) | (simp [*]; done), by repeat (first | exact Drawn0.refl _ | apply Drawn0.step)⟩
def impl_HasChannel.f (k : Nat) (a0_0 : Int) (a0_1 : Int) (l0_2 : List Int) (a1 : Int) : Option (Bool) := (impl_MeshOk.f k a0_0 a0_1 l0_2).bind fun t102 => (if t102 = true then ((impl_leads.f a0_0 a0_1 a1).bind fun t103 => (if t103 = true then ((slices_Contains_int_int.f k l0_2 a1).bind fun t104 => (some (!t104))) else (some false))) else (some false))
set_option maxHeartbeats 8000000 in
set_option maxRecDepth 100000 in
theorem impl_HasChannel.calls (k : Nat) (a0_0 : Int) (a0_1 : Int) (A0_2 : Option Addr) (c0_2 : Nat) (l0_2 : List Int) (a1 : Int) (r : Bool) (w : World) (hr0_2 : Kd.C (Kd.int .i64) w A0_2 l0_2.length l0_2) (hc0_2 : l0_2.length ≤ c0_2) (h : impl_HasChannel.f k a0_0 a0_1 l0_2 a1 = some r) :
    Calls Try.prog 108 #[.agg #[.int .i64 a0_0, .int .i64 a0_1, .slice A0_2 l0_2.length c0_2], .int .i64 a1] w fun e w' => e = .returned (.bool r) ∧ Below w.heap.size w w' := by
 have z1_ := Try.underlying34
 have z2_ := Try.underlying32
 have z3_ := Aside0.mk hr0_2
 have z4_ := Aside0.mk hc0_2
 clear hr0_2 hc0_2
 have HB := Aside0.mk (Below.refl w.heap.size w)
 have H : ((impl_MeshOk.f k a0_0 a0_1 l0_2).bind fun t102 => (if t102 = true then ((impl_leads.f a0_0 a0_1 a1).bind fun t103 => (if t103 = true then ((slices_Contains_int_int.f k l0_2 a1).bind fun t104 => (some (!t104))) else (some false))) else (some false))) = some r := h
 clear h
 replace H := Option.bind_eq_some_iff.mp H
 obtain ⟨z5_, z6_, H⟩ := H
 replace H : (if z5_ = true then ((impl_leads.f a0_0 a0_1 a1).bind fun t103 => (if t103 = true then ((slices_Contains_int_int.f k l0_2 a1).bind fun t104 => (some (!t104))) else (some false))) else (some false)) = some r := H
 have z7_ := Aside0.mk z6_
 clear z6_
 by_cases z8_ : z5_ = true
 focus
   subst z8_
   have z9_ : ((impl_leads.f a0_0 a0_1 a1).bind fun t103 => (if t103 = true then ((slices_Contains_int_int.f k l0_2 a1).bind fun t104 => (some (!t104))) else (some false))) = some r := by rw [if_pos rfl] at H; exact H
   clear H
   have H := z9_
   clear z9_
   replace H := Option.bind_eq_some_iff.mp H
   obtain ⟨z10_, z11_, H⟩ := H
   replace H : (if z10_ = true then ((slices_Contains_int_int.f k l0_2 a1).bind fun t104 => (some (!t104))) else (some false)) = some r := H
   have z12_ := Aside0.mk z11_
   clear z11_
   by_cases z13_ : z10_ = true
   focus
     subst z13_
     have z9_ : ((slices_Contains_int_int.f k l0_2 a1).bind fun t104 => (some (!t104))) = some r := by rw [if_pos rfl] at H; exact H
     clear H
     have H := z9_
     clear z9_
     replace H := Option.bind_eq_some_iff.mp H
     obtain ⟨z14_, z15_, H⟩ := H
     replace H : (some (!z14_)) = some r := H
     have z16_ := Aside0.mk z15_
     clear z15_
     obtain rfl := Option.some.inj H
   rotate_left
   focus
     replace z13_ := Bool.eq_false_iff.mpr z13_
     subst z13_
     have z9_ : (some false) = some r := by rw [if_neg (show ¬ (false = true) by decide)] at H; exact H
     clear H
     have H := z9_
     clear z9_
     obtain rfl := Option.some.inj H
 rotate_left 2
 focus
   replace z8_ := Bool.eq_false_iff.mpr z8_
   subst z8_
   have z9_ : (some false) = some r := by rw [if_neg (show ¬ (false = true) by decide)] at H; exact H
   clear H
   have H := z9_
   clear z9_
   obtain rfl := Option.some.inj H
 all_goals
   go_enter Try.func108, Try.ntmps108
   go_wp2_with (first | ((with_reducible refine gate_dst (N := 2) rfl ?_); refine box_event ?hg (N := 2) ?hd (cs := #[.int .i64 a0_0, .int .i64 a0_1, .slice A0_2 l0_2.length c0_2]) (t := 34) ?hr ?_; (case hd => rfl); (case hg => rfl); (case hr => first | (go_simp; done) | (go_simp; rfl)); intro y1_ hg y2_ hbox hb; have y3_ := Aside0.mk (below_step (by repeat (first | (with_reducible first | exact HB.out | apply below_alloc | apply pw_below_drewN | apply below_drew1) | exact HB.out)) hb); have y4_ := Aside0.mk (hbox); have y5_ := Aside0.mk ((by rw [hg]; exact (below_size (by repeat (first | (with_reducible first | exact HB.out | apply below_alloc | apply pw_below_drewN | apply below_drew1) | exact HB.out))) : w.heap.size ≤ y1_)); have y6_ := Aside0.mk ((by rw [hg]; exact (below_size (by repeat (first | (with_reducible first | exact HB.out | apply below_alloc | apply pw_below_drewN | apply below_drew1) | exact HB.out))) : w.heap.size ≤ y1_)); clear HB; have HB := y3_; have y7_ := y4_; have y8_ := y5_; have y9_ := y6_; clear y3_ y4_ y5_ y6_; clear hb hbox hg; have y10_ : y2_.cell? ⟨y1_, 0, none⟩ = some (.int .i64 a0_0) := (blk_cell y7_.out 0).trans rfl; have y11_ : y2_.cell? ⟨y1_, 1, none⟩ = some (.int .i64 a0_1) := (blk_cell y7_.out 1).trans rfl; have y12_ : y2_.cell? ⟨y1_, 2, none⟩ = some (.slice A0_2 l0_2.length c0_2) := (blk_cell y7_.out 2).trans rfl; have y13_ := blk_frozen y7_.out 0; have y14_ := blk_frozen y7_.out 1; have y15_ := blk_frozen y7_.out 2) | ((with_reducible refine gate_callee (f := 106) rfl ?_); refine goesL_ (some 6) rfl rfl Try.func106 (by kernel_rfl) rfl #[.agg #[.int .i64 a0_0, .int .i64 a0_1, .slice A0_2 l0_2.length c0_2]] rfl (by (try simp only [List.map_toArray, List.map_cons, List.map_nil]); first | done | rfl | (simp only [List.length_drop, List.length_take]; rfl)) ?_; (with_reducible refine (impl_MeshOk.calls _ _ _ _ _ _ _ _ ?side1 ?side2 z7_.out).mono ?_); (case side1 => repeat (first | exact (Kd.C_below z3_.out HB.out) | (with_reducible refine Kd.C_alloc ?_ _) | (with_reducible refine Kd.C_drewN ?_ _) | (with_reducible refine Kd.C_drew ?_))); (case side2 => exact z4_.out); rintro e y16_ ⟨rfl, hb⟩; refine ⟨_, rfl, ?_⟩; have y3_ := Aside0.mk (blk_below (g := y1_) (o := .cells #[.int .i64 a0_0, .int .i64 a0_1, .slice A0_2 l0_2.length c0_2] 34 (0, 0)) (by (with_reducible repeat (first | refine blk_drewN ?_ _ | refine blk_drew ?_ | refine blk_alloc ?_ _)); exact y7_.out) hb); have y4_ := Aside0.mk (below_step (by repeat (first | (with_reducible first | exact HB.out | apply below_alloc | apply pw_below_drewN | apply below_drew1 | refine below_set ?_ y9_.out) | exact HB.out)) hb); clear y7_; clear HB; have y7_ := y3_; have HB := y4_; clear y3_ y4_; (try clear hb); (try clear hb2); (try clear hk); (try clear hi); have y17_ : y16_.cell? ⟨y1_, 0, none⟩ = some (.int .i64 a0_0) := (blk_cell y7_.out 0).trans rfl; have y18_ : y16_.cell? ⟨y1_, 1, none⟩ = some (.int .i64 a0_1) := (blk_cell y7_.out 1).trans rfl; have y19_ : y16_.cell? ⟨y1_, 2, none⟩ = some (.slice A0_2 l0_2.length c0_2) := (blk_cell y7_.out 2).trans rfl; have y20_ := blk_frozen y7_.out 0; have y21_ := blk_frozen y7_.out 1; have y22_ := blk_frozen y7_.out 2) | (go_at_call 145; (with_reducible refine (impl_leads.calls _ _ _ _ _ z12_.out).mono ?_); rintro e y23_ ⟨rfl, hb⟩; have y3_ := Aside0.mk (blk_below (g := y1_) (o := .cells #[.int .i64 a0_0, .int .i64 a0_1, .slice A0_2 l0_2.length c0_2] 34 (0, 0)) (by (with_reducible repeat (first | refine blk_drewN ?_ _ | refine blk_drew ?_ | refine blk_alloc ?_ _)); exact y7_.out) hb); have y4_ := Aside0.mk (below_step (by repeat (first | (with_reducible first | exact HB.out | apply below_alloc | apply pw_below_drewN | apply below_drew1 | refine below_set ?_ y9_.out) | exact HB.out)) hb); clear y7_; clear HB; have y7_ := y3_; have HB := y4_; clear y3_ y4_; (try clear hb); (try clear hb2); (try clear hk); (try clear hi); have y24_ : y23_.cell? ⟨y1_, 0, none⟩ = some (.int .i64 a0_0) := (blk_cell y7_.out 0).trans rfl; have y25_ : y23_.cell? ⟨y1_, 1, none⟩ = some (.int .i64 a0_1) := (blk_cell y7_.out 1).trans rfl; have y26_ : y23_.cell? ⟨y1_, 2, none⟩ = some (.slice A0_2 l0_2.length c0_2) := (blk_cell y7_.out 2).trans rfl; have y27_ := blk_frozen y7_.out 0; have y28_ := blk_frozen y7_.out 1; have y29_ := blk_frozen y7_.out 2) | (go_at_call 76; (with_reducible refine (slices_Contains_int_int.calls _ _ _ _ _ _ _ ?side1 ?side2 z16_.out).mono ?_); (case side1 => repeat (first | exact (Kd.C_below z3_.out HB.out) | (with_reducible refine Kd.C_alloc ?_ _) | (with_reducible refine Kd.C_drewN ?_ _) | (with_reducible refine Kd.C_drew ?_))); (case side2 => exact z4_.out); rintro e w' ⟨rfl, ⟨nd, rfl⟩⟩) | (go_at_call 145; (with_reducible refine (impl_leads.calls _ _ _ _ _ z12_.out).mono ?_); rintro e y23_ ⟨rfl, hb⟩; have y3_ := Aside0.mk (blk_below (g := y1_) (o := .cells #[.int .i64 a0_0, .int .i64 a0_1, .slice A0_2 l0_2.length c0_2] 34 (0, 0)) (by (with_reducible repeat (first | refine blk_drewN ?_ _ | refine blk_drew ?_ | refine blk_alloc ?_ _)); exact y7_.out) hb); have y4_ := Aside0.mk (below_step (by repeat (first | (with_reducible first | exact HB.out | apply below_alloc | apply pw_below_drewN | apply below_drew1 | refine below_set ?_ y9_.out) | exact HB.out)) hb); clear y7_; clear HB; have y7_ := y3_; have HB := y4_; clear y3_ y4_; (try clear hb); (try clear hb2); (try clear hk); (try clear hi)) | ((with_reducible refine gate_callee (f := 106) rfl ?_); refine goesL_ (some 6) rfl rfl Try.func106 (by kernel_rfl) rfl #[.agg #[.int .i64 a0_0, .int .i64 a0_1, .slice A0_2 l0_2.length c0_2]] rfl (by (try simp only [List.map_toArray, List.map_cons, List.map_nil]); first | done | rfl | (simp only [List.length_drop, List.length_take]; rfl)) ?_; (with_reducible refine (impl_MeshOk.calls _ _ _ _ _ _ _ _ ?side1 ?side2 z7_.out).mono ?_); (case side1 => repeat (first | exact (Kd.C_below z3_.out HB.out) | (with_reducible refine Kd.C_alloc ?_ _) | (with_reducible refine Kd.C_drewN ?_ _) | (with_reducible refine Kd.C_drew ?_))); (case side2 => exact z4_.out); rintro e y16_ ⟨rfl, hb⟩; refine ⟨_, rfl, ?_⟩; have y3_ := Aside0.mk (blk_below (g := y1_) (o := .cells #[.int .i64 a0_0, .int .i64 a0_1, .slice A0_2 l0_2.length c0_2] 34 (0, 0)) (by (with_reducible repeat (first | refine blk_drewN ?_ _ | refine blk_drew ?_ | refine blk_alloc ?_ _)); exact y7_.out) hb); have y4_ := Aside0.mk (below_step (by repeat (first | (with_reducible first | exact HB.out | apply below_alloc | apply pw_below_drewN | apply below_drew1 | refine below_set ?_ y9_.out) | exact HB.out)) hb); clear y7_; clear HB; have y7_ := y3_; have HB := y4_; clear y3_ y4_; (try clear hb); (try clear hb2); (try clear hk); (try clear hi)))
   go_ret
   exact ⟨by first | rfl | (simp [errW_none, errW_some] <;> rfl) | (simp [*, errW_none, errW_some] <;> rfl), by repeat (first | (with_reducible first | exact HB.out | apply below_alloc | apply pw_below_drewN | apply below_drew1 | refine below_set ?_ y9_.out) | exact HB.out)⟩
def impl_Opposite.f (a0 : Int) : Option (Int) := if a0 = 4 then (some 4) else ((impl_inside.f a0 0 3).bind fun t101 => (if t101 = true then (some (Int.tmod (wrap64 (a0 + 2)) 4)) else (some (-1))))
set_option maxHeartbeats 8000000 in
set_option maxRecDepth 100000 in
theorem impl_Opposite.calls (a0 : Int) (r : Int) (w : World) (h : impl_Opposite.f a0 = some r) :
    Calls Try.prog 148 #[.int .i64 a0] w fun e w' => e = .returned (.int .i64 r) ∧ Drawn0 w w' := by
 have H : (if a0 = 4 then (some 4) else ((impl_inside.f a0 0 3).bind fun t101 => (if t101 = true then (some (Int.tmod (wrap64 (a0 + 2)) 4)) else (some (-1))))) = some r := h
 clear h
 by_cases z1_ : a0 = 4
 focus
   rw [if_pos z1_] at H
   have z2_ : (a0 == 4) = true := beq_iff_eq.mpr z1_
   have z3_ : (a0 != 4) = false := bne_eq_false_iff_eq.mpr z1_
   clear z1_
   obtain rfl := Option.some.inj H
 rotate_left
 focus
   rw [if_neg z1_] at H
   have z2_ : (a0 == 4) = false := beq_eq_false_iff_ne.mpr z1_
   have z3_ : (a0 != 4) = true := bne_iff_ne.mpr z1_
   replace H := Option.bind_eq_some_iff.mp H
   obtain ⟨z4_, z5_, H⟩ := H
   replace H : (if z4_ = true then (some (Int.tmod (wrap64 (a0 + 2)) 4)) else (some (-1))) = some r := H
   have z6_ := Aside0.mk z5_
   clear z5_
   by_cases z7_ : z4_ = true
   focus
     subst z7_
     have z8_ : (some (Int.tmod (wrap64 (a0 + 2)) 4)) = some r := by rw [if_pos rfl] at H; exact H
     clear H
     have H := z8_
     clear z8_
     obtain rfl := Option.some.inj H
   rotate_left
   focus
     replace z7_ := Bool.eq_false_iff.mpr z7_
     subst z7_
     have z8_ : (some (-1)) = some r := by rw [if_neg (show ¬ (false = true) by decide)] at H; exact H
     clear H
     have H := z8_
     clear z8_
     obtain rfl := Option.some.inj H
 all_goals first
   | skip
     go_enter Try.func148, Try.ntmps148
     go_wp2_with (first | ((with_reducible refine gate_callee (f := 77) rfl ?_); refine goesL_ (some 8) rfl rfl Try.func77 (by kernel_rfl) rfl #[.int .i64 a0, .int .i64 0, .int .i64 3] rfl (by (try simp only [List.map_toArray, List.map_cons, List.map_nil]); first | done | rfl | (simp only [List.length_drop, List.length_take]; rfl)) ?_; (with_reducible refine (impl_inside.calls _ _ _ _ _ z6_.out).mono ?_); rintro e w' ⟨rfl, ⟨nd, rfl⟩⟩; refine ⟨_, rfl, ?_⟩))
     go_ret
     exact ⟨by first | rfl | (simp; done) | (simp [*]; done), by repeat (first | exact Drawn0.refl _ | apply Drawn0.step)⟩
   | skip
     go_enter Try.func148, Try.ntmps148
     go_wp2
     go_ret
     exact ⟨by first | rfl | (simp; done) | (simp [*]; done), by repeat (first | exact Drawn0.refl _ | apply Drawn0.step)⟩
def impl_back.f (a0_0 : Int) (a0_1 : Int) (l0_2 : List Int) (a1 : Int) : Option (Int) := (impl_endOf.f a0_0 a0_1 l0_2 a1).bind fun t102 => ((impl_Opposite.f (Int.tmod a1 4)).bind fun t103 => (some (wrap64 ((wrap64 (4 * t102)) + t103))))
set_option maxHeartbeats 8000000 in
set_option maxRecDepth 100000 in
theorem impl_back.calls (a0_0 : Int) (a0_1 : Int) (A0_2 : Option Addr) (c0_2 : Nat) (l0_2 : List Int) (a1 : Int) (r : Int) (w : World) (hr0_2 : Kd.C (Kd.int .i64) w A0_2 l0_2.length l0_2) (hc0_2 : l0_2.length ≤ c0_2) (h : impl_back.f a0_0 a0_1 l0_2 a1 = some r) :
    Calls Try.prog 112 #[.agg #[.int .i64 a0_0, .int .i64 a0_1, .slice A0_2 l0_2.length c0_2], .int .i64 a1] w fun e w' => e = .returned (.int .i64 r) ∧ Below w.heap.size w w' := by
 have z1_ := Try.underlying34
 have z2_ := Aside0.mk hr0_2
 have z3_ := Aside0.mk hc0_2
 clear hr0_2 hc0_2
 have HB := Aside0.mk (Below.refl w.heap.size w)
 have H : ((impl_endOf.f a0_0 a0_1 l0_2 a1).bind fun t102 => ((impl_Opposite.f (Int.tmod a1 4)).bind fun t103 => (some (wrap64 ((wrap64 (4 * t102)) + t103))))) = some r := h
 clear h
 replace H := Option.bind_eq_some_iff.mp H
 obtain ⟨z4_, z5_, H⟩ := H
 replace H : ((impl_Opposite.f (Int.tmod a1 4)).bind fun t103 => (some (wrap64 ((wrap64 (4 * z4_)) + t103)))) = some r := H
 have z6_ := Aside0.mk z5_
 clear z5_
 replace H := Option.bind_eq_some_iff.mp H
 obtain ⟨z7_, z8_, H⟩ := H
 replace H : (some (wrap64 ((wrap64 (4 * z4_)) + z7_))) = some r := H
 have z9_ := Aside0.mk z8_
 clear z8_
 obtain rfl := Option.some.inj H
 go_enter Try.func112, Try.ntmps112
 go_wp2_with (first | ((with_reducible refine gate_dst (N := 2) rfl ?_); refine box_event ?hg (N := 2) ?hd (cs := #[.int .i64 a0_0, .int .i64 a0_1, .slice A0_2 l0_2.length c0_2]) (t := 34) ?hr ?_; (case hd => rfl); (case hg => rfl); (case hr => first | (go_simp; done) | (go_simp; rfl)); intro z10_ hg z11_ hbox hb; have z12_ := Aside0.mk (below_step (by repeat (first | (with_reducible first | exact HB.out | apply below_alloc | apply pw_below_drewN | apply below_drew1) | exact HB.out)) hb); have z13_ := Aside0.mk (hbox); have z14_ := Aside0.mk ((by rw [hg]; exact (below_size (by repeat (first | (with_reducible first | exact HB.out | apply below_alloc | apply pw_below_drewN | apply below_drew1) | exact HB.out))) : w.heap.size ≤ z10_)); have z15_ := Aside0.mk ((by rw [hg]; exact (below_size (by repeat (first | (with_reducible first | exact HB.out | apply below_alloc | apply pw_below_drewN | apply below_drew1) | exact HB.out))) : w.heap.size ≤ z10_)); clear HB; have HB := z12_; have z16_ := z13_; have z17_ := z14_; have z18_ := z15_; clear z12_ z13_ z14_ z15_; clear hb hbox hg; have z19_ : z11_.cell? ⟨z10_, 0, none⟩ = some (.int .i64 a0_0) := (blk_cell z16_.out 0).trans rfl; have z20_ : z11_.cell? ⟨z10_, 1, none⟩ = some (.int .i64 a0_1) := (blk_cell z16_.out 1).trans rfl; have z21_ : z11_.cell? ⟨z10_, 2, none⟩ = some (.slice A0_2 l0_2.length c0_2) := (blk_cell z16_.out 2).trans rfl; have z22_ := blk_frozen z16_.out 0; have z23_ := blk_frozen z16_.out 1; have z24_ := blk_frozen z16_.out 2) | ((with_reducible refine gate_callee (f := 68) rfl ?_); refine goesL_ (some 7) rfl rfl Try.func68 (by kernel_rfl) rfl #[.agg #[.int .i64 a0_0, .int .i64 a0_1, .slice A0_2 l0_2.length c0_2], .int .i64 a1] rfl (by (try simp only [List.map_toArray, List.map_cons, List.map_nil]); first | done | rfl | (simp only [List.length_drop, List.length_take]; rfl)) ?_; (with_reducible refine (impl_endOf.calls _ _ _ _ _ _ _ _ ?side1 ?side2 z6_.out).mono ?_); (case side1 => repeat (first | exact (Kd.C_below z2_.out HB.out) | (with_reducible refine Kd.C_alloc ?_ _) | (with_reducible refine Kd.C_drewN ?_ _) | (with_reducible refine Kd.C_drew ?_))); (case side2 => exact z3_.out); rintro e z25_ ⟨rfl, hb⟩; refine ⟨_, rfl, ?_⟩; have z12_ := Aside0.mk (blk_below (g := z10_) (o := .cells #[.int .i64 a0_0, .int .i64 a0_1, .slice A0_2 l0_2.length c0_2] 34 (0, 0)) (by (with_reducible repeat (first | refine blk_drewN ?_ _ | refine blk_drew ?_ | refine blk_alloc ?_ _)); exact z16_.out) hb); have z13_ := Aside0.mk (below_step (by repeat (first | (with_reducible first | exact HB.out | apply below_alloc | apply pw_below_drewN | apply below_drew1 | refine below_set ?_ z18_.out) | exact HB.out)) hb); clear z16_; clear HB; have z16_ := z12_; have HB := z13_; clear z12_ z13_; (try clear hb); (try clear hb2); (try clear hk); (try clear hi)) | ((with_reducible refine gate_callee (f := 148) rfl ?_); refine goesL_ (some 11) rfl rfl Try.func148 (by kernel_rfl) rfl #[.int .i64 (Int.tmod a1 4)] rfl (by (try simp only [List.map_toArray, List.map_cons, List.map_nil]); first | done | rfl | (simp only [List.length_drop, List.length_take]; rfl)) ?_; (with_reducible refine (impl_Opposite.calls _ _ _ z9_.out).mono ?_); rintro e w' ⟨rfl, ⟨nd, rfl⟩⟩; refine ⟨_, rfl, ?_⟩))
 go_ret
 exact ⟨by first | rfl | (simp [errW_none, errW_some] <;> rfl) | (simp [*, errW_none, errW_some] <;> rfl), by repeat (first | (with_reducible first | exact HB.out | apply below_alloc | apply pw_below_drewN | apply below_drew1 | refine below_set ?_ z18_.out) | exact HB.out)⟩
end Go.Proofs.Ytkkoenbmokbglaa.F
end
