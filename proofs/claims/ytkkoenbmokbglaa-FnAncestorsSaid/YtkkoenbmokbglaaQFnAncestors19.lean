/- Parts of a proof that the law FnAncestors holds for every input: contracts of the program's functions and plain laws on what they compute. -/
import Derived.Test.YtkkoenbmokbglaaQFnAncestors12
import Derived.Test.YtkkoenbmokbglaaQFnAncestors16
import Derived.Test.YtkkoenbmokbglaaQFnAncestors18
import Derived.Test.YtkkoenbmokbglaaQFnAncestors15
section
namespace Go.Proofs.Ytkkoenbmokbglaa.F
open Go.RowKit Go.Proofs.YtkkoenbmokbglaaW.PrintWords Go.Proofs.YtkkoenbmokbglaaW.PrintLast Go.Proofs.YtkkoenbmokbglaaW.PrintMore
set_option linter.unusedVariables false
set_option linter.unusedSimpArgs false
def spec_TreeDepths.f (k : Nat) (a0_0 : Int) (a0_1 : Int) (l0_2 : List Int) (a1 : Int) : Option (List Int) := (spec_l31Ok.f k a0_0 a0_1 l0_2 a1).bind fun t102 => (if t102 = true then ((spec_l31Depths.f k a0_0 a0_1 l0_2 a1).bind fun t103 => (some t103)) else (some (([] : List Int))))
set_option maxHeartbeats 8000000 in
set_option maxRecDepth 100000 in
theorem spec_TreeDepths.calls (k : Nat) (a0_0 : Int) (a0_1 : Int) (A0_2 : Option Addr) (c0_2 : Nat) (l0_2 : List Int) (a1 : Int) (r : List Int) (w : World) (hr0_2 : Kd.C (Kd.int .i64) w A0_2 l0_2.length l0_2) (hc0_2 : l0_2.length ≤ c0_2) (h : spec_TreeDepths.f k a0_0 a0_1 l0_2 a1 = some r) :
    Calls Try.prog 23 #[.agg #[.int .i64 a0_0, .int .i64 a0_1, .slice A0_2 l0_2.length c0_2], .int .i64 a1] w fun e w' => ∃ v0_ : Value, e = .returned (v0_) ∧ Kd.R (Kd.int .i64) 3 w' w.heap.size (fun _ => True) v0_ r ∧ Below w.heap.size w w' := by
 have z1_ := Try.underlying34
 have z2_ := Aside0.mk hr0_2
 have z3_ := Aside0.mk hc0_2
 clear hr0_2 hc0_2
 have HB := Aside0.mk (Below.refl w.heap.size w)
 have H : ((spec_l31Ok.f k a0_0 a0_1 l0_2 a1).bind fun t102 => (if t102 = true then ((spec_l31Depths.f k a0_0 a0_1 l0_2 a1).bind fun t103 => (some t103)) else (some (([] : List Int))))) = some r := h
 clear h
 replace H := Option.bind_eq_some_iff.mp H
 obtain ⟨z4_, z5_, H⟩ := H
 replace H : (if z4_ = true then ((spec_l31Depths.f k a0_0 a0_1 l0_2 a1).bind fun t103 => (some t103)) else (some (([] : List Int)))) = some r := H
 have z6_ := Aside0.mk z5_
 clear z5_
 by_cases z7_ : z4_ = true
 · subst z7_
   have z8_ : ((spec_l31Depths.f k a0_0 a0_1 l0_2 a1).bind fun t103 => (some t103)) = some r := by rw [if_pos rfl] at H; exact H
   clear H
   have H := z8_
   clear z8_
   replace H := Option.bind_eq_some_iff.mp H
   obtain ⟨z9_, z10_, H⟩ := H
   replace H : (some z9_) = some r := H
   have z11_ := Aside0.mk z10_
   clear z10_
   obtain rfl := Option.some.inj H
   go_enter Try.func23, Try.ntmps23
   go_wp2_with (first | ((with_reducible refine gate_dst (N := 2) rfl ?_); refine box_event ?hg (N := 2) ?hd (cs := #[.int .i64 a0_0, .int .i64 a0_1, .slice A0_2 l0_2.length c0_2]) (t := 34) ?hr ?_; (case hd => rfl); (case hg => rfl); (case hr => first | (go_simp; done) | (go_simp; rfl)); intro y1_ hg y2_ hbox hb; have y3_ := Aside0.mk (below_step (by repeat (first | (with_reducible first | exact HB.out | apply below_alloc | apply pw_below_drewN | apply below_drew1) | exact HB.out)) hb); have y4_ := Aside0.mk (hbox); have y5_ := Aside0.mk ((by rw [hg]; exact (below_size (by repeat (first | (with_reducible first | exact HB.out | apply below_alloc | apply pw_below_drewN | apply below_drew1) | exact HB.out))) : w.heap.size ≤ y1_)); have y6_ := Aside0.mk ((by rw [hg]; exact (below_size (by repeat (first | (with_reducible first | exact HB.out | apply below_alloc | apply pw_below_drewN | apply below_drew1) | exact HB.out))) : w.heap.size ≤ y1_)); clear HB; have HB := y3_; have y7_ := y4_; have y8_ := y5_; have y9_ := y6_; clear y3_ y4_ y5_ y6_; clear hb hbox hg; have y10_ : y2_.cell? ⟨y1_, 0, none⟩ = some (.int .i64 a0_0) := (blk_cell y7_.out 0).trans rfl; have y11_ : y2_.cell? ⟨y1_, 1, none⟩ = some (.int .i64 a0_1) := (blk_cell y7_.out 1).trans rfl; have y12_ : y2_.cell? ⟨y1_, 2, none⟩ = some (.slice A0_2 l0_2.length c0_2) := (blk_cell y7_.out 2).trans rfl; have y13_ := blk_frozen y7_.out 0; have y14_ := blk_frozen y7_.out 1; have y15_ := blk_frozen y7_.out 2) | ((with_reducible refine gate_callee (f := 62) rfl ?_); refine goesL_ (some 7) rfl rfl Try.func62 (by kernel_rfl) rfl #[.agg #[.int .i64 a0_0, .int .i64 a0_1, .slice A0_2 l0_2.length c0_2], .int .i64 a1] rfl (by (try simp only [List.map_toArray, List.map_cons, List.map_nil]); first | done | rfl | (simp only [List.length_drop, List.length_take]; rfl)) ?_; (with_reducible refine (spec_l31Ok.calls _ _ _ _ _ _ _ _ _ ?side1 ?side2 z6_.out).mono ?_); (case side1 => repeat (first | exact (Kd.C_below z2_.out HB.out) | (with_reducible refine Kd.C_alloc ?_ _) | (with_reducible refine Kd.C_drewN ?_ _) | (with_reducible refine Kd.C_drew ?_))); (case side2 => exact z3_.out); rintro e y16_ ⟨rfl, hb⟩; refine ⟨_, rfl, ?_⟩; have y3_ := Aside0.mk (blk_below (g := y1_) (o := .cells #[.int .i64 a0_0, .int .i64 a0_1, .slice A0_2 l0_2.length c0_2] 34 (0, 0)) (by (with_reducible repeat (first | refine blk_drewN ?_ _ | refine blk_drew ?_ | refine blk_alloc ?_ _)); exact y7_.out) hb); have y4_ := Aside0.mk (below_step (by repeat (first | (with_reducible first | exact HB.out | apply below_alloc | apply pw_below_drewN | apply below_drew1 | refine below_set ?_ y9_.out) | exact HB.out)) hb); clear y7_; clear HB; have y7_ := y3_; have HB := y4_; clear y3_ y4_; (try clear hb); (try clear hb2); (try clear hk); (try clear hi); have y17_ : y16_.cell? ⟨y1_, 0, none⟩ = some (.int .i64 a0_0) := (blk_cell y7_.out 0).trans rfl; have y18_ : y16_.cell? ⟨y1_, 1, none⟩ = some (.int .i64 a0_1) := (blk_cell y7_.out 1).trans rfl; have y19_ : y16_.cell? ⟨y1_, 2, none⟩ = some (.slice A0_2 l0_2.length c0_2) := (blk_cell y7_.out 2).trans rfl; have y20_ := blk_frozen y7_.out 0; have y21_ := blk_frozen y7_.out 1; have y22_ := blk_frozen y7_.out 2) | ((with_reducible refine gate_callee (f := 63) rfl ?_); refine goesL_ (some 12) rfl rfl Try.func63 (by kernel_rfl) rfl #[.agg #[.int .i64 a0_0, .int .i64 a0_1, .slice A0_2 l0_2.length c0_2], .int .i64 a1] rfl (by (try simp only [List.map_toArray, List.map_cons, List.map_nil]); first | done | rfl | (simp only [List.length_drop, List.length_take]; rfl)) ?_; (with_reducible refine (spec_l31Depths.calls _ _ _ _ _ _ _ _ _ ?side1 ?side2 z11_.out).mono ?_); (case side1 => repeat (first | exact (Kd.C_below z2_.out HB.out) | (with_reducible refine Kd.C_alloc ?_ _) | (with_reducible refine Kd.C_drewN ?_ _) | (with_reducible refine Kd.C_drew ?_))); (case side2 => exact z3_.out); rintro e y23_ ⟨y24_, rfl, y25_, hb⟩; refine ⟨_, rfl, ?_⟩; have y3_ := Aside0.mk (Kd.R_lower y25_ (below_size (by repeat (first | (with_reducible first | exact HB.out | apply below_alloc | apply pw_below_drewN | apply below_drew1 | refine below_set ?_ y9_.out) | exact HB.out)))); have y4_ := Aside0.mk (blk_below (g := y1_) (o := .cells #[.int .i64 a0_0, .int .i64 a0_1, .slice A0_2 l0_2.length c0_2] 34 (0, 0)) (by (with_reducible repeat (first | refine blk_drewN ?_ _ | refine blk_drew ?_ | refine blk_alloc ?_ _)); exact y7_.out) hb); have y5_ := Aside0.mk (below_step (by repeat (first | (with_reducible first | exact HB.out | apply below_alloc | apply pw_below_drewN | apply below_drew1 | refine below_set ?_ y9_.out) | exact HB.out)) hb); clear y7_; clear HB; have y26_ := y3_; have y7_ := y4_; have HB := y5_; clear y3_ y4_ y5_; (try clear hb); (try clear hb2); (try clear hk); (try clear hi); (try clear y25_)))
   go_ret
   exact ⟨_, by first | rfl | (simp [errW_none, errW_some] <;> rfl) | (simp [*, errW_none, errW_some] <;> rfl), by (with_reducible repeat (first | apply Kd.R_alloc | apply Kd.R_drewN | apply Kd.R_drew)); exact y26_.out, by repeat (first | (with_reducible first | exact HB.out | apply below_alloc | apply pw_below_drewN | apply below_drew1 | refine below_set ?_ y9_.out) | exact HB.out)⟩
 · replace z7_ := Bool.eq_false_iff.mpr z7_
   subst z7_
   have z8_ : (some (([] : List Int))) = some r := by rw [if_neg (show ¬ (false = true) by decide)] at H; exact H
   clear H
   have H := z8_
   clear z8_
   obtain ⟨z9_, z10_⟩ : ∃ y_ : List Int, y_ = (([] : List Int)) := ⟨_, rfl⟩
   replace H : (some z9_) = some r := by first | (rw [z10_]; with_reducible exact H) | (have z11_ := (Option.bind_some _ _).symm.trans H; rw [z10_]; with_reducible exact z11_) | (have z11_ := (Option.bind_some _ _).symm.trans H; with_reducible exact z11_) | with_reducible exact H | (rw [z10_]; exact H) | exact H
   have z12_ := Aside0.mk z10_
   clear z10_
   obtain rfl := Option.some.inj H
   go_enter Try.func23, Try.ntmps23
   go_wp2_with (first | ((with_reducible refine gate_dst (N := 2) rfl ?_); refine box_event ?hg (N := 2) ?hd (cs := #[.int .i64 a0_0, .int .i64 a0_1, .slice A0_2 l0_2.length c0_2]) (t := 34) ?hr ?_; (case hd => rfl); (case hg => rfl); (case hr => first | (go_simp; done) | (go_simp; rfl)); intro y1_ hg y2_ hbox hb; have y3_ := Aside0.mk (below_step (by repeat (first | (with_reducible first | exact HB.out | apply below_alloc | apply pw_below_drewN | apply below_drew1) | exact HB.out)) hb); have y4_ := Aside0.mk (hbox); have y5_ := Aside0.mk ((by rw [hg]; exact (below_size (by repeat (first | (with_reducible first | exact HB.out | apply below_alloc | apply pw_below_drewN | apply below_drew1) | exact HB.out))) : w.heap.size ≤ y1_)); have y6_ := Aside0.mk ((by rw [hg]; exact (below_size (by repeat (first | (with_reducible first | exact HB.out | apply below_alloc | apply pw_below_drewN | apply below_drew1) | exact HB.out))) : w.heap.size ≤ y1_)); clear HB; have HB := y3_; have y7_ := y4_; have y8_ := y5_; have y9_ := y6_; clear y3_ y4_ y5_ y6_; clear hb hbox hg; have y10_ : y2_.cell? ⟨y1_, 0, none⟩ = some (.int .i64 a0_0) := (blk_cell y7_.out 0).trans rfl; have y11_ : y2_.cell? ⟨y1_, 1, none⟩ = some (.int .i64 a0_1) := (blk_cell y7_.out 1).trans rfl; have y12_ : y2_.cell? ⟨y1_, 2, none⟩ = some (.slice A0_2 l0_2.length c0_2) := (blk_cell y7_.out 2).trans rfl; have y13_ := blk_frozen y7_.out 0; have y14_ := blk_frozen y7_.out 1; have y15_ := blk_frozen y7_.out 2) | ((with_reducible refine gate_callee (f := 62) rfl ?_); refine goesL_ (some 7) rfl rfl Try.func62 (by kernel_rfl) rfl #[.agg #[.int .i64 a0_0, .int .i64 a0_1, .slice A0_2 l0_2.length c0_2], .int .i64 a1] rfl (by (try simp only [List.map_toArray, List.map_cons, List.map_nil]); first | done | rfl | (simp only [List.length_drop, List.length_take]; rfl)) ?_; (with_reducible refine (spec_l31Ok.calls _ _ _ _ _ _ _ _ _ ?side1 ?side2 z6_.out).mono ?_); (case side1 => repeat (first | exact (Kd.C_below z2_.out HB.out) | (with_reducible refine Kd.C_alloc ?_ _) | (with_reducible refine Kd.C_drewN ?_ _) | (with_reducible refine Kd.C_drew ?_))); (case side2 => exact z3_.out); rintro e y16_ ⟨rfl, hb⟩; refine ⟨_, rfl, ?_⟩; have y3_ := Aside0.mk (blk_below (g := y1_) (o := .cells #[.int .i64 a0_0, .int .i64 a0_1, .slice A0_2 l0_2.length c0_2] 34 (0, 0)) (by (with_reducible repeat (first | refine blk_drewN ?_ _ | refine blk_drew ?_ | refine blk_alloc ?_ _)); exact y7_.out) hb); have y4_ := Aside0.mk (below_step (by repeat (first | (with_reducible first | exact HB.out | apply below_alloc | apply pw_below_drewN | apply below_drew1 | refine below_set ?_ y9_.out) | exact HB.out)) hb); clear y7_; clear HB; have y7_ := y3_; have HB := y4_; clear y3_ y4_; (try clear hb); (try clear hb2); (try clear hk); (try clear hi)) | ((with_reducible refine gate_dst (N := 9) rfl ?_); refine Kd.R_lit (Kd.int .i64) _ 3 ?hg (N := 9) ?hd (xs := ([] : List Int)) (inner := []) (ok := fun _ => True) (okp := fun _ => True) ?hr ?hp (fun _ hk => hk) trivial (Below.refl _ _) (Nat.le_refl _) (by simp) ?_; (case hd => rfl); (case hg => rfl); (case hr => first | (go_simp; done) | (go_simp; rfl)); (case hp => exact (Reps.none _ _)); intro y17_ y18_ y19_ hb hg_ hnew_; clear hg_ hnew_; (first | rw [← z12_.out] at y19_ | (simp only [Int.reduceToNat] at y19_; rw [← z12_.out] at y19_)); have y3_ := Aside0.mk (Kd.R_lower y19_ (below_size (by repeat (first | (with_reducible first | exact HB.out | apply below_alloc | apply pw_below_drewN | apply below_drew1 | refine below_set ?_ y9_.out) | exact HB.out)))); have y4_ := Aside0.mk (blk_below (g := y1_) (o := .cells #[.int .i64 a0_0, .int .i64 a0_1, .slice A0_2 l0_2.length c0_2] 34 (0, 0)) (by (with_reducible repeat (first | refine blk_drewN ?_ _ | refine blk_drew ?_ | refine blk_alloc ?_ _)); exact y7_.out) hb); have y5_ := Aside0.mk (below_step (by repeat (first | (with_reducible first | exact HB.out | apply below_alloc | apply pw_below_drewN | apply below_drew1 | refine below_set ?_ y9_.out) | exact HB.out)) hb); clear y7_; clear HB; have y20_ := y3_; have y7_ := y4_; have HB := y5_; clear y3_ y4_ y5_; clear hb y19_))
   go_ret
   exact ⟨_, by first | rfl | (simp [errW_none, errW_some] <;> rfl) | (simp [*, errW_none, errW_some] <;> rfl), by (with_reducible repeat (first | apply Kd.R_alloc | apply Kd.R_drewN | apply Kd.R_drew)); exact y20_.out, by repeat (first | (with_reducible first | exact HB.out | apply below_alloc | apply pw_below_drewN | apply below_drew1 | refine below_set ?_ y9_.out) | exact HB.out)⟩
def spec_IsConnected.l0 : Nat → List Int → Int → Option (Bool)
  | 0, _, _ => none
  | k + 1, x3, x4 => if x4 < (x3.length : Int) then (if 0 ≤ x4 then (if (rd x3 x4) < 0 then (some false) else (spec_IsConnected.l0 k x3 (wrap64 (x4 + 1)))) else (none)) else (some (decide ((x3.length : Int) > 0)))
def spec_IsConnected.f (k : Nat) (a0_0 : Int) (a0_1 : Int) (l0_2 : List Int) : Option (Bool) := (spec_TreeDepths.f k a0_0 a0_1 l0_2 0).bind fun t102 => (spec_IsConnected.l0 k t102 0)
set_option maxHeartbeats 8000000 in
set_option maxRecDepth 100000 in
theorem spec_IsConnected.calls (k : Nat) (a0_0 : Int) (a0_1 : Int) (A0_2 : Option Addr) (c0_2 : Nat) (l0_2 : List Int) (r : Bool) (w : World) (hr0_2 : Kd.C (Kd.int .i64) w A0_2 l0_2.length l0_2) (hc0_2 : l0_2.length ≤ c0_2) (h : spec_IsConnected.f k a0_0 a0_1 l0_2 = some r) :
    Calls Try.prog 86 #[.agg #[.int .i64 a0_0, .int .i64 a0_1, .slice A0_2 l0_2.length c0_2]] w fun e w' => e = .returned (.bool r) ∧ Below w.heap.size w w' := by
 have z1_ := Try.underlying34
 have z2_ := Aside0.mk hr0_2
 have z3_ := Aside0.mk hc0_2
 clear hr0_2 hc0_2
 have HB := Aside0.mk (Below.refl w.heap.size w)
 have H : ((spec_TreeDepths.f k a0_0 a0_1 l0_2 0).bind fun t102 => (spec_IsConnected.l0 k t102 0)) = some r := h
 clear h
 replace H := Option.bind_eq_some_iff.mp H
 obtain ⟨z4_, z5_, H⟩ := H
 replace H : (spec_IsConnected.l0 k z4_ 0) = some r := H
 have z6_ := Aside0.mk z5_
 clear z5_
 have H' := Aside0.mk H
 clear H
 go_enter Try.func86, Try.ntmps86
 go_wp2_with (first | ((with_reducible refine gate_dst (N := 1) rfl ?_); refine box_event ?hg (N := 1) ?hd (cs := #[.int .i64 a0_0, .int .i64 a0_1, .slice A0_2 l0_2.length c0_2]) (t := 34) ?hr ?_; (case hd => rfl); (case hg => rfl); (case hr => first | (go_simp; done) | (go_simp; rfl)); intro z7_ hg z8_ hbox hb; have z9_ := Aside0.mk (below_step (by repeat (first | (with_reducible first | exact HB.out | apply below_alloc | apply pw_below_drewN | apply below_drew1) | exact HB.out)) hb); have z10_ := Aside0.mk (hbox); have z11_ := Aside0.mk ((by rw [hg]; exact (below_size (by repeat (first | (with_reducible first | exact HB.out | apply below_alloc | apply pw_below_drewN | apply below_drew1) | exact HB.out))) : w.heap.size ≤ z7_)); have z12_ := Aside0.mk ((by rw [hg]; exact (below_size (by repeat (first | (with_reducible first | exact HB.out | apply below_alloc | apply pw_below_drewN | apply below_drew1) | exact HB.out))) : w.heap.size ≤ z7_)); clear HB; have HB := z9_; have z13_ := z10_; have z14_ := z11_; have z15_ := z12_; clear z9_ z10_ z11_ z12_; clear hb hbox hg; have z16_ : z8_.cell? ⟨z7_, 0, none⟩ = some (.int .i64 a0_0) := (blk_cell z13_.out 0).trans rfl; have z17_ : z8_.cell? ⟨z7_, 1, none⟩ = some (.int .i64 a0_1) := (blk_cell z13_.out 1).trans rfl; have z18_ : z8_.cell? ⟨z7_, 2, none⟩ = some (.slice A0_2 l0_2.length c0_2) := (blk_cell z13_.out 2).trans rfl; have z19_ := blk_frozen z13_.out 0; have z20_ := blk_frozen z13_.out 1; have z21_ := blk_frozen z13_.out 2) | ((with_reducible refine gate_callee (f := 23) rfl ?_); refine goesL_ (some 6) rfl rfl Try.func23 (by kernel_rfl) rfl #[.agg #[.int .i64 a0_0, .int .i64 a0_1, .slice A0_2 l0_2.length c0_2], .int .i64 0] rfl (by (try simp only [List.map_toArray, List.map_cons, List.map_nil]); first | done | rfl | (simp only [List.length_drop, List.length_take]; rfl)) ?_; (with_reducible refine (spec_TreeDepths.calls _ _ _ _ _ _ _ _ _ ?side1 ?side2 z6_.out).mono ?_); (case side1 => repeat (first | exact (Kd.C_below z2_.out HB.out) | (with_reducible refine Kd.C_alloc ?_ _) | (with_reducible refine Kd.C_drewN ?_ _) | (with_reducible refine Kd.C_drew ?_))); (case side2 => exact z3_.out); rintro e z22_ ⟨z23_, rfl, z24_, hb⟩; refine ⟨_, rfl, ?_⟩; have z9_ := Aside0.mk (Kd.R_lower z24_ (below_size (by repeat (first | (with_reducible first | exact HB.out | apply below_alloc | apply pw_below_drewN | apply below_drew1 | refine below_set ?_ z15_.out) | exact HB.out)))); have z10_ := Aside0.mk (blk_below (g := z7_) (o := .cells #[.int .i64 a0_0, .int .i64 a0_1, .slice A0_2 l0_2.length c0_2] 34 (0, 0)) (by (with_reducible repeat (first | refine blk_drewN ?_ _ | refine blk_drew ?_ | refine blk_alloc ?_ _)); exact z13_.out) hb); have z11_ := Aside0.mk (below_step (by repeat (first | (with_reducible first | exact HB.out | apply below_alloc | apply pw_below_drewN | apply below_drew1 | refine below_set ?_ z15_.out) | exact HB.out)) hb); clear z13_; clear HB; have z25_ := z9_; have z13_ := z10_; have HB := z11_; clear z9_ z10_ z11_; (try clear hb); (try clear hb2); (try clear hk); (try clear hi); (try clear z24_)))
 go_loopg [4] k (fun kq v4 w' => ∃ (x4_1 : Int), v4 = .int .i64 x4_1 ∧ Aside0 (spec_IsConnected.l0 kq z4_ x4_1 = some r) ∧ Aside0 (kq ≤ k) ∧ Aside0 (Kd.R (Kd.int .i64) 3 w' w.heap.size (fun _ => True) z23_ z4_) ∧ Aside0 (w'.heap[z7_]? = some (.cells #[.int .i64 a0_0, .int .i64 a0_1, (.slice A0_2 l0_2.length c0_2)] 34 (0, 0))) ∧ Aside0 (Below w.heap.size w w'))
 case atStart => exact ⟨(0), (by first | rfl | (simp; done) | (simp [*]; done)), H', ⟨Nat.le_refl _⟩, ⟨by (with_reducible repeat (first | apply Kd.R_alloc | apply Kd.R_drewN | apply Kd.R_drew)); exact z25_.out⟩, ⟨by (with_reducible repeat (first | refine blk_drewN ?_ _ | refine blk_drew ?_ | refine blk_alloc ?_ _)); exact z13_.out⟩, ⟨by repeat (first | (with_reducible first | exact HB.out | apply below_alloc | apply pw_below_drewN | apply below_drew1 | refine below_set ?_ z15_.out) | exact HB.out)⟩⟩
 case round =>
   clear H'
   try clear c2
   try clear p2
   try clear z16_
   try clear z17_
   try clear z18_
   try clear z19_
   try clear z20_
   try clear z21_
   obtain ⟨z26_, rfl, HA, z27_, z28_, z13_, HB⟩ := hrel
   cases gk with
   | zero => exact absurd HA.out (by simp [spec_IsConnected.l0])
   | succ z29_ =>
     have H := HA.out
     clear HA
     simp only [spec_IsConnected.l0] at H
     by_cases z30_ : z26_ < (z4_.length : Int)
     focus
       rw [if_pos z30_] at H
       have z31_ : decide (z26_ < (z4_.length : Int)) = true := decide_eq_true z30_
       clear z30_
       by_cases z32_ : 0 ≤ z26_
       focus
         rw [if_pos z32_] at H
         have z33_ : decide (0 ≤ z26_) = true := decide_eq_true z32_
         clear z32_
         by_cases z34_ : (rd z4_ z26_) < 0
         focus
           rw [if_pos z34_] at H
           have z35_ : decide ((rd z4_ z26_) < 0) = true := decide_eq_true z34_
           clear z34_
           obtain rfl := Option.some.inj H
         rotate_left
         focus
           rw [if_neg z34_] at H
           have z35_ : decide ((rd z4_ z26_) < 0) = false := decide_eq_false z34_
           clear z34_
           have H' := Aside0.mk H
           clear H
       rotate_left 2
       · rw [if_neg z32_] at H
         exact absurd H (by simp)
     rotate_left 2
     focus
       rw [if_neg z30_] at H
       have z31_ : decide (z26_ < (z4_.length : Int)) = false := decide_eq_false z30_
       clear z30_
       obtain rfl := Option.some.inj H
     all_goals first
       | skip
         obtain ⟨y1_, y2_, y3_⟩ := Kd.R_slice z28_.out
         subst y3_
         have y4_ : 0 ≤ (z26_ : Int) := of_decide_eq_true (by first | (with_reducible assumption) | assumption)
         have y5_ : z26_ < (z4_.length : Int) := of_decide_eq_true (by first | (with_reducible assumption) | assumption)
         obtain ⟨y6_, y7_, y8_⟩ := Kd.at_int (Kd.R_reads' z28_.out).2.2 z26_ y4_ y5_
         cases y7_
         replace y4_ := eq_true y4_
         replace y5_ := eq_true y5_
         go_wp2
         first
           | skip
             go_ret
             exact ⟨by first | rfl | (simp [errW_none, errW_some] <;> rfl) | (simp [*, errW_none, errW_some] <;> rfl), by repeat (first | (with_reducible first | exact HB.out | apply below_alloc | apply pw_below_drewN | apply below_drew1 | refine below_set ?_ z15_.out) | exact HB.out)⟩
           | skip
             go_roundg z29_
             case measure => have := z27_.out; omega
             case rel => exact ⟨(wrap64 (z26_ + 1)), (by first | rfl | (simp; done) | (simp [*]; done)), H', ⟨by have := z27_.out; omega⟩, ⟨by (with_reducible repeat (first | apply Kd.R_alloc | apply Kd.R_drewN | apply Kd.R_drew)); exact z28_.out⟩, ⟨by (with_reducible repeat (first | refine blk_drewN ?_ _ | refine blk_drew ?_ | refine blk_alloc ?_ _)); exact z13_.out⟩, ⟨by repeat (first | (with_reducible first | exact HB.out | apply below_alloc | apply pw_below_drewN | apply below_drew1 | refine below_set ?_ z15_.out) | exact HB.out)⟩⟩
       | skip
         obtain ⟨y1_, y2_, y3_⟩ := Kd.R_slice z28_.out
         subst y3_
         go_wp2
         go_ret
         exact ⟨by first | rfl | (simp [errW_none, errW_some] <;> rfl) | (simp [*, errW_none, errW_some] <;> rfl), by repeat (first | (with_reducible first | exact HB.out | apply below_alloc | apply pw_below_drewN | apply below_drew1 | refine below_set ?_ z15_.out) | exact HB.out)⟩
def spec_l01PickInt.f (s0_0 : List Int) (s0_1 : Int) (s0_2 : Int) (l1 : List Int) : Option (Int × Int × Int) := (spec_l01Below.f s0_0 s0_1 s0_2 (l1.length : Int)).bind fun bt101 => (if 0 ≤ bt101.1 then (if bt101.1 < (l1.length : Int) then (some (rd l1 bt101.1, bt101.2.1, bt101.2.2)) else (none)) else (none))
set_option maxHeartbeats 8000000 in
set_option maxRecDepth 100000 in
theorem spec_l01PickInt.calls (g : Nat) (s0_0 : List Int) (s0_1 : Int) (s0_2 : Int) (A1 : Option Addr) (c1 : Nat) (l1 : List Int) (r1 : Int) (r2 : Int) (r3 : Int) (w0 w : World) (hI : IsS124 w0 w g s0_0 s0_1 s0_2) (hB : Below w0.heap.size w0 w) (hr1 : Kd.C (Kd.int .i64) w A1 l1.length l1) (hc1 : l1.length ≤ c1) (hf1 : ∀ ad, A1 = some ad → 0 < l1.length → ad.block ≠ g) (h : spec_l01PickInt.f s0_0 s0_1 s0_2 l1 = some (r1, r2, r3)) :
    Calls Try.prog 150 #[.pointer (some ⟨g, 0, none⟩), .slice A1 l1.length c1] w fun e w' => e = .returned (.int .i64 r1) ∧ IsS124 w0 w' g s0_0 r2 r3 ∧ Below w0.heap.size w0 w' ∧ KeepBut w w' g none := by
 have z1_ := Aside0.mk hr1
 have z2_ := Aside0.mk hc1
 clear hr1 hc1
 have z3_ := Aside0.mk hI
 have HK := Aside0.mk (KeepBut.refl w g none)
 have HL := Aside0.mk hB.size
 clear hI
 have z4_ := Aside0.mk hB.size
 have HB := Aside0.mk hB
 clear hB
 have H : ((spec_l01Below.f s0_0 s0_1 s0_2 (l1.length : Int)).bind fun bt101 => (if 0 ≤ bt101.1 then (if bt101.1 < (l1.length : Int) then (some (rd l1 bt101.1, bt101.2.1, bt101.2.2)) else (none)) else (none))) = some (r1, r2, r3) := h
 clear h
 replace H := Option.bind_eq_some_iff.mp H
 obtain ⟨⟨z5_, z6_, z7_⟩, z8_, H⟩ := H
 replace H : (if 0 ≤ z5_ then (if z5_ < (l1.length : Int) then (some (rd l1 z5_, z6_, z7_)) else (none)) else (none)) = some (r1, r2, r3) := H
 have z9_ := Aside0.mk z8_
 clear z8_
 by_cases z10_ : 0 ≤ z5_
 · rw [if_pos z10_] at H
   have z11_ : decide (0 ≤ z5_) = true := decide_eq_true z10_
   clear z10_
   by_cases z12_ : z5_ < (l1.length : Int)
   · rw [if_pos z12_] at H
     have z13_ : decide (z5_ < (l1.length : Int)) = true := decide_eq_true z12_
     clear z12_
     simp only [Option.some.injEq, Prod.mk.injEq] at H
     obtain ⟨rfl, rfl, rfl⟩ := H
     go_enter Try.func150, Try.ntmps150
     go_wp2_with (first | ((with_reducible refine gate_callee (f := 72) rfl ?_); refine goesL_ (some 9) rfl rfl Try.func72 (by kernel_rfl) rfl #[.pointer (some ⟨g, 0, none⟩), .int .i64 (l1.length : Int)] rfl (by (try simp only [List.map_toArray, List.map_cons, List.map_nil]); first | done | rfl | (simp only [List.length_drop, List.length_take]; rfl)) ?_; (with_reducible refine (spec_l01Below.calls _ _ _ _ _ _ _ _ w0 _ ?side1 ?side2 z9_.out).mono ?_); (case side1 => repeat (first | (with_reducible first | exact z3_.out | apply IsS124.alloc | apply IsS124.drewN | apply IsS124.drew | apply IsS124.set_1 | apply IsS124.set_2) | exact z3_.out)); (case side2 => repeat (first | (with_reducible first | exact HB.out | apply below_alloc | apply pw_below_drewN | apply below_drew1 | refine below_set ?_ (IsS124.ge z3_.out)) | exact HB.out)); rintro e y1_ ⟨rfl, hi, hb, hk⟩; refine ⟨_, rfl, ?_⟩; have y2_ := Aside0.mk (KeepBut.trans (by repeat (first | (with_reducible first | exact HK.out | apply KeepBut.set_ | apply keep_drewN | apply keep_drew | apply keep_alloc) | exact HK.out)) hk (.inl rfl)); have y3_ := Aside0.mk (hb); have y4_ := Aside0.mk (hi); clear HK; clear HB; clear z3_; have HK := y2_; have HB := y3_; have z3_ := y4_; clear y2_ y3_ y4_; (try clear hb); (try clear hb2); (try clear hk); (try clear hi); have y5_ : 0 ≤ (z5_ : Int) := of_decide_eq_true (by first | (with_reducible assumption) | assumption); have y6_ : z5_ < (l1.length : Int) := of_decide_eq_true (by first | (with_reducible assumption) | assumption); obtain ⟨y7_, y8_, y9_⟩ := Kd.at_int z1_.out z5_ y5_ y6_; cases y8_; replace y9_ := keep_cell HK.out y9_ (by first | (rw [add_block]; exact hf1 _ rfl (by omega)) | exact hf1 _ rfl (by omega) | exact hf1 y7_ rfl (by omega)); replace y5_ := eq_true y5_; replace y6_ := eq_true y6_))
     go_ret
     exact ⟨by first | rfl | (simp [errW_none, errW_some] <;> rfl) | (simp [*, errW_none, errW_some] <;> rfl), by repeat (first | (with_reducible first | exact z3_.out | apply IsS124.alloc | apply IsS124.drewN | apply IsS124.drew | apply IsS124.set_1 | apply IsS124.set_2) | exact z3_.out), by repeat (first | (with_reducible first | exact HB.out | apply below_alloc | apply pw_below_drewN | apply below_drew1 | refine below_set ?_ (IsS124.ge z3_.out)) | exact HB.out), by repeat (first | (with_reducible first | exact HK.out | apply KeepBut.set_ | apply keep_drewN | apply keep_drew | apply keep_alloc) | exact HK.out)⟩
   · rw [if_neg z12_] at H
     exact absurd H (by simp)
 · rw [if_neg z10_] at H
   exact absurd H (by simp)
def spec_l02Grid.f (s0_0 : List Int) (s0_1 : Int) (s0_2 : Int) : Option (Int × Int × Int × Int) := (spec_l01PickInt.f s0_0 s0_1 s0_2 (([1, 2, 2, 3, 3, 4] : List Int))).bind fun bt105 => ((spec_l01PickInt.f s0_0 bt105.2.1 bt105.2.2 (([1, 2, 2, 3, 3, 4] : List Int))).bind fun bt111 => (some (bt105.1, bt111.1, bt111.2.1, bt111.2.2)))
set_option maxHeartbeats 8000000 in
set_option maxRecDepth 100000 in
theorem spec_l02Grid.calls (g : Nat) (s0_0 : List Int) (s0_1 : Int) (s0_2 : Int) (r1 : Int) (r2 : Int) (r3 : Int) (r4 : Int) (w0 w : World) (hI : IsS124 w0 w g s0_0 s0_1 s0_2) (hB : Below w0.heap.size w0 w) (h : spec_l02Grid.f s0_0 s0_1 s0_2 = some (r1, r2, r3, r4)) :
    Calls Try.prog 114 #[.pointer (some ⟨g, 0, none⟩)] w fun e w' => e = .returned (.agg #[.int .i64 r1, .int .i64 r2]) ∧ IsS124 w0 w' g s0_0 r3 r4 ∧ Below w0.heap.size w0 w' ∧ KeepBut w w' g none := by
 have z1_ := Try.underlying32
 have z2_ := Aside0.mk hI
 have HK := Aside0.mk (KeepBut.refl w g none)
 have HL := Aside0.mk hB.size
 clear hI
 have z3_ := Aside0.mk hB.size
 have HB := Aside0.mk hB
 clear hB
 have H : ((spec_l01PickInt.f s0_0 s0_1 s0_2 (([1, 2, 2, 3, 3, 4] : List Int))).bind fun bt105 => ((spec_l01PickInt.f s0_0 bt105.2.1 bt105.2.2 (([1, 2, 2, 3, 3, 4] : List Int))).bind fun bt111 => (some (bt105.1, bt111.1, bt111.2.1, bt111.2.2)))) = some (r1, r2, r3, r4) := h
 clear h
 obtain ⟨z4_, z5_⟩ : ∃ y_ : List Int, y_ = (([1, 2, 2, 3, 3, 4] : List Int)) := ⟨_, rfl⟩
 replace H : ((spec_l01PickInt.f s0_0 s0_1 s0_2 z4_).bind fun bt105 => ((spec_l01PickInt.f s0_0 bt105.2.1 bt105.2.2 (([1, 2, 2, 3, 3, 4] : List Int))).bind fun bt111 => (some (bt105.1, bt111.1, bt111.2.1, bt111.2.2)))) = some (r1, r2, r3, r4) := by first | (rw [z5_]; with_reducible exact H) | (have z6_ := (Option.bind_some _ _).symm.trans H; rw [z5_]; with_reducible exact z6_) | (have z6_ := (Option.bind_some _ _).symm.trans H; with_reducible exact z6_) | with_reducible exact H | (rw [z5_]; exact H) | exact H
 have z7_ := Aside0.mk z5_
 clear z5_
 replace H := Option.bind_eq_some_iff.mp H
 obtain ⟨⟨z8_, z9_, z10_⟩, z11_, H⟩ := H
 replace H : ((spec_l01PickInt.f s0_0 z9_ z10_ (([1, 2, 2, 3, 3, 4] : List Int))).bind fun bt111 => (some (z8_, bt111.1, bt111.2.1, bt111.2.2))) = some (r1, r2, r3, r4) := H
 have z12_ := Aside0.mk z11_
 clear z11_
 obtain ⟨z13_, z14_⟩ : ∃ y_ : List Int, y_ = (([1, 2, 2, 3, 3, 4] : List Int)) := ⟨_, rfl⟩
 replace H : ((spec_l01PickInt.f s0_0 z9_ z10_ z13_).bind fun bt111 => (some (z8_, bt111.1, bt111.2.1, bt111.2.2))) = some (r1, r2, r3, r4) := by first | (rw [z14_]; with_reducible exact H) | (have z6_ := (Option.bind_some _ _).symm.trans H; rw [z14_]; with_reducible exact z6_) | (have z6_ := (Option.bind_some _ _).symm.trans H; with_reducible exact z6_) | with_reducible exact H | (rw [z14_]; exact H) | exact H
 have z15_ := Aside0.mk z14_
 clear z14_
 replace H := Option.bind_eq_some_iff.mp H
 obtain ⟨⟨z16_, z17_, z18_⟩, z19_, H⟩ := H
 replace H : (some (z8_, z16_, z17_, z18_)) = some (r1, r2, r3, r4) := H
 have z20_ := Aside0.mk z19_
 clear z19_
 simp only [Option.some.injEq, Prod.mk.injEq] at H
 obtain ⟨rfl, rfl, rfl, rfl⟩ := H
 go_enter Try.func114, Try.ntmps114
 go_wp2_with (first | ((with_reducible refine gate_dst (N := 2) rfl ?_); refine box_event ?hg (N := 2) ?hd (cs := #[.int .i64 0, .int .i64 0]) (t := 32) ?hr ?_; (case hd => rfl); (case hg => rfl); (case hr => first | (go_simp; done) | (go_simp; rfl)); intro z21_ hg z22_ hbox hb; have z23_ := Aside0.mk (IsS124.below (by repeat (first | (with_reducible first | exact z2_.out | apply IsS124.alloc | apply IsS124.drewN | apply IsS124.drew | apply IsS124.set_1 | apply IsS124.set_2) | exact z2_.out)) hb); have z24_ := Aside0.mk (KeepBut.trans (by repeat (first | (with_reducible first | exact HK.out | apply KeepBut.set_ | apply keep_drewN | apply keep_drew | apply keep_alloc) | exact HK.out)) (KeepBut.of_below hb g none) (.inl rfl)); have z25_ := Aside0.mk (below_step (by repeat (first | (with_reducible first | exact HB.out | apply below_alloc | apply pw_below_drewN | apply below_drew1 | refine below_set ?_ (IsS124.ge z2_.out)) | exact HB.out)) hb); have z26_ := Aside0.mk (hbox); have z27_ := Aside0.mk ((by rw [hg]; exact (keep_size (w := w) (g := g) (row := none) (by repeat (first | (with_reducible first | exact HK.out | apply KeepBut.set_ | apply keep_drewN | apply keep_drew | apply keep_alloc) | exact HK.out))) : w.heap.size ≤ z21_)); have z28_ := Aside0.mk ((Nat.le_trans z3_.out (by rw [hg]; exact (keep_size (w := w) (g := g) (row := none) (by repeat (first | (with_reducible first | exact HK.out | apply KeepBut.set_ | apply keep_drewN | apply keep_drew | apply keep_alloc) | exact HK.out))) : w.heap.size ≤ z21_) : w0.heap.size ≤ z21_)); have z29_ := Aside0.mk ((by rw [hg]; exact Nat.ne_of_lt (IsS124.lt (show IsS124 w0 _ g s0_0 s0_1 s0_2 from by repeat (first | (with_reducible first | exact z2_.out | apply IsS124.alloc | apply IsS124.drewN | apply IsS124.drew | apply IsS124.set_1 | apply IsS124.set_2) | exact z2_.out))) : g ≠ z21_)); have z30_ := Aside0.mk ((by rw [hg]; exact Nat.ne_of_gt (IsS124.lt (show IsS124 w0 _ g s0_0 s0_1 s0_2 from by repeat (first | (with_reducible first | exact z2_.out | apply IsS124.alloc | apply IsS124.drewN | apply IsS124.drew | apply IsS124.set_1 | apply IsS124.set_2) | exact z2_.out))) : z21_ ≠ g)); clear z2_; clear HK; clear HB; have z2_ := z23_; have HK := z24_; have HB := z25_; have z31_ := z26_; have z32_ := z27_; have z33_ := z28_; have z34_ := z29_; have z35_ := z30_; clear z23_ z24_ z25_ z26_ z27_ z28_ z29_ z30_; clear hb hbox hg) | ((with_reducible refine gate_dst (N := 4) rfl ?_); refine Kd.R_lit (Kd.int .i64) _ 3 ?hg (N := 4) ?hd (xs := ([1, 2, 2, 3, 3, 4] : List Int)) (inner := [.int .i64 1, .int .i64 2, .int .i64 2, .int .i64 3, .int .i64 3, .int .i64 4]) (ok := fun _ => True) (okp := fun _ => True) ?hr ?hp (fun _ hk => hk) trivial (Below.refl _ _) (Nat.le_refl _) (by simp) ?_; (case hd => rfl); (case hg => rfl); (case hr => first | (go_simp; done) | (go_simp; rfl)); (case hp => exact (Reps.one (show Kd.M (Kd.int .i64) _ _ _ 1 [.int .i64 1] from rfl) (Reps.one (show Kd.M (Kd.int .i64) _ _ _ 2 [.int .i64 2] from rfl) (Reps.one (show Kd.M (Kd.int .i64) _ _ _ 2 [.int .i64 2] from rfl) (Reps.one (show Kd.M (Kd.int .i64) _ _ _ 3 [.int .i64 3] from rfl) (Reps.one (show Kd.M (Kd.int .i64) _ _ _ 3 [.int .i64 3] from rfl) (Reps.one (show Kd.M (Kd.int .i64) _ _ _ 4 [.int .i64 4] from rfl) (Reps.none _ _)))))))); intro z36_ z37_ z38_ hb hg_ hnew_; clear hg_ hnew_; (first | rw [← z7_.out] at z38_ | (simp only [Int.reduceToNat] at z38_; rw [← z7_.out] at z38_)); have z23_ := Aside0.mk (Kd.R_lower z38_ (keep_size (w := w) (g := g) (row := none) (by repeat (first | (with_reducible first | exact HK.out | apply KeepBut.set_ | apply keep_drewN | apply keep_drew | apply keep_alloc | refine keep_far ?_ z32_.out _) | exact HK.out)))); have z24_ := Aside0.mk (IsS124.below (by repeat (first | (with_reducible first | exact z2_.out | apply IsS124.alloc | apply IsS124.drewN | apply IsS124.drew | apply IsS124.set_1 | apply IsS124.set_2 | refine IsS124.far ?_ z34_.out _) | exact z2_.out)) hb); have z25_ := Aside0.mk (blk_below (g := z21_) (o := .cells #[.int .i64 0, .int .i64 0] 32 (0, 0)) (by (with_reducible repeat (first | refine blk_drewN ?_ _ | refine blk_drew ?_ | refine blk_alloc ?_ _)); exact z31_.out) hb); have z26_ := Aside0.mk (KeepBut.trans (by repeat (first | (with_reducible first | exact HK.out | apply KeepBut.set_ | apply keep_drewN | apply keep_drew | apply keep_alloc | refine keep_far ?_ z32_.out _) | exact HK.out)) (KeepBut.of_below hb g none) (.inl rfl)); have z27_ := Aside0.mk (below_step (by repeat (first | (with_reducible first | exact HB.out | apply below_alloc | apply pw_below_drewN | apply below_drew1 | refine below_set ?_ (IsS124.ge z2_.out) | refine below_set ?_ z33_.out) | exact HB.out)) hb); clear z2_; clear z31_; clear HK; clear HB; have z39_ := z23_; have z2_ := z24_; have z31_ := z25_; have HK := z26_; have HB := z27_; clear z23_ z24_ z25_ z26_ z27_; clear hb z38_; obtain ⟨z40_, z41_, z42_⟩ := Kd.R_slice z39_.out; subst z42_) | ((with_reducible refine gate_callee (f := 150) rfl ?_); refine goesL_ (some 5) rfl rfl Try.func150 (by kernel_rfl) rfl #[.pointer (some ⟨g, 0, none⟩), .slice z40_ z4_.length z41_] rfl (by (try simp only [List.map_toArray, List.map_cons, List.map_nil]); first | done | rfl | (simp only [List.length_drop, List.length_take]; rfl)) ?_; (with_reducible refine (spec_l01PickInt.calls _ _ _ _ _ _ _ _ _ _ w0 _ ?side1 ?side2 ?side3 ?side4 ?side5 z12_.out).mono ?_); (case side1 => repeat (first | (with_reducible first | exact z2_.out | apply IsS124.alloc | apply IsS124.drewN | apply IsS124.drew | apply IsS124.set_1 | apply IsS124.set_2 | refine IsS124.far ?_ z34_.out _) | exact z2_.out)); (case side2 => repeat (first | (with_reducible first | exact HB.out | apply below_alloc | apply pw_below_drewN | apply below_drew1 | refine below_set ?_ (IsS124.ge z2_.out) | refine below_set ?_ z33_.out) | exact HB.out)); (case side3 => repeat (first | exact (Kd.R_reads' z39_.out).2.2 | (with_reducible refine Kd.C_alloc ?_ _) | (with_reducible refine Kd.C_drewN ?_ _) | (with_reducible refine Kd.C_drew ?_))); (case side4 => exact (Kd.R_reads' z39_.out).2.1); (case side5 => exact far_slice (IsS124.own_ne z2_.out z39_.out (by decide))); rintro e z43_ ⟨rfl, hi, hb, hk⟩; refine ⟨_, rfl, ?_⟩; have z23_ := Aside0.mk (KeepBut.blk hk (g' := z21_) (o := .cells #[.int .i64 0, .int .i64 0] 32 (0, 0)) (by (with_reducible repeat (first | refine blk_drewN ?_ _ | refine blk_drew ?_ | refine blk_alloc ?_ _)); exact z31_.out) z35_.out (by simp)); have z24_ := Aside0.mk (Kd.R_mono (Kd.R_keep (IsS124.apart (show IsS124 w0 _ g s0_0 s0_1 s0_2 from by repeat (first | (with_reducible first | exact z2_.out | apply IsS124.alloc | apply IsS124.drewN | apply IsS124.drew | apply IsS124.set_1 | apply IsS124.set_2 | refine IsS124.far ?_ z34_.out _) | exact z2_.out)) (by (with_reducible repeat (first | apply Kd.R_alloc | apply Kd.R_drewN | apply Kd.R_drew)); exact z39_.out) (by decide)) hk (fun _ h => h.2)) (fun _ h => h.1)); have z25_ := Aside0.mk (KeepBut.trans (by repeat (first | (with_reducible first | exact HK.out | apply KeepBut.set_ | apply keep_drewN | apply keep_drew | apply keep_alloc | refine keep_far ?_ z32_.out _) | exact HK.out)) hk (.inl rfl)); have z26_ := Aside0.mk (hb); have z27_ := Aside0.mk (hi); clear z31_; clear z39_; clear HK; clear HB; clear z2_; have z31_ := z23_; have z39_ := z24_; have HK := z25_; have HB := z26_; have z2_ := z27_; clear z23_ z24_ z25_ z26_ z27_; (try clear hb); (try clear hb2); (try clear hk); (try clear hi)) | ((with_reducible refine gate_dst (N := 7) rfl ?_); refine Kd.R_lit (Kd.int .i64) _ 3 ?hg (N := 7) ?hd (xs := ([1, 2, 2, 3, 3, 4] : List Int)) (inner := [.int .i64 1, .int .i64 2, .int .i64 2, .int .i64 3, .int .i64 3, .int .i64 4]) (ok := fun _ => True) (okp := fun _ => True) ?hr ?hp (fun _ hk => hk) trivial (Below.refl _ _) (Nat.le_refl _) (by simp) ?_; (case hd => rfl); (case hg => rfl); (case hr => first | (go_simp; done) | (go_simp; rfl)); (case hp => exact (Reps.one (show Kd.M (Kd.int .i64) _ _ _ 1 [.int .i64 1] from rfl) (Reps.one (show Kd.M (Kd.int .i64) _ _ _ 2 [.int .i64 2] from rfl) (Reps.one (show Kd.M (Kd.int .i64) _ _ _ 2 [.int .i64 2] from rfl) (Reps.one (show Kd.M (Kd.int .i64) _ _ _ 3 [.int .i64 3] from rfl) (Reps.one (show Kd.M (Kd.int .i64) _ _ _ 3 [.int .i64 3] from rfl) (Reps.one (show Kd.M (Kd.int .i64) _ _ _ 4 [.int .i64 4] from rfl) (Reps.none _ _)))))))); intro z44_ z45_ z46_ hb hg_ hnew_; clear hg_ hnew_; (first | rw [← z15_.out] at z46_ | (simp only [Int.reduceToNat] at z46_; rw [← z15_.out] at z46_)); have z23_ := Aside0.mk (Kd.R_elder' (by (with_reducible repeat (first | apply Kd.R_alloc | apply Kd.R_drewN | apply Kd.R_drew)); exact z39_.out) (Kd.R_base z46_) hb); have z24_ := Aside0.mk (Kd.R_lower (Kd.R_new' z46_ (Kd.R_lt (by (with_reducible repeat (first | apply Kd.R_alloc | apply Kd.R_drewN | apply Kd.R_drew)); exact z39_.out))) (keep_size (w := w) (g := g) (row := none) (by repeat (first | (with_reducible first | exact HK.out | apply KeepBut.set_ | apply keep_drewN | apply keep_drew | apply keep_alloc | refine keep_far ?_ z32_.out _) | exact HK.out)))); have z25_ := Aside0.mk (IsS124.below (by repeat (first | (with_reducible first | exact z2_.out | apply IsS124.alloc | apply IsS124.drewN | apply IsS124.drew | apply IsS124.set_1 | apply IsS124.set_2 | refine IsS124.far ?_ z34_.out _) | exact z2_.out)) hb); have z26_ := Aside0.mk (blk_below (g := z21_) (o := .cells #[.int .i64 0, .int .i64 0] 32 (0, 0)) (by (with_reducible repeat (first | refine blk_drewN ?_ _ | refine blk_drew ?_ | refine blk_alloc ?_ _)); exact z31_.out) hb); have z27_ := Aside0.mk (KeepBut.trans (by repeat (first | (with_reducible first | exact HK.out | apply KeepBut.set_ | apply keep_drewN | apply keep_drew | apply keep_alloc | refine keep_far ?_ z32_.out _) | exact HK.out)) (KeepBut.of_below hb g none) (.inl rfl)); have z28_ := Aside0.mk (below_step (by repeat (first | (with_reducible first | exact HB.out | apply below_alloc | apply pw_below_drewN | apply below_drew1 | refine below_set ?_ (IsS124.ge z2_.out) | refine below_set ?_ z33_.out) | exact HB.out)) hb); clear z39_; clear z2_; clear z31_; clear HK; clear HB; have z39_ := z23_; have z47_ := z24_; have z2_ := z25_; have z31_ := z26_; have HK := z27_; have HB := z28_; clear z23_ z24_ z25_ z26_ z27_ z28_; clear hb z46_; obtain ⟨z48_, z49_, z50_⟩ := Kd.R_slice z47_.out; subst z50_) | ((with_reducible refine gate_callee (f := 150) rfl ?_); refine goesL_ (some 8) rfl rfl Try.func150 (by kernel_rfl) rfl #[.pointer (some ⟨g, 0, none⟩), .slice z48_ z13_.length z49_] rfl (by (try simp only [List.map_toArray, List.map_cons, List.map_nil]); first | done | rfl | (simp only [List.length_drop, List.length_take]; rfl)) ?_; (with_reducible refine (spec_l01PickInt.calls _ _ _ _ _ _ _ _ _ _ w0 _ ?side1 ?side2 ?side3 ?side4 ?side5 z20_.out).mono ?_); (case side1 => repeat (first | (with_reducible first | exact z2_.out | apply IsS124.alloc | apply IsS124.drewN | apply IsS124.drew | apply IsS124.set_1 | apply IsS124.set_2 | refine IsS124.far ?_ z34_.out _) | exact z2_.out)); (case side2 => repeat (first | (with_reducible first | exact HB.out | apply below_alloc | apply pw_below_drewN | apply below_drew1 | refine below_set ?_ (IsS124.ge z2_.out) | refine below_set ?_ z33_.out) | exact HB.out)); (case side3 => repeat (first | exact (Kd.R_reads' z47_.out).2.2 | (with_reducible refine Kd.C_alloc ?_ _) | (with_reducible refine Kd.C_drewN ?_ _) | (with_reducible refine Kd.C_drew ?_))); (case side4 => exact (Kd.R_reads' z47_.out).2.1); (case side5 => exact far_slice (IsS124.own_ne z2_.out z47_.out (by decide))); rintro e z51_ ⟨rfl, hi, hb, hk⟩; refine ⟨_, rfl, ?_⟩; have z23_ := Aside0.mk (KeepBut.blk hk (g' := z21_) (o := .cells #[.int .i64 0, .int .i64 0] 32 (0, 0)) (by (with_reducible repeat (first | refine blk_drewN ?_ _ | refine blk_drew ?_ | refine blk_alloc ?_ _)); exact z31_.out) z35_.out (by simp)); have z24_ := Aside0.mk (Kd.R_mono (Kd.R_keep (IsS124.apart (show IsS124 w0 _ g s0_0 z9_ z10_ from by repeat (first | (with_reducible first | exact z2_.out | apply IsS124.alloc | apply IsS124.drewN | apply IsS124.drew | apply IsS124.set_1 | apply IsS124.set_2 | refine IsS124.far ?_ z34_.out _) | exact z2_.out)) (by (with_reducible repeat (first | apply Kd.R_alloc | apply Kd.R_drewN | apply Kd.R_drew)); exact z39_.out) (by decide)) hk (fun _ h => h.2)) (fun _ h => h.1)); have z25_ := Aside0.mk (Kd.R_mono (Kd.R_keep (IsS124.apart (show IsS124 w0 _ g s0_0 z9_ z10_ from by repeat (first | (with_reducible first | exact z2_.out | apply IsS124.alloc | apply IsS124.drewN | apply IsS124.drew | apply IsS124.set_1 | apply IsS124.set_2 | refine IsS124.far ?_ z34_.out _) | exact z2_.out)) (by (with_reducible repeat (first | apply Kd.R_alloc | apply Kd.R_drewN | apply Kd.R_drew)); exact z47_.out) (by decide)) hk (fun _ h => h.2)) (fun _ h => h.1)); have z26_ := Aside0.mk (KeepBut.trans (by repeat (first | (with_reducible first | exact HK.out | apply KeepBut.set_ | apply keep_drewN | apply keep_drew | apply keep_alloc | refine keep_far ?_ z32_.out _) | exact HK.out)) hk (.inl rfl)); have z27_ := Aside0.mk (hb); have z28_ := Aside0.mk (hi); clear z31_; clear z39_; clear z47_; clear HK; clear HB; clear z2_; have z31_ := z23_; have z39_ := z24_; have z47_ := z25_; have HK := z26_; have HB := z27_; have z2_ := z28_; clear z23_ z24_ z25_ z26_ z27_ z28_; (try clear hb); (try clear hb2); (try clear hk); (try clear hi); have z52_ := z35_.out; have z53_ := z34_.out; have z54_ : z51_.cell? ⟨z21_, 0, none⟩ = some (.int .i64 0) := (blk_cell z31_.out 0).trans rfl; have z55_ : z51_.cell? ⟨z21_, 1, none⟩ = some (.int .i64 0) := (blk_cell z31_.out 1).trans rfl; have z56_ := blk_frozen z31_.out 0; have z57_ := blk_frozen z31_.out 1))
 refine bodyPost_ret (results_cell_row rfl _ _ z21_ 32 #[.int .i64 z8_, .int .i64 z16_] (0, 0) _ rfl (by (with_reducible repeat (first | refine blk_drewN ?_ _ | refine blk_drew ?_ | refine blk_alloc ?_ _)); refine blk_put (cs := #[.int .i64 z8_, .int .i64 0]) ?_ 1 _ rfl; (with_reducible repeat (first | refine blk_drewN ?_ _ | refine blk_drew ?_ | refine blk_alloc ?_ _)); refine blk_put (cs := #[.int .i64 0, .int .i64 0]) ?_ 0 _ rfl; (with_reducible repeat (first | refine blk_drewN ?_ _ | refine blk_drew ?_ | refine blk_alloc ?_ _)); exact z31_.out) Try.underlying32 rfl (by kernel_rfl)) rfl ?_
 exact ⟨by first | rfl | (simp [errW_none, errW_some] <;> rfl) | (simp [*, errW_none, errW_some] <;> rfl), by repeat (first | (with_reducible first | exact z2_.out | apply IsS124.alloc | apply IsS124.drewN | apply IsS124.drew | apply IsS124.set_1 | apply IsS124.set_2 | refine IsS124.far ?_ z34_.out _) | exact z2_.out), by repeat (first | (with_reducible first | exact HB.out | apply below_alloc | apply pw_below_drewN | apply below_drew1 | refine below_set ?_ (IsS124.ge z2_.out) | refine below_set ?_ z33_.out) | exact HB.out), by repeat (first | (with_reducible first | exact HK.out | apply KeepBut.set_ | apply keep_drewN | apply keep_drew | apply keep_alloc | refine keep_far ?_ z32_.out _) | exact HK.out)⟩
def spec_l14Grid.f (s0_0 : List Int) (s0_1 : Int) (s0_2 : Int) : Option (Int × Int × Int × Int) := (spec_l02Grid.f s0_0 s0_1 s0_2).bind fun bt102 => ((spec_NodeCount.f bt102.1 bt102.2.1).bind fun t107 => (if t107 < 2 then (some (2, bt102.2.1, bt102.2.2.1, bt102.2.2.2)) else (some (bt102.1, bt102.2.1, bt102.2.2.1, bt102.2.2.2))))
set_option maxHeartbeats 8000000 in
set_option maxRecDepth 100000 in
theorem spec_l14Grid.calls (g : Nat) (s0_0 : List Int) (s0_1 : Int) (s0_2 : Int) (r1 : Int) (r2 : Int) (r3 : Int) (r4 : Int) (w0 w : World) (hI : IsS124 w0 w g s0_0 s0_1 s0_2) (hB : Below w0.heap.size w0 w) (h : spec_l14Grid.f s0_0 s0_1 s0_2 = some (r1, r2, r3, r4)) :
    Calls Try.prog 123 #[.pointer (some ⟨g, 0, none⟩)] w fun e w' => e = .returned (.agg #[.int .i64 r1, .int .i64 r2]) ∧ IsS124 w0 w' g s0_0 r3 r4 ∧ Below w0.heap.size w0 w' ∧ KeepBut w w' g none := by
 have z1_ := Try.underlying32
 have z2_ := Aside0.mk hI
 have HK := Aside0.mk (KeepBut.refl w g none)
 have HL := Aside0.mk hB.size
 clear hI
 have z3_ := Aside0.mk hB.size
 have HB := Aside0.mk hB
 clear hB
 have H : ((spec_l02Grid.f s0_0 s0_1 s0_2).bind fun bt102 => ((spec_NodeCount.f bt102.1 bt102.2.1).bind fun t107 => (if t107 < 2 then (some (2, bt102.2.1, bt102.2.2.1, bt102.2.2.2)) else (some (bt102.1, bt102.2.1, bt102.2.2.1, bt102.2.2.2))))) = some (r1, r2, r3, r4) := h
 clear h
 replace H := Option.bind_eq_some_iff.mp H
 obtain ⟨⟨z4_, z5_, z6_, z7_⟩, z8_, H⟩ := H
 replace H : ((spec_NodeCount.f z4_ z5_).bind fun t107 => (if t107 < 2 then (some (2, z5_, z6_, z7_)) else (some (z4_, z5_, z6_, z7_)))) = some (r1, r2, r3, r4) := H
 have z9_ := Aside0.mk z8_
 clear z8_
 replace H := Option.bind_eq_some_iff.mp H
 obtain ⟨z10_, z11_, H⟩ := H
 replace H : (if z10_ < 2 then (some (2, z5_, z6_, z7_)) else (some (z4_, z5_, z6_, z7_))) = some (r1, r2, r3, r4) := H
 have z12_ := Aside0.mk z11_
 clear z11_
 by_cases z13_ : z10_ < 2
 focus
   rw [if_pos z13_] at H
   have z14_ : decide (z10_ < 2) = true := decide_eq_true z13_
   clear z13_
   simp only [Option.some.injEq, Prod.mk.injEq] at H
   obtain ⟨rfl, rfl, rfl, rfl⟩ := H
 rotate_left
 focus
   rw [if_neg z13_] at H
   have z14_ : decide (z10_ < 2) = false := decide_eq_false z13_
   clear z13_
   simp only [Option.some.injEq, Prod.mk.injEq] at H
   obtain ⟨rfl, rfl, rfl, rfl⟩ := H
 all_goals
   go_enter Try.func123, Try.ntmps123
   go_wp2_with (first | ((with_reducible refine gate_dst (N := 2) rfl ?_); refine box_event ?hg (N := 2) ?hd (cs := #[.int .i64 0, .int .i64 0]) (t := 32) ?hr ?_; (case hd => rfl); (case hg => rfl); (case hr => first | (go_simp; done) | (go_simp; rfl)); intro y1_ hg y2_ hbox hb; have y3_ := Aside0.mk (IsS124.below (by repeat (first | (with_reducible first | exact z2_.out | apply IsS124.alloc | apply IsS124.drewN | apply IsS124.drew | apply IsS124.set_1 | apply IsS124.set_2) | exact z2_.out)) hb); have y4_ := Aside0.mk (KeepBut.trans (by repeat (first | (with_reducible first | exact HK.out | apply KeepBut.set_ | apply keep_drewN | apply keep_drew | apply keep_alloc) | exact HK.out)) (KeepBut.of_below hb g none) (.inl rfl)); have y5_ := Aside0.mk (below_step (by repeat (first | (with_reducible first | exact HB.out | apply below_alloc | apply pw_below_drewN | apply below_drew1 | refine below_set ?_ (IsS124.ge z2_.out)) | exact HB.out)) hb); have y6_ := Aside0.mk (hbox); have y7_ := Aside0.mk ((by rw [hg]; exact (keep_size (w := w) (g := g) (row := none) (by repeat (first | (with_reducible first | exact HK.out | apply KeepBut.set_ | apply keep_drewN | apply keep_drew | apply keep_alloc) | exact HK.out))) : w.heap.size ≤ y1_)); have y8_ := Aside0.mk ((Nat.le_trans z3_.out (by rw [hg]; exact (keep_size (w := w) (g := g) (row := none) (by repeat (first | (with_reducible first | exact HK.out | apply KeepBut.set_ | apply keep_drewN | apply keep_drew | apply keep_alloc) | exact HK.out))) : w.heap.size ≤ y1_) : w0.heap.size ≤ y1_)); have y9_ := Aside0.mk ((by rw [hg]; exact Nat.ne_of_lt (IsS124.lt (show IsS124 w0 _ g s0_0 s0_1 s0_2 from by repeat (first | (with_reducible first | exact z2_.out | apply IsS124.alloc | apply IsS124.drewN | apply IsS124.drew | apply IsS124.set_1 | apply IsS124.set_2) | exact z2_.out))) : g ≠ y1_)); have y10_ := Aside0.mk ((by rw [hg]; exact Nat.ne_of_gt (IsS124.lt (show IsS124 w0 _ g s0_0 s0_1 s0_2 from by repeat (first | (with_reducible first | exact z2_.out | apply IsS124.alloc | apply IsS124.drewN | apply IsS124.drew | apply IsS124.set_1 | apply IsS124.set_2) | exact z2_.out))) : y1_ ≠ g)); clear z2_; clear HK; clear HB; have z2_ := y3_; have HK := y4_; have HB := y5_; have y11_ := y6_; have y12_ := y7_; have y13_ := y8_; have y14_ := y9_; have y15_ := y10_; clear y3_ y4_ y5_ y6_ y7_ y8_ y9_ y10_; clear hb hbox hg) | ((with_reducible refine gate_callee (f := 114) rfl ?_); refine goesL_ (some 5) rfl rfl Try.func114 (by kernel_rfl) rfl #[.pointer (some ⟨g, 0, none⟩)] rfl (by (try simp only [List.map_toArray, List.map_cons, List.map_nil]); first | done | rfl | (simp only [List.length_drop, List.length_take]; rfl)) ?_; (with_reducible refine (spec_l02Grid.calls _ _ _ _ _ _ _ _ w0 _ ?side1 ?side2 z9_.out).mono ?_); (case side1 => repeat (first | (with_reducible first | exact z2_.out | apply IsS124.alloc | apply IsS124.drewN | apply IsS124.drew | apply IsS124.set_1 | apply IsS124.set_2 | refine IsS124.far ?_ y14_.out _) | exact z2_.out)); (case side2 => repeat (first | (with_reducible first | exact HB.out | apply below_alloc | apply pw_below_drewN | apply below_drew1 | refine below_set ?_ (IsS124.ge z2_.out) | refine below_set ?_ y13_.out) | exact HB.out)); rintro e y16_ ⟨rfl, hi, hb, hk⟩; refine ⟨_, rfl, ?_⟩; have y3_ := Aside0.mk (KeepBut.blk hk (g' := y1_) (o := .cells #[.int .i64 0, .int .i64 0] 32 (0, 0)) (by (with_reducible repeat (first | refine blk_drewN ?_ _ | refine blk_drew ?_ | refine blk_alloc ?_ _)); exact y11_.out) y15_.out (by simp)); have y4_ := Aside0.mk (KeepBut.trans (by repeat (first | (with_reducible first | exact HK.out | apply KeepBut.set_ | apply keep_drewN | apply keep_drew | apply keep_alloc | refine keep_far ?_ y12_.out _) | exact HK.out)) hk (.inl rfl)); have y5_ := Aside0.mk (hb); have y6_ := Aside0.mk (hi); clear y11_; clear HK; clear HB; clear z2_; have y11_ := y3_; have HK := y4_; have HB := y5_; have z2_ := y6_; clear y3_ y4_ y5_ y6_; (try clear hb); (try clear hb2); (try clear hk); (try clear hi)) | ((with_reducible refine gate_dst (N := 3) rfl ?_); refine box_event ?hg (N := 3) ?hd (cs := #[.int .i64 0, .int .i64 0]) (t := 32) ?hr ?_; (case hd => rfl); (case hg => rfl); (case hr => first | (go_simp; done) | (go_simp; rfl)); intro y17_ hg y18_ hbox hb; have y3_ := Aside0.mk (IsS124.below (by repeat (first | (with_reducible first | exact z2_.out | apply IsS124.alloc | apply IsS124.drewN | apply IsS124.drew | apply IsS124.set_1 | apply IsS124.set_2 | refine IsS124.far ?_ y14_.out _) | exact z2_.out)) hb); have y4_ := Aside0.mk (blk_below (g := y1_) (o := .cells #[.int .i64 0, .int .i64 0] 32 (0, 0)) (by (with_reducible repeat (first | refine blk_drewN ?_ _ | refine blk_drew ?_ | refine blk_alloc ?_ _)); exact y11_.out) hb); have y5_ := Aside0.mk (KeepBut.trans (by repeat (first | (with_reducible first | exact HK.out | apply KeepBut.set_ | apply keep_drewN | apply keep_drew | apply keep_alloc | refine keep_far ?_ y12_.out _) | exact HK.out)) (KeepBut.of_below hb g none) (.inl rfl)); have y6_ := Aside0.mk (below_step (by repeat (first | (with_reducible first | exact HB.out | apply below_alloc | apply pw_below_drewN | apply below_drew1 | refine below_set ?_ (IsS124.ge z2_.out) | refine below_set ?_ y13_.out) | exact HB.out)) hb); have y7_ := Aside0.mk (hbox); have y8_ := Aside0.mk ((by rw [hg]; exact (keep_size (w := w) (g := g) (row := none) (by repeat (first | (with_reducible first | exact HK.out | apply KeepBut.set_ | apply keep_drewN | apply keep_drew | apply keep_alloc | refine keep_far ?_ y12_.out _) | exact HK.out))) : w.heap.size ≤ y17_)); have y9_ := Aside0.mk ((Nat.le_trans z3_.out (by rw [hg]; exact (keep_size (w := w) (g := g) (row := none) (by repeat (first | (with_reducible first | exact HK.out | apply KeepBut.set_ | apply keep_drewN | apply keep_drew | apply keep_alloc | refine keep_far ?_ y12_.out _) | exact HK.out))) : w.heap.size ≤ y17_) : w0.heap.size ≤ y17_)); have y10_ := Aside0.mk ((by rw [hg]; exact Nat.ne_of_lt (blk_lt (g := y1_) (o := .cells #[.int .i64 0, .int .i64 0] 32 (0, 0)) (by (with_reducible repeat (first | refine blk_drewN ?_ _ | refine blk_drew ?_ | refine blk_alloc ?_ _)); exact y11_.out)) : y1_ ≠ y17_)); have y19_ := Aside0.mk ((by rw [hg]; exact Nat.ne_of_gt (blk_lt (g := y1_) (o := .cells #[.int .i64 0, .int .i64 0] 32 (0, 0)) (by (with_reducible repeat (first | refine blk_drewN ?_ _ | refine blk_drew ?_ | refine blk_alloc ?_ _)); exact y11_.out)) : y17_ ≠ y1_)); have y20_ := Aside0.mk ((by rw [hg]; exact Nat.ne_of_lt (IsS124.lt (show IsS124 w0 _ g s0_0 z6_ z7_ from by repeat (first | (with_reducible first | exact z2_.out | apply IsS124.alloc | apply IsS124.drewN | apply IsS124.drew | apply IsS124.set_1 | apply IsS124.set_2 | refine IsS124.far ?_ y14_.out _) | exact z2_.out))) : g ≠ y17_)); have y21_ := Aside0.mk ((by rw [hg]; exact Nat.ne_of_gt (IsS124.lt (show IsS124 w0 _ g s0_0 z6_ z7_ from by repeat (first | (with_reducible first | exact z2_.out | apply IsS124.alloc | apply IsS124.drewN | apply IsS124.drew | apply IsS124.set_1 | apply IsS124.set_2 | refine IsS124.far ?_ y14_.out _) | exact z2_.out))) : y17_ ≠ g)); clear z2_; clear y11_; clear HK; clear HB; have z2_ := y3_; have y11_ := y4_; have HK := y5_; have HB := y6_; have y22_ := y7_; have y23_ := y8_; have y24_ := y9_; have y25_ := y10_; have y26_ := y19_; have y27_ := y20_; have y28_ := y21_; clear y3_ y4_ y5_ y6_ y7_ y8_ y9_ y10_ y19_ y20_ y21_; clear hb hbox hg; have y29_ := y26_.out; have y30_ := y25_.out; have y31_ := y28_.out; have y32_ := y27_.out; have y33_ : y18_.cell? ⟨y17_, 0, none⟩ = some (.int .i64 0) := (blk_cell y22_.out 0).trans rfl; have y34_ : y18_.cell? ⟨y17_, 1, none⟩ = some (.int .i64 0) := (blk_cell y22_.out 1).trans rfl; have y35_ := blk_frozen y22_.out 0; have y36_ := blk_frozen y22_.out 1) | ((with_reducible refine gate_callee (f := 87) rfl ?_); refine goesL_ (some 7) rfl rfl Try.func87 (by kernel_rfl) rfl #[.agg #[.int .i64 z4_, .int .i64 z5_]] rfl (by (try simp only [List.map_toArray, List.map_cons, List.map_nil]); first | done | rfl | (simp only [List.length_drop, List.length_take]; rfl)) ?_; (with_reducible refine (spec_NodeCount.calls _ _ _ _ z12_.out).mono ?_); rintro e y37_ ⟨rfl, hb⟩; refine ⟨_, rfl, ?_⟩; have y3_ := Aside0.mk (IsS124.below (show IsS124 w0 ((y18_.setCell ⟨y17_, 0, none⟩ (.int .i64 z4_)).setCell ⟨y17_, 1, none⟩ (.int .i64 z5_)) g s0_0 z6_ z7_ from by repeat (first | (with_reducible first | exact z2_.out | apply IsS124.alloc | apply IsS124.drewN | apply IsS124.drew | apply IsS124.set_1 | apply IsS124.set_2 | refine IsS124.far ?_ y14_.out _ | refine IsS124.far ?_ y27_.out _) | exact z2_.out)) hb); have y4_ := Aside0.mk (blk_below (g := y1_) (o := .cells #[.int .i64 0, .int .i64 0] 32 (0, 0)) (by (with_reducible repeat (first | refine blk_drewN ?_ _ | refine blk_drew ?_ | refine blk_alloc ?_ _)); refine blk_far ?_ y25_.out _; (with_reducible repeat (first | refine blk_drewN ?_ _ | refine blk_drew ?_ | refine blk_alloc ?_ _)); refine blk_far ?_ y25_.out _; (with_reducible repeat (first | refine blk_drewN ?_ _ | refine blk_drew ?_ | refine blk_alloc ?_ _)); exact y11_.out) hb); have y5_ := Aside0.mk (blk_below (g := y17_) (o := .cells #[.int .i64 z4_, .int .i64 z5_] 32 (0, 0)) (by (with_reducible repeat (first | refine blk_drewN ?_ _ | refine blk_drew ?_ | refine blk_alloc ?_ _)); refine blk_put (cs := #[.int .i64 z4_, .int .i64 0]) ?_ 1 _ rfl; (with_reducible repeat (first | refine blk_drewN ?_ _ | refine blk_drew ?_ | refine blk_alloc ?_ _)); refine blk_put (cs := #[.int .i64 0, .int .i64 0]) ?_ 0 _ rfl; (with_reducible repeat (first | refine blk_drewN ?_ _ | refine blk_drew ?_ | refine blk_alloc ?_ _)); exact y22_.out) hb); have y6_ := Aside0.mk (KeepBut.trans (by repeat (first | (with_reducible first | exact HK.out | apply KeepBut.set_ | apply keep_drewN | apply keep_drew | apply keep_alloc | refine keep_far ?_ y12_.out _ | refine keep_far ?_ y23_.out _) | exact HK.out)) (KeepBut.of_below hb g none) (.inl rfl)); have y7_ := Aside0.mk (below_step (by repeat (first | (with_reducible first | exact HB.out | apply below_alloc | apply pw_below_drewN | apply below_drew1 | refine below_set ?_ (IsS124.ge z2_.out) | refine below_set ?_ y13_.out | refine below_set ?_ y24_.out) | exact HB.out)) hb); clear z2_; clear y11_; clear y22_; clear HK; clear HB; have z2_ := y3_; have y11_ := y4_; have y22_ := y5_; have HK := y6_; have HB := y7_; clear y3_ y4_ y5_ y6_ y7_; (try clear hb); (try clear hb2); (try clear hk); (try clear hi); have y38_ : y37_.cell? ⟨y17_, 0, none⟩ = some (.int .i64 z4_) := (blk_cell y22_.out 0).trans rfl; have y39_ : y37_.cell? ⟨y17_, 1, none⟩ = some (.int .i64 z5_) := (blk_cell y22_.out 1).trans rfl; have y40_ := blk_frozen y22_.out 0; have y41_ := blk_frozen y22_.out 1; have y42_ := y15_.out; have y43_ := y14_.out; have y44_ : y37_.cell? ⟨y1_, 0, none⟩ = some (.int .i64 0) := (blk_cell y11_.out 0).trans rfl; have y45_ : y37_.cell? ⟨y1_, 1, none⟩ = some (.int .i64 0) := (blk_cell y11_.out 1).trans rfl; have y46_ := blk_frozen y11_.out 0; have y47_ := blk_frozen y11_.out 1))
   first
     | skip
       refine bodyPost_ret (results_cell_row rfl _ _ y1_ 32 #[.int .i64 2, .int .i64 z5_] (0, 0) _ rfl (by (with_reducible repeat (first | refine blk_drewN ?_ _ | refine blk_drew ?_ | refine blk_alloc ?_ _)); refine blk_put (cs := #[.int .i64 2, .int .i64 0]) ?_ 1 _ rfl; (with_reducible repeat (first | refine blk_drewN ?_ _ | refine blk_drew ?_ | refine blk_alloc ?_ _)); refine blk_put (cs := #[.int .i64 0, .int .i64 0]) ?_ 0 _ rfl; (with_reducible repeat (first | refine blk_drewN ?_ _ | refine blk_drew ?_ | refine blk_alloc ?_ _)); refine blk_far ?_ y25_.out _; (with_reducible repeat (first | refine blk_drewN ?_ _ | refine blk_drew ?_ | refine blk_alloc ?_ _)); exact y11_.out) Try.underlying32 rfl (by kernel_rfl)) rfl ?_
       exact ⟨by first | rfl | (simp [errW_none, errW_some] <;> rfl) | (simp [*, errW_none, errW_some] <;> rfl), by repeat (first | (with_reducible first | exact z2_.out | apply IsS124.alloc | apply IsS124.drewN | apply IsS124.drew | apply IsS124.set_1 | apply IsS124.set_2 | refine IsS124.far ?_ y14_.out _ | refine IsS124.far ?_ y27_.out _) | exact z2_.out), by repeat (first | (with_reducible first | exact HB.out | apply below_alloc | apply pw_below_drewN | apply below_drew1 | refine below_set ?_ (IsS124.ge z2_.out) | refine below_set ?_ y13_.out | refine below_set ?_ y24_.out) | exact HB.out), by repeat (first | (with_reducible first | exact HK.out | apply KeepBut.set_ | apply keep_drewN | apply keep_drew | apply keep_alloc | refine keep_far ?_ y12_.out _ | refine keep_far ?_ y23_.out _) | exact HK.out)⟩
     | skip
       refine bodyPost_ret (results_cell_row rfl _ _ y1_ 32 #[.int .i64 z4_, .int .i64 z5_] (0, 0) _ rfl (by (with_reducible repeat (first | refine blk_drewN ?_ _ | refine blk_drew ?_ | refine blk_alloc ?_ _)); refine blk_put (cs := #[.int .i64 z4_, .int .i64 0]) ?_ 1 _ rfl; (with_reducible repeat (first | refine blk_drewN ?_ _ | refine blk_drew ?_ | refine blk_alloc ?_ _)); refine blk_put (cs := #[.int .i64 0, .int .i64 0]) ?_ 0 _ rfl; (with_reducible repeat (first | refine blk_drewN ?_ _ | refine blk_drew ?_ | refine blk_alloc ?_ _)); exact y11_.out) Try.underlying32 rfl (by kernel_rfl)) rfl ?_
       exact ⟨by first | rfl | (simp [errW_none, errW_some] <;> rfl) | (simp [*, errW_none, errW_some] <;> rfl), by repeat (first | (with_reducible first | exact z2_.out | apply IsS124.alloc | apply IsS124.drewN | apply IsS124.drew | apply IsS124.set_1 | apply IsS124.set_2 | refine IsS124.far ?_ y14_.out _ | refine IsS124.far ?_ y27_.out _) | exact z2_.out), by repeat (first | (with_reducible first | exact HB.out | apply below_alloc | apply pw_below_drewN | apply below_drew1 | refine below_set ?_ (IsS124.ge z2_.out) | refine below_set ?_ y13_.out | refine below_set ?_ y24_.out) | exact HB.out), by repeat (first | (with_reducible first | exact HK.out | apply KeepBut.set_ | apply keep_drewN | apply keep_drew | apply keep_alloc | refine keep_far ?_ y12_.out _ | refine keep_far ?_ y23_.out _) | exact HK.out)⟩
def spec_l15Mesh.f (a0_0 : Int) (a0_1 : Int) (l0_2 : List Int) : Option (Int × Int × List Int) := (some (([] : List Int) : List Int)).bind fun y103 => (if y103.length + l0_2.length < 17592186044416 then (some (a0_0, a0_1, (y103 ++ l0_2))) else (none))
def spec_l15Mesh.T1 : Bool × List (List Nat × List Nat) := (true, [([], []), ([0], [0]), ([], []), ([], []), ([3], [3]), ([2, 4], [2, 4]), ([1, 5], [1, 5]), ([6, 5, 0, 1, 2, 3, 4, 5, 6], [6])])
def spec_l15Mesh.B1 : List Nat := [0, 1, 0, 0, 8, 28, 63, 127]
theorem spec_l15Mesh.tab1 : rtab .any (opsOf Try.f151 1) = spec_l15Mesh.T1 := by kernel_rfl
theorem spec_l15Mesh.bits1 : waitsOk spec_l15Mesh.T1.2 spec_l15Mesh.B1 = true := by kernel_rfl
set_option maxHeartbeats 8000000 in
set_option maxRecDepth 100000 in
theorem spec_l15Mesh.calls (a0_0 : Int) (a0_1 : Int) (A0_2 : Option Addr) (c0_2 : Nat) (l0_2 : List Int) (r1 : Int) (r2 : Int) (r3 : List Int) (w : World) (hr0_2 : Kd.C (Kd.int .i64) w A0_2 l0_2.length l0_2) (hc0_2 : l0_2.length ≤ c0_2) (h : spec_l15Mesh.f a0_0 a0_1 l0_2 = some (r1, r2, r3)) :
    Calls Try.prog 151 #[.agg #[.int .i64 a0_0, .int .i64 a0_1, .slice A0_2 l0_2.length c0_2]] w fun e w' => ∃ v2_ : Value, e = .returned (.agg #[.int .i64 r1, .int .i64 r2, v2_]) ∧ Kd.R (Kd.int .i64) 3 w' w.heap.size (fun _ => True) v2_ r3 ∧ Below w.heap.size w w' := by
 have z1_ := Try.underlying34
 have z2_ := Try.underlying32
 have z3_ := Aside0.mk hr0_2
 have z4_ := Aside0.mk hc0_2
 clear hr0_2 hc0_2
 have HB := Aside0.mk (Below.refl w.heap.size w)
 have H : ((some (([] : List Int) : List Int)).bind fun y103 => (if y103.length + l0_2.length < 17592186044416 then (some (a0_0, a0_1, (y103 ++ l0_2))) else (none))) = some (r1, r2, r3) := h
 clear h
 obtain ⟨z5_, z6_⟩ : ∃ y_ : List Int, y_ = (([] : List Int)) := ⟨_, rfl⟩
 replace H : (if z5_.length + l0_2.length < 17592186044416 then (some (a0_0, a0_1, (z5_ ++ l0_2))) else (none)) = some (r1, r2, r3) := by first | (rw [z6_]; with_reducible exact H) | (have z7_ := (Option.bind_some _ _).symm.trans H; rw [z6_]; with_reducible exact z7_) | (have z7_ := (Option.bind_some _ _).symm.trans H; with_reducible exact z7_) | with_reducible exact H | (rw [z6_]; exact H) | exact H
 have z8_ := Aside0.mk z6_
 clear z6_
 by_cases z9_ : z5_.length + l0_2.length < 17592186044416
 · rw [if_pos z9_] at H
   have z10_ := Aside0.mk z9_
   clear z9_
   obtain ⟨z11_, z12_⟩ : ∃ y_ : List Int, y_ = (z5_ ++ l0_2) := ⟨_, rfl⟩
   replace H : (some (a0_0, a0_1, z11_)) = some (r1, r2, r3) := by first | (rw [z12_]; with_reducible exact H) | (have z7_ := (Option.bind_some _ _).symm.trans H; rw [z12_]; with_reducible exact z7_) | (have z7_ := (Option.bind_some _ _).symm.trans H; with_reducible exact z7_) | with_reducible exact H | (rw [z12_]; exact H) | exact H
   have z13_ := Aside0.mk z12_
   clear z12_
   simp only [Option.some.injEq, Prod.mk.injEq] at H
   obtain ⟨rfl, rfl, rfl⟩ := H
   go_enter Try.func151, Try.ntmps151
   try go_wp2_with (first | ((with_reducible refine gate_dst (N := 1) rfl ?_); refine box_event ?hg (N := 1) ?hd (cs := #[.int .i64 a0_0, .int .i64 a0_1, .slice A0_2 l0_2.length c0_2]) (t := 34) ?hr ?_; (case hd => rfl); (case hg => rfl); (case hr => first | (go_simp; done) | (go_simp; rfl)); intro y1_ hg y2_ hbox hb; have y3_ := Aside0.mk (below_step (by repeat (first | (with_reducible first | exact HB.out | apply below_alloc | apply pw_below_drewN | apply below_drew1) | exact HB.out)) hb); have y4_ := Aside0.mk (hbox); have y5_ := Aside0.mk ((by rw [hg]; exact (below_size (by repeat (first | (with_reducible first | exact HB.out | apply below_alloc | apply pw_below_drewN | apply below_drew1) | exact HB.out))) : w.heap.size ≤ y1_)); have y6_ := Aside0.mk ((by rw [hg]; exact (below_size (by repeat (first | (with_reducible first | exact HB.out | apply below_alloc | apply pw_below_drewN | apply below_drew1) | exact HB.out))) : w.heap.size ≤ y1_)); clear HB; have HB := y3_; have y7_ := y4_; have y8_ := y5_; have y9_ := y6_; clear y3_ y4_ y5_ y6_; clear hb hbox hg) | ((with_reducible refine gate_dst (N := 2) rfl ?_); refine box_event ?hg (N := 2) ?hd (cs := #[.int .i64 0, .int .i64 0, .slice none 0 0]) (t := 34) ?hr ?_; (case hd => rfl); (case hg => rfl); (case hr => first | (go_simp; done) | (go_simp; rfl)); intro y10_ hg y11_ hbox hb; have y3_ := Aside0.mk (blk_below (g := y1_) (o := .cells #[.int .i64 a0_0, .int .i64 a0_1, .slice A0_2 l0_2.length c0_2] 34 (0, 0)) (by (with_reducible repeat (first | refine blk_drewN ?_ _ | refine blk_drew ?_ | refine blk_alloc ?_ _)); exact y7_.out) hb); have y4_ := Aside0.mk (below_step (by repeat (first | (with_reducible first | exact HB.out | apply below_alloc | apply pw_below_drewN | apply below_drew1 | refine below_set ?_ y9_.out) | exact HB.out)) hb); have y5_ := Aside0.mk (hbox); have y6_ := Aside0.mk ((by rw [hg]; exact (below_size (by repeat (first | (with_reducible first | exact HB.out | apply below_alloc | apply pw_below_drewN | apply below_drew1 | refine below_set ?_ y9_.out) | exact HB.out))) : w.heap.size ≤ y10_)); have y12_ := Aside0.mk ((by rw [hg]; exact (below_size (by repeat (first | (with_reducible first | exact HB.out | apply below_alloc | apply pw_below_drewN | apply below_drew1 | refine below_set ?_ y9_.out) | exact HB.out))) : w.heap.size ≤ y10_)); have y13_ := Aside0.mk ((by rw [hg]; exact Nat.ne_of_lt (blk_lt (g := y1_) (o := .cells #[.int .i64 a0_0, .int .i64 a0_1, .slice A0_2 l0_2.length c0_2] 34 (0, 0)) (by (with_reducible repeat (first | refine blk_drewN ?_ _ | refine blk_drew ?_ | refine blk_alloc ?_ _)); exact y7_.out)) : y1_ ≠ y10_)); have y14_ := Aside0.mk ((by rw [hg]; exact Nat.ne_of_gt (blk_lt (g := y1_) (o := .cells #[.int .i64 a0_0, .int .i64 a0_1, .slice A0_2 l0_2.length c0_2] 34 (0, 0)) (by (with_reducible repeat (first | refine blk_drewN ?_ _ | refine blk_drew ?_ | refine blk_alloc ?_ _)); exact y7_.out)) : y10_ ≠ y1_)); clear y7_; clear HB; have y7_ := y3_; have HB := y4_; have y15_ := y5_; have y16_ := y6_; have y17_ := y12_; have y18_ := y13_; have y19_ := y14_; clear y3_ y4_ y5_ y6_ y12_ y13_ y14_; clear hb hbox hg))
   have y3_ := Aside0.mk (blk_drew y7_.out)
   have y4_ := Aside0.mk (blk_drew y15_.out)
   have y5_ := Aside0.mk (below_drew1 HB.out)
   clear y7_
   clear y15_
   clear HB
   have y7_ := y3_
   have y15_ := y4_
   have HB := y5_
   clear y3_ y4_ y5_
   refine start_ (n := 8) (S := fun w' => w'.cell? ⟨y1_, 0, none⟩ = some (.int .i64 a0_0) ∧ w'.cell? ⟨y1_, 1, none⟩ = some (.int .i64 a0_1) ∧ w'.cell? ⟨y1_, 2, none⟩ = some (.slice A0_2 l0_2.length c0_2)) (ds := []) #[false, false, false, false, false, false, false, false] (by kernel_rfl) rfl rfl ⟨(blk_cell y7_.out 0).trans rfl, (blk_cell y7_.out 1).trans rfl, (blk_cell y7_.out 2).trans rfl⟩ (fun hHeld => ?_); refine with_tabW spec_l15Mesh.tab1 spec_l15Mesh.bits1 (fun HT_ HW_ => ?_)
   generalize y11_.drew = y20_ at y7_ y15_ HB hHeld ⊢
   refine pure_ (i := 0) (N := some 3) (v := ?_) (a' := ?_) #[true, false, false, false, false, false, false, false] rfl rfl (any_of HT_.out (by kernel_rfl)) (fun _ _ _ h => h) (Or.inl ⟨by rfl, ?_⟩) ?_ ?_
   rotate_left
   · intro w'
     go_simp
     with_reducible rfl
   rotate_left
   · simp only [Act.put, List.setIfInBounds_toArray, List.set_cons_zero, List.set_cons_succ, i64_w, i32_w]
     rfl
   refine pure_ (i := 3) (N := some 6) (v := ?_) (a' := ?_) #[true, false, false, true, false, false, false, false] rfl rfl (any_of HT_.out (by kernel_rfl)) (fun _ _ _ h => h) (Or.inl ⟨by rfl, ?_⟩) ?_ ?_
   rotate_left
   · intro w'
     go_simp
     with_reducible rfl
   rotate_left
   · simp only [Act.put, List.setIfInBounds_toArray, List.set_cons_zero, List.set_cons_succ, i64_w, i32_w]
     rfl
   refine take_ (i := 1) (N := some 4) (v := ?_) (a' := ?_) #[true, true, false, true, false, false, false, false] rfl rfl (take_ofW HT_.out HW_.out (by kernel_rfl)) (fun _ _ _ h => h) (Or.inl ⟨by rfl, ?_⟩) hHeld ?_ ?_
   rotate_left
   · rintro w' ⟨y21_, y22_, y23_⟩
     go_simp
     with_reducible rfl
   rotate_left
   · simp only [Act.put, List.setIfInBounds_toArray, List.set_cons_zero, List.set_cons_succ, i64_w, i32_w]
     rfl
   refine take_ (i := 4) (N := some 7) (v := ?_) (a' := ?_) #[true, true, false, true, true, false, false, false] rfl rfl (take_ofW HT_.out HW_.out (by kernel_rfl)) (fun _ _ _ h => h) (Or.inl ⟨by rfl, ?_⟩) hHeld ?_ ?_
   rotate_left
   · rintro w' ⟨y21_, y22_, y23_⟩
     go_simp
     with_reducible rfl
   rotate_left
   · simp only [Act.put, List.setIfInBounds_toArray, List.set_cons_zero, List.set_cons_succ, i64_w, i32_w]
     rfl
   refine one_ (i := 2) (N := some 5) #[true, true, true, true, true, false, false, false] rfl rfl (one_of HT_.out (by kernel_rfl)) (by decide) (fun K hK => ?_)
   refine Kd.R_lit_step (Kd.int .i64) _ 3 ?hg (N := 5) ?hd (xs := ([] : List Int)) (inner := []) (ok := fun _ => True) (okp := fun _ => True) ?hr ?hp (fun _ hk => hk) trivial (Below.refl _ _) (Nat.le_refl _) (by simp) ?_; (case hd => rfl); (case hg => rfl); (case hr => first | (go_simp; done) | (go_simp; rfl)); (case hp => exact (Reps.none _ _))
   intro y24_ y25_ y26_ hb hg_ hnew_
   clear hg_ hnew_
   (first | rw [← z8_.out] at y26_ | (simp only [Int.reduceToNat] at y26_; rw [← z8_.out] at y26_))
   have y3_ := Aside0.mk (Kd.R_lower y26_ (below_size (by repeat (first | (with_reducible first | exact HB.out | apply below_alloc | apply pw_below_drewN | apply below_drew1 | refine below_set ?_ y9_.out | refine below_set ?_ y17_.out) | exact HB.out))))
   have y4_ := Aside0.mk (blk_below (g := y1_) (o := .cells #[.int .i64 a0_0, .int .i64 a0_1, .slice A0_2 l0_2.length c0_2] 34 (0, 0)) (by (with_reducible repeat (first | refine blk_drewN ?_ _ | refine blk_drew ?_ | refine blk_alloc ?_ _)); exact y7_.out) hb)
   have y5_ := Aside0.mk (blk_below (g := y10_) (o := .cells #[.int .i64 0, .int .i64 0, .slice none 0 0] 34 (0, 0)) (by (with_reducible repeat (first | refine blk_drewN ?_ _ | refine blk_drew ?_ | refine blk_alloc ?_ _)); exact y15_.out) hb)
   have y6_ := Aside0.mk (below_step (by repeat (first | (with_reducible first | exact HB.out | apply below_alloc | apply pw_below_drewN | apply below_drew1 | refine below_set ?_ y9_.out | refine below_set ?_ y17_.out) | exact HB.out)) hb)
   clear y7_
   clear y15_
   clear HB
   have y27_ := y3_
   have y7_ := y4_
   have y15_ := y5_
   have HB := y6_
   clear y3_ y4_ y5_ y6_
   clear hb y26_
   refine hK.out _ _ ⟨(blk_cell y7_.out 0).trans rfl, (blk_cell y7_.out 1).trans rfl, (blk_cell y7_.out 2).trans rfl⟩ (fun hHeld => ?_)
   clear hK K
   refine norm_ (a' := ?_) ?_ ?_
   rotate_left
   · show Act.put _ (some 5) _ = _
     simp only [Act.put, List.setIfInBounds_toArray, List.set_cons_zero, List.set_cons_succ, i64_w, i32_w]
     rfl
   refine one_ (i := 5) (N := some 8) #[true, true, true, true, true, true, false, false] rfl rfl (one_of HT_.out (by kernel_rfl)) (by decide) (fun K hK => ?_)
   refine Kd.R_append_rows_step (Kd.int .i64) (w0 := w) w.heap.size (by rfl) (.tmp 5) (.tmp 7) 24 3 (.int .i64 0) 8 rfl Try.underlying24 info3 rfl (by decide) (by omega) y24_ z5_ l0_2 _ _ _ (fun _ => True) (fun _ => False) rfl rfl ?aO ?aR (fun _ _ h => h) (fun _ h => h.elim) ?aF ?aB ?aS ?aL ?_
   (case aR => repeat (first | exact (Kd.C_below z3_.out HB.out) | (with_reducible refine Kd.C_alloc ?_ _) | (with_reducible refine Kd.C_drewN ?_ _) | (with_reducible refine Kd.C_drew ?_)))
   (case aB => exact (by repeat (first | (with_reducible first | exact HB.out | apply below_alloc | apply pw_below_drewN | apply below_drew1 | refine below_set ?_ y9_.out | refine below_set ?_ y17_.out) | exact HB.out)))
   (case aF => exact (fun _ _ => trivial))
   (case aO => exact (by (with_reducible repeat (first | apply Kd.R_alloc | apply Kd.R_drewN | apply Kd.R_drew)); exact y27_.out))
   (case aS => exact (below_size (by repeat (first | (with_reducible first | exact HB.out | apply below_alloc | apply pw_below_drewN | apply below_drew1 | refine below_set ?_ y9_.out | refine below_set ?_ y17_.out) | exact HB.out))))
   (case aL => have := z10_.out; omega)
   intro y28_ y29_ ho hb hg hat
   rw [← z13_.out] at ho
   have y3_ := Aside0.mk (blk_grown (g := y1_) (o := .cells #[.int .i64 a0_0, .int .i64 a0_1, .slice A0_2 l0_2.length c0_2] 34 (0, 0)) (by (with_reducible repeat (first | refine blk_drewN ?_ _ | refine blk_drew ?_ | refine blk_alloc ?_ _)); exact y7_.out) hg (Kd.R_ne y27_.out y7_.out (by decide)))
   have y4_ := Aside0.mk (blk_grown (g := y10_) (o := .cells #[.int .i64 0, .int .i64 0, .slice none 0 0] 34 (0, 0)) (by (with_reducible repeat (first | refine blk_drewN ?_ _ | refine blk_drew ?_ | refine blk_alloc ?_ _)); exact y15_.out) hg (Kd.R_ne y27_.out y15_.out (by decide)))
   have y5_ := Aside0.mk (hb)
   have y6_ := Aside0.mk (ho)
   clear y7_
   clear y15_
   clear HB
   clear y27_
   have y7_ := y3_
   have y15_ := y4_
   have HB := y5_
   have y30_ := y6_
   clear y3_ y4_ y5_ y6_
   clear ho hb hg hat
   obtain ⟨y31_, y32_, y33_⟩ := Kd.R_slice y30_.out
   (first | subst y33_ | (injection y33_ with f1_ f2_ f3_; have y34_ := f1_.symm; have y35_ := f3_.symm; clear f1_ f2_ f3_; subst y34_; subst y35_))
   refine hK.out _ _ ⟨(blk_cell y7_.out 0).trans rfl, (blk_cell y7_.out 1).trans rfl, (blk_cell y7_.out 2).trans rfl⟩ (fun hHeld => ?_)
   clear hK K
   refine norm_ (a' := ?_) ?_ ?_
   rotate_left
   · show Act.put _ (some 8) _ = _
     simp only [Act.put, List.setIfInBounds_toArray, List.set_cons_zero, List.set_cons_succ, i64_w, i32_w]
     rfl
   refine pure_ (i := 6) (N := some 9) (v := ?_) (a' := ?_) #[true, true, true, true, true, true, true, false] rfl rfl (any_of HT_.out (by kernel_rfl)) (fun _ _ _ h => h) (Or.inl ⟨by rfl, ?_⟩) ?_ ?_
   rotate_left
   · intro w'
     go_simp
     with_reducible rfl
   rotate_left
   · simp only [Act.put, List.setIfInBounds_toArray, List.set_cons_zero, List.set_cons_succ, i64_w, i32_w]
     rfl
   refine one_ (i := 7) (N := none) #[true, true, true, true, true, true, true, true] rfl rfl (one_of HT_.out (by kernel_rfl)) (by decide) (fun K hK => ?_)
   have y36_ : y29_.cell? ⟨y10_, 0, none⟩ = some (.int .i64 0) := (blk_cell y15_.out 0).trans rfl
   have y37_ := blk_frozen y15_.out 0
   have y38_ := y18_.out
   have y39_ := y19_.out
   have y40_ : y29_.cell? ⟨y10_, 1, none⟩ = some (.int .i64 0) := (blk_cell y15_.out 1).trans rfl
   have y41_ := blk_frozen y15_.out 1
   have y42_ := y18_.out
   have y43_ := y19_.out
   have y44_ : y29_.cell? ⟨y10_, 2, none⟩ = some (.slice none 0 0) := (blk_cell y15_.out 2).trans rfl
   have y45_ := blk_frozen y15_.out 2
   have y46_ := y18_.out
   have y47_ := y19_.out
   refine skip_ (w1 := ?_) (by rfl) rfl ?_ ?_
   rotate_left
   · go_simp
     rfl
   refine hK.out _ _ ⟨((cell_far (p := ⟨y10_, _, none⟩) y18_.out _).trans (((cell_far (p := ⟨y10_, _, none⟩) y18_.out _).trans (((cell_far (p := ⟨y10_, _, none⟩) y18_.out _).trans (hHeld.1)))))), ((cell_far (p := ⟨y10_, _, none⟩) y18_.out _).trans (((cell_far (p := ⟨y10_, _, none⟩) y18_.out _).trans (((cell_far (p := ⟨y10_, _, none⟩) y18_.out _).trans (hHeld.2.1)))))), ((cell_far (p := ⟨y10_, _, none⟩) y18_.out _).trans (((cell_far (p := ⟨y10_, _, none⟩) y18_.out _).trans (((cell_far (p := ⟨y10_, _, none⟩) y18_.out _).trans (hHeld.2.2))))))⟩ (fun hHeld => ?_)
   clear hK K
   refine done_ (done_of HT_.out (by kernel_rfl)) ?_
   try go_wp2
   refine bodyPost_ret (results_cell_row rfl _ _ y10_ 34 #[.int .i64 a0_0, .int .i64 a0_1, .slice y31_ z11_.length y32_] (0, 0) _ rfl (by (with_reducible repeat (first | refine blk_drewN ?_ _ | refine blk_drew ?_ | refine blk_alloc ?_ _)); refine blk_put (cs := #[.int .i64 a0_0, .int .i64 a0_1, .slice none 0 0]) ?_ 2 _ rfl; (with_reducible repeat (first | refine blk_drewN ?_ _ | refine blk_drew ?_ | refine blk_alloc ?_ _)); refine blk_put (cs := #[.int .i64 a0_0, .int .i64 0, .slice none 0 0]) ?_ 1 _ rfl; (with_reducible repeat (first | refine blk_drewN ?_ _ | refine blk_drew ?_ | refine blk_alloc ?_ _)); refine blk_put (cs := #[.int .i64 0, .int .i64 0, .slice none 0 0]) ?_ 0 _ rfl; (with_reducible repeat (first | refine blk_drewN ?_ _ | refine blk_drew ?_ | refine blk_alloc ?_ _)); exact y15_.out) Try.underlying34 rfl (by kernel_rfl)) rfl ?_
   exact ⟨_, by first | rfl | (simp [errW_none, errW_some] <;> rfl) | (simp [*, errW_none, errW_some] <;> rfl), by (with_reducible repeat (first | apply Kd.R_alloc | apply Kd.R_drewN | apply Kd.R_drew)); exact Kd.R_mono (Kd.R_far (p := ⟨y10_, 2, none⟩) (Kd.R_far (p := ⟨y10_, 1, none⟩) (Kd.R_far (p := ⟨y10_, 0, none⟩) (Kd.R_types y30_.out y15_.out (by decide)) (fun _ hk => hk.2) (.int .i64 a0_0)) (fun _ hk => hk.2) (.int .i64 a0_1)) (fun _ hk => hk.2) (.slice y31_ z11_.length y32_)) (fun _ hk => trivial), by repeat (first | (with_reducible first | exact HB.out | apply below_alloc | apply pw_below_drewN | apply below_drew1 | refine below_set ?_ y9_.out | refine below_set ?_ y17_.out) | exact HB.out)⟩
 · rw [if_neg z9_] at H
   exact absurd H (by simp)
def spec_HasChannel.f (k : Nat) (a0_0 : Int) (a0_1 : Int) (l0_2 : List Int) (a1 : Int) : Option (Bool) := (spec_MeshOk.f k a0_0 a0_1 l0_2).bind fun t102 => (if t102 = true then ((spec_l03Has.f k a0_0 a0_1 l0_2 a1).bind fun t103 => (some t103)) else (some false))
set_option maxHeartbeats 8000000 in
set_option maxRecDepth 100000 in
theorem spec_HasChannel.calls (k : Nat) (a0_0 : Int) (a0_1 : Int) (A0_2 : Option Addr) (c0_2 : Nat) (l0_2 : List Int) (a1 : Int) (r : Bool) (w : World) (hr0_2 : Kd.C (Kd.int .i64) w A0_2 l0_2.length l0_2) (hc0_2 : l0_2.length ≤ c0_2) (h : spec_HasChannel.f k a0_0 a0_1 l0_2 a1 = some r) :
    Calls Try.prog 152 #[.agg #[.int .i64 a0_0, .int .i64 a0_1, .slice A0_2 l0_2.length c0_2], .int .i64 a1] w fun e w' => e = .returned (.bool r) ∧ Below w.heap.size w w' := by
 have z1_ := Try.underlying34
 have z2_ := Aside0.mk hr0_2
 have z3_ := Aside0.mk hc0_2
 clear hr0_2 hc0_2
 have HB := Aside0.mk (Below.refl w.heap.size w)
 have H : ((spec_MeshOk.f k a0_0 a0_1 l0_2).bind fun t102 => (if t102 = true then ((spec_l03Has.f k a0_0 a0_1 l0_2 a1).bind fun t103 => (some t103)) else (some false))) = some r := h
 clear h
 replace H := Option.bind_eq_some_iff.mp H
 obtain ⟨z4_, z5_, H⟩ := H
 replace H : (if z4_ = true then ((spec_l03Has.f k a0_0 a0_1 l0_2 a1).bind fun t103 => (some t103)) else (some false)) = some r := H
 have z6_ := Aside0.mk z5_
 clear z5_
 by_cases z7_ : z4_ = true
 focus
   subst z7_
   have z8_ : ((spec_l03Has.f k a0_0 a0_1 l0_2 a1).bind fun t103 => (some t103)) = some r := by rw [if_pos rfl] at H; exact H
   clear H
   have H := z8_
   clear z8_
   replace H := Option.bind_eq_some_iff.mp H
   obtain ⟨z9_, z10_, H⟩ := H
   replace H : (some z9_) = some r := H
   have z11_ := Aside0.mk z10_
   clear z10_
   obtain rfl := Option.some.inj H
 rotate_left
 focus
   replace z7_ := Bool.eq_false_iff.mpr z7_
   subst z7_
   have z8_ : (some false) = some r := by rw [if_neg (show ¬ (false = true) by decide)] at H; exact H
   clear H
   have H := z8_
   clear z8_
   obtain rfl := Option.some.inj H
 all_goals
   go_enter Try.func152, Try.ntmps152
   go_wp2_with (first | ((with_reducible refine gate_dst (N := 2) rfl ?_); refine box_event ?hg (N := 2) ?hd (cs := #[.int .i64 a0_0, .int .i64 a0_1, .slice A0_2 l0_2.length c0_2]) (t := 34) ?hr ?_; (case hd => rfl); (case hg => rfl); (case hr => first | (go_simp; done) | (go_simp; rfl)); intro y1_ hg y2_ hbox hb; have y3_ := Aside0.mk (below_step (by repeat (first | (with_reducible first | exact HB.out | apply below_alloc | apply pw_below_drewN | apply below_drew1) | exact HB.out)) hb); have y4_ := Aside0.mk (hbox); have y5_ := Aside0.mk ((by rw [hg]; exact (below_size (by repeat (first | (with_reducible first | exact HB.out | apply below_alloc | apply pw_below_drewN | apply below_drew1) | exact HB.out))) : w.heap.size ≤ y1_)); have y6_ := Aside0.mk ((by rw [hg]; exact (below_size (by repeat (first | (with_reducible first | exact HB.out | apply below_alloc | apply pw_below_drewN | apply below_drew1) | exact HB.out))) : w.heap.size ≤ y1_)); clear HB; have HB := y3_; have y7_ := y4_; have y8_ := y5_; have y9_ := y6_; clear y3_ y4_ y5_ y6_; clear hb hbox hg; have y10_ : y2_.cell? ⟨y1_, 0, none⟩ = some (.int .i64 a0_0) := (blk_cell y7_.out 0).trans rfl; have y11_ : y2_.cell? ⟨y1_, 1, none⟩ = some (.int .i64 a0_1) := (blk_cell y7_.out 1).trans rfl; have y12_ : y2_.cell? ⟨y1_, 2, none⟩ = some (.slice A0_2 l0_2.length c0_2) := (blk_cell y7_.out 2).trans rfl; have y13_ := blk_frozen y7_.out 0; have y14_ := blk_frozen y7_.out 1; have y15_ := blk_frozen y7_.out 2) | ((with_reducible refine gate_callee (f := 109) rfl ?_); refine goesL_ (some 6) rfl rfl Try.func109 (by kernel_rfl) rfl #[.agg #[.int .i64 a0_0, .int .i64 a0_1, .slice A0_2 l0_2.length c0_2]] rfl (by (try simp only [List.map_toArray, List.map_cons, List.map_nil]); first | done | rfl | (simp only [List.length_drop, List.length_take]; rfl)) ?_; (with_reducible refine (spec_MeshOk.calls _ _ _ _ _ _ _ _ ?side1 ?side2 z6_.out).mono ?_); (case side1 => repeat (first | exact (Kd.C_below z2_.out HB.out) | (with_reducible refine Kd.C_alloc ?_ _) | (with_reducible refine Kd.C_drewN ?_ _) | (with_reducible refine Kd.C_drew ?_))); (case side2 => exact z3_.out); rintro e y16_ ⟨rfl, hb⟩; refine ⟨_, rfl, ?_⟩; have y3_ := Aside0.mk (blk_below (g := y1_) (o := .cells #[.int .i64 a0_0, .int .i64 a0_1, .slice A0_2 l0_2.length c0_2] 34 (0, 0)) (by (with_reducible repeat (first | refine blk_drewN ?_ _ | refine blk_drew ?_ | refine blk_alloc ?_ _)); exact y7_.out) hb); have y4_ := Aside0.mk (below_step (by repeat (first | (with_reducible first | exact HB.out | apply below_alloc | apply pw_below_drewN | apply below_drew1 | refine below_set ?_ y9_.out) | exact HB.out)) hb); clear y7_; clear HB; have y7_ := y3_; have HB := y4_; clear y3_ y4_; (try clear hb); (try clear hb2); (try clear hk); (try clear hi); have y17_ : y16_.cell? ⟨y1_, 0, none⟩ = some (.int .i64 a0_0) := (blk_cell y7_.out 0).trans rfl; have y18_ : y16_.cell? ⟨y1_, 1, none⟩ = some (.int .i64 a0_1) := (blk_cell y7_.out 1).trans rfl; have y19_ : y16_.cell? ⟨y1_, 2, none⟩ = some (.slice A0_2 l0_2.length c0_2) := (blk_cell y7_.out 2).trans rfl; have y20_ := blk_frozen y7_.out 0; have y21_ := blk_frozen y7_.out 1; have y22_ := blk_frozen y7_.out 2) | (go_at_call 102; (with_reducible refine (spec_l03Has.calls _ _ _ _ _ _ _ _ _ ?side1 ?side2 z11_.out).mono ?_); (case side1 => repeat (first | exact (Kd.C_below z2_.out HB.out) | (with_reducible refine Kd.C_alloc ?_ _) | (with_reducible refine Kd.C_drewN ?_ _) | (with_reducible refine Kd.C_drew ?_))); (case side2 => exact z3_.out); rintro e y23_ ⟨rfl, hb⟩; have y3_ := Aside0.mk (blk_below (g := y1_) (o := .cells #[.int .i64 a0_0, .int .i64 a0_1, .slice A0_2 l0_2.length c0_2] 34 (0, 0)) (by (with_reducible repeat (first | refine blk_drewN ?_ _ | refine blk_drew ?_ | refine blk_alloc ?_ _)); exact y7_.out) hb); have y4_ := Aside0.mk (below_step (by repeat (first | (with_reducible first | exact HB.out | apply below_alloc | apply pw_below_drewN | apply below_drew1 | refine below_set ?_ y9_.out) | exact HB.out)) hb); clear y7_; clear HB; have y7_ := y3_; have HB := y4_; clear y3_ y4_; (try clear hb); (try clear hb2); (try clear hk); (try clear hi)) | ((with_reducible refine gate_callee (f := 109) rfl ?_); refine goesL_ (some 6) rfl rfl Try.func109 (by kernel_rfl) rfl #[.agg #[.int .i64 a0_0, .int .i64 a0_1, .slice A0_2 l0_2.length c0_2]] rfl (by (try simp only [List.map_toArray, List.map_cons, List.map_nil]); first | done | rfl | (simp only [List.length_drop, List.length_take]; rfl)) ?_; (with_reducible refine (spec_MeshOk.calls _ _ _ _ _ _ _ _ ?side1 ?side2 z6_.out).mono ?_); (case side1 => repeat (first | exact (Kd.C_below z2_.out HB.out) | (with_reducible refine Kd.C_alloc ?_ _) | (with_reducible refine Kd.C_drewN ?_ _) | (with_reducible refine Kd.C_drew ?_))); (case side2 => exact z3_.out); rintro e y16_ ⟨rfl, hb⟩; refine ⟨_, rfl, ?_⟩; have y3_ := Aside0.mk (blk_below (g := y1_) (o := .cells #[.int .i64 a0_0, .int .i64 a0_1, .slice A0_2 l0_2.length c0_2] 34 (0, 0)) (by (with_reducible repeat (first | refine blk_drewN ?_ _ | refine blk_drew ?_ | refine blk_alloc ?_ _)); exact y7_.out) hb); have y4_ := Aside0.mk (below_step (by repeat (first | (with_reducible first | exact HB.out | apply below_alloc | apply pw_below_drewN | apply below_drew1 | refine below_set ?_ y9_.out) | exact HB.out)) hb); clear y7_; clear HB; have y7_ := y3_; have HB := y4_; clear y3_ y4_; (try clear hb); (try clear hb2); (try clear hk); (try clear hi)))
   go_ret
   exact ⟨by first | rfl | (simp [errW_none, errW_some] <;> rfl) | (simp [*, errW_none, errW_some] <;> rfl), by repeat (first | (with_reducible first | exact HB.out | apply below_alloc | apply pw_below_drewN | apply below_drew1 | refine below_set ?_ y9_.out) | exact HB.out)⟩
end Go.Proofs.Ytkkoenbmokbglaa.F
end
