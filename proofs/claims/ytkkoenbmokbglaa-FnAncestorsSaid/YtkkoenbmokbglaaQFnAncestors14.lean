/- Parts of a proof that the law FnAncestors holds for every input: contracts of the program's functions and plain laws on what they compute. -/
import Derived.Test.YtkkoenbmokbglaaQFnAncestors12
import Derived.Test.YtkkoenbmokbglaaQFnAncestors13
section
namespace Go.Proofs.Ytkkoenbmokbglaa.F
open Go.RowKit Go.Proofs.YtkkoenbmokbglaaW.PrintWords Go.Proofs.YtkkoenbmokbglaaW.PrintLast Go.Proofs.YtkkoenbmokbglaaW.PrintMore
set_option linter.unusedVariables false
set_option linter.unusedSimpArgs false
def impl_IsLink.f (k : Nat) (a0_0 : Int) (a0_1 : Int) (l0_2 : List Int) (a1 : Int) : Option (Bool) := (impl_HasChannel.f k a0_0 a0_1 l0_2 a1).bind fun t102 => (if t102 = true then ((impl_back.f a0_0 a0_1 l0_2 a1).bind fun t103 => ((impl_HasChannel.f k a0_0 a0_1 l0_2 t103).bind fun t104 => (some t104))) else (some false))
def impl_IsLink.T1 : Bool × List (List Nat × List Nat) := (true, [([], []), ([], []), ([0, 1], [0, 1]), ([2, 2], [2]), ([3], [3]), ([3], [3]), ([3], [3]), ([5, 6, 3, 3], [3, 5, 6]), ([4, 7, 7, 3], [3, 4, 7]), ([3, 8], [3, 8]), ([9, 8, 0, 1, 2, 3, 4, 5, 6, 7, 8, 9], [9])])
def impl_IsLink.B1 : List Nat := [0, 0, 3, 7, 15, 15, 15, 111, 255, 511, 1023]
theorem impl_IsLink.tab1 : rtab .any (opsOf Try.f67 1) = impl_IsLink.T1 := by kernel_rfl
theorem impl_IsLink.bits1 : waitsOk impl_IsLink.T1.2 impl_IsLink.B1 = true := by kernel_rfl
set_option maxHeartbeats 8000000 in
set_option maxRecDepth 100000 in
theorem impl_IsLink.calls (k : Nat) (a0_0 : Int) (a0_1 : Int) (A0_2 : Option Addr) (c0_2 : Nat) (l0_2 : List Int) (a1 : Int) (r : Bool) (w : World) (hr0_2 : Kd.C (Kd.int .i64) w A0_2 l0_2.length l0_2) (hc0_2 : l0_2.length ≤ c0_2) (h : impl_IsLink.f k a0_0 a0_1 l0_2 a1 = some r) :
    Calls Try.prog 67 #[.agg #[.int .i64 a0_0, .int .i64 a0_1, .slice A0_2 l0_2.length c0_2], .int .i64 a1] w fun e w' => e = .returned (.bool r) ∧ Below w.heap.size w w' := by
 have z1_ := Try.underlying34
 have z2_ := Aside0.mk hr0_2
 have z3_ := Aside0.mk hc0_2
 clear hr0_2 hc0_2
 have HB := Aside0.mk (Below.refl w.heap.size w)
 have H : ((impl_HasChannel.f k a0_0 a0_1 l0_2 a1).bind fun t102 => (if t102 = true then ((impl_back.f a0_0 a0_1 l0_2 a1).bind fun t103 => ((impl_HasChannel.f k a0_0 a0_1 l0_2 t103).bind fun t104 => (some t104))) else (some false))) = some r := h
 clear h
 replace H := Option.bind_eq_some_iff.mp H
 obtain ⟨z4_, z5_, H⟩ := H
 replace H : (if z4_ = true then ((impl_back.f a0_0 a0_1 l0_2 a1).bind fun t103 => ((impl_HasChannel.f k a0_0 a0_1 l0_2 t103).bind fun t104 => (some t104))) else (some false)) = some r := H
 have z6_ := Aside0.mk z5_
 clear z5_
 by_cases z7_ : z4_ = true
 · subst z7_
   have z8_ : ((impl_back.f a0_0 a0_1 l0_2 a1).bind fun t103 => ((impl_HasChannel.f k a0_0 a0_1 l0_2 t103).bind fun t104 => (some t104))) = some r := by rw [if_pos rfl] at H; exact H
   clear H
   have H := z8_
   clear z8_
   replace H := Option.bind_eq_some_iff.mp H
   obtain ⟨z9_, z10_, H⟩ := H
   replace H : ((impl_HasChannel.f k a0_0 a0_1 l0_2 z9_).bind fun t104 => (some t104)) = some r := H
   have z11_ := Aside0.mk z10_
   clear z10_
   replace H := Option.bind_eq_some_iff.mp H
   obtain ⟨z12_, z13_, H⟩ := H
   replace H : (some z12_) = some r := H
   have z14_ := Aside0.mk z13_
   clear z13_
   obtain rfl := Option.some.inj H
   go_enter Try.func67, Try.ntmps67
   try go_wp2_with (first | ((with_reducible refine gate_dst (N := 2) rfl ?_); refine box_event ?hg (N := 2) ?hd (cs := #[.int .i64 a0_0, .int .i64 a0_1, .slice A0_2 l0_2.length c0_2]) (t := 34) ?hr ?_; (case hd => rfl); (case hg => rfl); (case hr => first | (go_simp; done) | (go_simp; rfl)); intro y1_ hg y2_ hbox hb; have y3_ := Aside0.mk (below_step (by repeat (first | (with_reducible first | exact HB.out | apply below_alloc | apply pw_below_drewN | apply below_drew1) | exact HB.out)) hb); have y4_ := Aside0.mk (hbox); have y5_ := Aside0.mk ((by rw [hg]; exact (below_size (by repeat (first | (with_reducible first | exact HB.out | apply below_alloc | apply pw_below_drewN | apply below_drew1) | exact HB.out))) : w.heap.size ≤ y1_)); have y6_ := Aside0.mk ((by rw [hg]; exact (below_size (by repeat (first | (with_reducible first | exact HB.out | apply below_alloc | apply pw_below_drewN | apply below_drew1) | exact HB.out))) : w.heap.size ≤ y1_)); clear HB; have HB := y3_; have y7_ := y4_; have y8_ := y5_; have y9_ := y6_; clear y3_ y4_ y5_ y6_; clear hb hbox hg))
   have y3_ := Aside0.mk (blk_drew y7_.out)
   have y4_ := Aside0.mk (below_drew1 HB.out)
   clear y7_
   clear HB
   have y7_ := y3_
   have HB := y4_
   clear y3_ y4_
   refine start_ (n := 11) (S := fun w' => w'.cell? ⟨y1_, 0, none⟩ = some (.int .i64 a0_0) ∧ w'.cell? ⟨y1_, 1, none⟩ = some (.int .i64 a0_1) ∧ w'.cell? ⟨y1_, 2, none⟩ = some (.slice A0_2 l0_2.length c0_2)) (ds := []) #[false, false, false, false, false, false, false, false, false, false, false] (by kernel_rfl) rfl rfl ⟨(blk_cell y7_.out 0).trans rfl, (blk_cell y7_.out 1).trans rfl, (blk_cell y7_.out 2).trans rfl⟩ (fun hHeld => ?_); refine with_tabW impl_IsLink.tab1 impl_IsLink.bits1 (fun HT_ HW_ => ?_)
   generalize y2_.drew = y10_ at y7_ HB hHeld ⊢
   refine pure_ (i := 1) (N := some 6) (v := ?_) (a' := ?_) #[false, true, false, false, false, false, false, false, false, false, false] rfl rfl (any_of HT_.out (by kernel_rfl)) (fun _ _ _ h => h) (Or.inl ⟨by rfl, ?_⟩) ?_ ?_
   rotate_left
   · intro w'
     go_simp
     with_reducible rfl
   rotate_left
   · simp only [Act.put, List.setIfInBounds_toArray, List.set_cons_zero, List.set_cons_succ, i64_w, i32_w]
     rfl
   refine take_ (i := 0) (N := some 5) (v := ?_) (a' := ?_) #[true, true, false, false, false, false, false, false, false, false, false] rfl rfl (take_ofW HT_.out HW_.out (by kernel_rfl)) (fun _ _ _ h => h) (Or.inl ⟨by rfl, ?_⟩) hHeld ?_ ?_
   rotate_left
   · rintro w' ⟨y11_, y12_, y13_⟩
     go_simp
     with_reducible rfl
   rotate_left
   · simp only [Act.put, List.setIfInBounds_toArray, List.set_cons_zero, List.set_cons_succ, i64_w, i32_w]
     rfl
   refine one_ (i := 2) (N := some 7) #[true, true, true, false, false, false, false, false, false, false, false] rfl rfl (one_of HT_.out (by kernel_rfl)) (by decide) (fun K hK => ?_)
   refine goes_ Try.func108 (by kernel_rfl) rfl #[.agg #[.int .i64 a0_0, .int .i64 a0_1, .slice A0_2 l0_2.length c0_2], .int .i64 a1] (by rfl) rfl rfl (by (try simp only [List.map_toArray, List.map_cons, List.map_nil]); first | done | rfl | (simp only [List.length_drop, List.length_take]; rfl)) ?_
   with_reducible refine (impl_HasChannel.calls _ _ _ _ _ _ _ _ _ ?side1 ?side2 z6_.out).mono ?_
   (case side1 => repeat (first | exact (Kd.C_below z2_.out HB.out) | (with_reducible refine Kd.C_alloc ?_ _) | (with_reducible refine Kd.C_drewN ?_ _) | (with_reducible refine Kd.C_drew ?_)))
   (case side2 => exact z3_.out)
   rintro e y14_ ⟨rfl, hb⟩
   refine ⟨_, rfl, ?_⟩
   have y3_ := Aside0.mk (blk_below (g := y1_) (o := .cells #[.int .i64 a0_0, .int .i64 a0_1, .slice A0_2 l0_2.length c0_2] 34 (0, 0)) (by (with_reducible repeat (first | refine blk_drewN ?_ _ | refine blk_drew ?_ | refine blk_alloc ?_ _)); exact y7_.out) hb)
   have y4_ := Aside0.mk (below_step (by repeat (first | (with_reducible first | exact HB.out | apply below_alloc | apply pw_below_drewN | apply below_drew1 | refine below_set ?_ y9_.out) | exact HB.out)) hb)
   clear y7_
   clear HB
   have y7_ := y3_
   have HB := y4_
   clear y3_ y4_
   (try clear hb)
   (try clear hb2)
   (try clear hk)
   (try clear hi)
   refine hK.out _ _ ⟨(blk_cell y7_.out 0).trans rfl, (blk_cell y7_.out 1).trans rfl, (blk_cell y7_.out 2).trans rfl⟩ (fun hHeld => ?_)
   clear hK K
   refine norm_ (a' := ?_) ?_ ?_
   rotate_left
   · show Act.put _ (some 7) _ = _
     simp only [Act.put, List.setIfInBounds_toArray, List.set_cons_zero, List.set_cons_succ, i64_w, i32_w]
     rfl
   refine pure_ (i := 3) (N := some 8) (v := ?_) (a' := ?_) #[true, true, true, true, false, false, false, false, false, false, false] rfl rfl (any_of HT_.out (by kernel_rfl)) (fun _ _ _ h => h) (Or.inl ⟨by rfl, ?_⟩) ?_ ?_
   rotate_left
   · intro w'
     go_simp
     with_reducible rfl
   rotate_left
   · simp only [Act.put, List.setIfInBounds_toArray, List.set_cons_zero, List.set_cons_succ, i64_w, i32_w]
     rfl
   refine pure_ (i := 6) (N := some 11) (v := ?_) (a' := ?_) #[true, true, true, true, false, false, true, false, false, false, false] rfl rfl (any_of HT_.out (by kernel_rfl)) (fun _ _ _ h => h) (Or.inl ⟨by rfl, ?_⟩) ?_ ?_
   rotate_left
   · intro w'
     go_simp
     with_reducible rfl
   rotate_left
   · simp only [Act.put, List.setIfInBounds_toArray, List.set_cons_zero, List.set_cons_succ, i64_w, i32_w]
     rfl
   refine take_ (i := 4) (N := some 9) (v := ?_) (a' := ?_) #[true, true, true, true, true, false, true, false, false, false, false] rfl rfl (take_ofW HT_.out HW_.out (by kernel_rfl)) (fun _ _ _ h => h) (Or.inl ⟨by rfl, ?_⟩) hHeld ?_ ?_
   rotate_left
   · rintro w' ⟨y11_, y12_, y13_⟩
     go_simp
     with_reducible rfl
   rotate_left
   · simp only [Act.put, List.setIfInBounds_toArray, List.set_cons_zero, List.set_cons_succ, i64_w, i32_w]
     rfl
   refine take_ (i := 5) (N := some 10) (v := ?_) (a' := ?_) #[true, true, true, true, true, true, true, false, false, false, false] rfl rfl (take_ofW HT_.out HW_.out (by kernel_rfl)) (fun _ _ _ h => h) (Or.inl ⟨by rfl, ?_⟩) hHeld ?_ ?_
   rotate_left
   · rintro w' ⟨y11_, y12_, y13_⟩
     go_simp
     with_reducible rfl
   rotate_left
   · simp only [Act.put, List.setIfInBounds_toArray, List.set_cons_zero, List.set_cons_succ, i64_w, i32_w]
     rfl
   refine one_ (i := 7) (N := some 12) #[true, true, true, true, true, true, true, true, false, false, false] rfl rfl (one_of HT_.out (by kernel_rfl)) (by decide) (fun K hK => ?_)
   refine goes_ Try.func112 (by kernel_rfl) rfl #[.agg #[.int .i64 a0_0, .int .i64 a0_1, .slice A0_2 l0_2.length c0_2], .int .i64 a1] (by rfl) rfl rfl (by (try simp only [List.map_toArray, List.map_cons, List.map_nil]); first | done | rfl | (simp only [List.length_drop, List.length_take]; rfl)) ?_
   with_reducible refine (impl_back.calls _ _ _ _ _ _ _ _ ?side1 ?side2 z11_.out).mono ?_
   (case side1 => repeat (first | exact (Kd.C_below z2_.out HB.out) | (with_reducible refine Kd.C_alloc ?_ _) | (with_reducible refine Kd.C_drewN ?_ _) | (with_reducible refine Kd.C_drew ?_)))
   (case side2 => exact z3_.out)
   rintro e y15_ ⟨rfl, hb⟩
   refine ⟨_, rfl, ?_⟩
   have y3_ := Aside0.mk (blk_below (g := y1_) (o := .cells #[.int .i64 a0_0, .int .i64 a0_1, .slice A0_2 l0_2.length c0_2] 34 (0, 0)) (by (with_reducible repeat (first | refine blk_drewN ?_ _ | refine blk_drew ?_ | refine blk_alloc ?_ _)); exact y7_.out) hb)
   have y4_ := Aside0.mk (below_step (by repeat (first | (with_reducible first | exact HB.out | apply below_alloc | apply pw_below_drewN | apply below_drew1 | refine below_set ?_ y9_.out) | exact HB.out)) hb)
   clear y7_
   clear HB
   have y7_ := y3_
   have HB := y4_
   clear y3_ y4_
   (try clear hb)
   (try clear hb2)
   (try clear hk)
   (try clear hi)
   refine hK.out _ _ ⟨(blk_cell y7_.out 0).trans rfl, (blk_cell y7_.out 1).trans rfl, (blk_cell y7_.out 2).trans rfl⟩ (fun hHeld => ?_)
   clear hK K
   refine norm_ (a' := ?_) ?_ ?_
   rotate_left
   · show Act.put _ (some 12) _ = _
     simp only [Act.put, List.setIfInBounds_toArray, List.set_cons_zero, List.set_cons_succ, i64_w, i32_w]
     rfl
   refine one_ (i := 8) (N := some 13) #[true, true, true, true, true, true, true, true, true, false, false] rfl rfl (one_of HT_.out (by kernel_rfl)) (by decide) (fun K hK => ?_)
   refine goes_ Try.func108 (by kernel_rfl) rfl #[.agg #[.int .i64 a0_0, .int .i64 a0_1, .slice A0_2 l0_2.length c0_2], .int .i64 z9_] (by rfl) rfl rfl (by (try simp only [List.map_toArray, List.map_cons, List.map_nil]); first | done | rfl | (simp only [List.length_drop, List.length_take]; rfl)) ?_
   with_reducible refine (impl_HasChannel.calls _ _ _ _ _ _ _ _ _ ?side1 ?side2 z14_.out).mono ?_
   (case side1 => repeat (first | exact (Kd.C_below z2_.out HB.out) | (with_reducible refine Kd.C_alloc ?_ _) | (with_reducible refine Kd.C_drewN ?_ _) | (with_reducible refine Kd.C_drew ?_)))
   (case side2 => exact z3_.out)
   rintro e y16_ ⟨rfl, hb⟩
   refine ⟨_, rfl, ?_⟩
   have y3_ := Aside0.mk (blk_below (g := y1_) (o := .cells #[.int .i64 a0_0, .int .i64 a0_1, .slice A0_2 l0_2.length c0_2] 34 (0, 0)) (by (with_reducible repeat (first | refine blk_drewN ?_ _ | refine blk_drew ?_ | refine blk_alloc ?_ _)); exact y7_.out) hb)
   have y4_ := Aside0.mk (below_step (by repeat (first | (with_reducible first | exact HB.out | apply below_alloc | apply pw_below_drewN | apply below_drew1 | refine below_set ?_ y9_.out) | exact HB.out)) hb)
   clear y7_
   clear HB
   have y7_ := y3_
   have HB := y4_
   clear y3_ y4_
   (try clear hb)
   (try clear hb2)
   (try clear hk)
   (try clear hi)
   refine hK.out _ _ ⟨(blk_cell y7_.out 0).trans rfl, (blk_cell y7_.out 1).trans rfl, (blk_cell y7_.out 2).trans rfl⟩ (fun hHeld => ?_)
   clear hK K
   refine norm_ (a' := ?_) ?_ ?_
   rotate_left
   · show Act.put _ (some 13) _ = _
     simp only [Act.put, List.setIfInBounds_toArray, List.set_cons_zero, List.set_cons_succ, i64_w, i32_w]
     rfl
   refine pure_ (i := 9) (N := some 14) (v := ?_) (a' := ?_) #[true, true, true, true, true, true, true, true, true, true, false] rfl rfl (any_of HT_.out (by kernel_rfl)) (fun _ _ _ h => h) (Or.inl ⟨by rfl, ?_⟩) ?_ ?_
   rotate_left
   · intro w'
     go_simp
     with_reducible rfl
   rotate_left
   · simp only [Act.put, List.setIfInBounds_toArray, List.set_cons_zero, List.set_cons_succ, i64_w, i32_w]
     rfl
   refine pure_ (i := 10) (N := some 4) (v := ?_) (a' := ?_) #[true, true, true, true, true, true, true, true, true, true, true] rfl rfl (any_of HT_.out (by kernel_rfl)) (fun _ _ _ h => h) (Or.inl ⟨by rfl, ?_⟩) ?_ ?_
   rotate_left
   · intro w'
     go_simp
     with_reducible rfl
   rotate_left
   · simp only [Act.put, List.setIfInBounds_toArray, List.set_cons_zero, List.set_cons_succ, i64_w, i32_w]
     rfl
   refine done_ (done_of HT_.out (by kernel_rfl)) ?_
   try go_wp2
   go_ret
   exact ⟨by first | rfl | (simp [errW_none, errW_some] <;> rfl) | (simp [*, errW_none, errW_some] <;> rfl), by repeat (first | (with_reducible first | exact HB.out | apply below_alloc | apply pw_below_drewN | apply below_drew1 | refine below_set ?_ y9_.out) | exact HB.out)⟩
 · replace z7_ := Bool.eq_false_iff.mpr z7_
   subst z7_
   have z8_ : (some false) = some r := by rw [if_neg (show ¬ (false = true) by decide)] at H; exact H
   clear H
   have H := z8_
   clear z8_
   obtain rfl := Option.some.inj H
   go_enter Try.func67, Try.ntmps67
   try go_wp2_with (first | ((with_reducible refine gate_dst (N := 2) rfl ?_); refine box_event ?hg (N := 2) ?hd (cs := #[.int .i64 a0_0, .int .i64 a0_1, .slice A0_2 l0_2.length c0_2]) (t := 34) ?hr ?_; (case hd => rfl); (case hg => rfl); (case hr => first | (go_simp; done) | (go_simp; rfl)); intro y1_ hg y2_ hbox hb; have y3_ := Aside0.mk (below_step (by repeat (first | (with_reducible first | exact HB.out | apply below_alloc | apply pw_below_drewN | apply below_drew1) | exact HB.out)) hb); have y4_ := Aside0.mk (hbox); have y5_ := Aside0.mk ((by rw [hg]; exact (below_size (by repeat (first | (with_reducible first | exact HB.out | apply below_alloc | apply pw_below_drewN | apply below_drew1) | exact HB.out))) : w.heap.size ≤ y1_)); have y6_ := Aside0.mk ((by rw [hg]; exact (below_size (by repeat (first | (with_reducible first | exact HB.out | apply below_alloc | apply pw_below_drewN | apply below_drew1) | exact HB.out))) : w.heap.size ≤ y1_)); clear HB; have HB := y3_; have y7_ := y4_; have y8_ := y5_; have y9_ := y6_; clear y3_ y4_ y5_ y6_; clear hb hbox hg))
   have y3_ := Aside0.mk (blk_drew y7_.out)
   have y4_ := Aside0.mk (below_drew1 HB.out)
   clear y7_
   clear HB
   have y7_ := y3_
   have HB := y4_
   clear y3_ y4_
   refine start_ (n := 11) (S := fun w' => w'.cell? ⟨y1_, 0, none⟩ = some (.int .i64 a0_0) ∧ w'.cell? ⟨y1_, 1, none⟩ = some (.int .i64 a0_1) ∧ w'.cell? ⟨y1_, 2, none⟩ = some (.slice A0_2 l0_2.length c0_2)) (ds := []) #[false, false, false, false, false, false, false, false, false, false, false] (by kernel_rfl) rfl rfl ⟨(blk_cell y7_.out 0).trans rfl, (blk_cell y7_.out 1).trans rfl, (blk_cell y7_.out 2).trans rfl⟩ (fun hHeld => ?_); refine with_tabW impl_IsLink.tab1 impl_IsLink.bits1 (fun HT_ HW_ => ?_)
   generalize y2_.drew = y10_ at y7_ HB hHeld ⊢
   refine pure_ (i := 1) (N := some 6) (v := ?_) (a' := ?_) #[false, true, false, false, false, false, false, false, false, false, false] rfl rfl (any_of HT_.out (by kernel_rfl)) (fun _ _ _ h => h) (Or.inl ⟨by rfl, ?_⟩) ?_ ?_
   rotate_left
   · intro w'
     go_simp
     with_reducible rfl
   rotate_left
   · simp only [Act.put, List.setIfInBounds_toArray, List.set_cons_zero, List.set_cons_succ, i64_w, i32_w]
     rfl
   refine take_ (i := 0) (N := some 5) (v := ?_) (a' := ?_) #[true, true, false, false, false, false, false, false, false, false, false] rfl rfl (take_ofW HT_.out HW_.out (by kernel_rfl)) (fun _ _ _ h => h) (Or.inl ⟨by rfl, ?_⟩) hHeld ?_ ?_
   rotate_left
   · rintro w' ⟨y11_, y12_, y13_⟩
     go_simp
     with_reducible rfl
   rotate_left
   · simp only [Act.put, List.setIfInBounds_toArray, List.set_cons_zero, List.set_cons_succ, i64_w, i32_w]
     rfl
   refine one_ (i := 2) (N := some 7) #[true, true, true, false, false, false, false, false, false, false, false] rfl rfl (one_of HT_.out (by kernel_rfl)) (by decide) (fun K hK => ?_)
   refine goes_ Try.func108 (by kernel_rfl) rfl #[.agg #[.int .i64 a0_0, .int .i64 a0_1, .slice A0_2 l0_2.length c0_2], .int .i64 a1] (by rfl) rfl rfl (by (try simp only [List.map_toArray, List.map_cons, List.map_nil]); first | done | rfl | (simp only [List.length_drop, List.length_take]; rfl)) ?_
   with_reducible refine (impl_HasChannel.calls _ _ _ _ _ _ _ _ _ ?side1 ?side2 z6_.out).mono ?_
   (case side1 => repeat (first | exact (Kd.C_below z2_.out HB.out) | (with_reducible refine Kd.C_alloc ?_ _) | (with_reducible refine Kd.C_drewN ?_ _) | (with_reducible refine Kd.C_drew ?_)))
   (case side2 => exact z3_.out)
   rintro e y14_ ⟨rfl, hb⟩
   refine ⟨_, rfl, ?_⟩
   have y3_ := Aside0.mk (blk_below (g := y1_) (o := .cells #[.int .i64 a0_0, .int .i64 a0_1, .slice A0_2 l0_2.length c0_2] 34 (0, 0)) (by (with_reducible repeat (first | refine blk_drewN ?_ _ | refine blk_drew ?_ | refine blk_alloc ?_ _)); exact y7_.out) hb)
   have y4_ := Aside0.mk (below_step (by repeat (first | (with_reducible first | exact HB.out | apply below_alloc | apply pw_below_drewN | apply below_drew1 | refine below_set ?_ y9_.out) | exact HB.out)) hb)
   clear y7_
   clear HB
   have y7_ := y3_
   have HB := y4_
   clear y3_ y4_
   (try clear hb)
   (try clear hb2)
   (try clear hk)
   (try clear hi)
   refine hK.out _ _ ⟨(blk_cell y7_.out 0).trans rfl, (blk_cell y7_.out 1).trans rfl, (blk_cell y7_.out 2).trans rfl⟩ (fun hHeld => ?_)
   clear hK K
   refine norm_ (a' := ?_) ?_ ?_
   rotate_left
   · show Act.put _ (some 7) _ = _
     simp only [Act.put, List.setIfInBounds_toArray, List.set_cons_zero, List.set_cons_succ, i64_w, i32_w]
     rfl
   refine pure_ (i := 3) (N := some 8) (v := ?_) (a' := ?_) #[true, true, true, true, false, false, false, false, false, false, false] rfl rfl (any_of HT_.out (by kernel_rfl)) (fun _ _ _ h => h) (Or.inl ⟨by rfl, ?_⟩) ?_ ?_
   rotate_left
   · intro w'
     go_simp
     with_reducible rfl
   rotate_left
   · simp only [Act.put, List.setIfInBounds_toArray, List.set_cons_zero, List.set_cons_succ, i64_w, i32_w]
     rfl
   refine pure_ (i := 4) (N := some 9) (v := undef) (a' := ?_) #[true, true, true, true, true, false, false, false, false, false, false] rfl rfl (any_of HT_.out (by kernel_rfl)) (fun _ _ _ h => h) (Or.inr ⟨by rfl, rfl⟩) ?_ ?_
   rotate_left
   · simp only [Act.put, List.setIfInBounds_toArray, List.set_cons_zero, List.set_cons_succ, i64_w, i32_w]
     rfl
   refine pure_ (i := 5) (N := some 10) (v := undef) (a' := ?_) #[true, true, true, true, true, true, false, false, false, false, false] rfl rfl (any_of HT_.out (by kernel_rfl)) (fun _ _ _ h => h) (Or.inr ⟨by rfl, rfl⟩) ?_ ?_
   rotate_left
   · simp only [Act.put, List.setIfInBounds_toArray, List.set_cons_zero, List.set_cons_succ, i64_w, i32_w]
     rfl
   refine pure_ (i := 6) (N := some 11) (v := undef) (a' := ?_) #[true, true, true, true, true, true, true, false, false, false, false] rfl rfl (any_of HT_.out (by kernel_rfl)) (fun _ _ _ h => h) (Or.inr ⟨by rfl, rfl⟩) ?_ ?_
   rotate_left
   · simp only [Act.put, List.setIfInBounds_toArray, List.set_cons_zero, List.set_cons_succ, i64_w, i32_w]
     rfl
   refine pure_ (i := 7) (N := some 12) (v := undef) (a' := ?_) #[true, true, true, true, true, true, true, true, false, false, false] rfl rfl (any_of HT_.out (by kernel_rfl)) (fun _ _ _ h => h) (Or.inr ⟨by rfl, rfl⟩) ?_ ?_
   rotate_left
   · simp only [Act.put, List.setIfInBounds_toArray, List.set_cons_zero, List.set_cons_succ, i64_w, i32_w]
     rfl
   refine pure_ (i := 8) (N := some 13) (v := undef) (a' := ?_) #[true, true, true, true, true, true, true, true, true, false, false] rfl rfl (any_of HT_.out (by kernel_rfl)) (fun _ _ _ h => h) (Or.inr ⟨by rfl, rfl⟩) ?_ ?_
   rotate_left
   · simp only [Act.put, List.setIfInBounds_toArray, List.set_cons_zero, List.set_cons_succ, i64_w, i32_w]
     rfl
   refine pure_ (i := 9) (N := some 14) (v := ?_) (a' := ?_) #[true, true, true, true, true, true, true, true, true, true, false] rfl rfl (any_of HT_.out (by kernel_rfl)) (fun _ _ _ h => h) (Or.inl ⟨by rfl, ?_⟩) ?_ ?_
   rotate_left
   · intro w'
     go_simp
     with_reducible rfl
   rotate_left
   · simp only [Act.put, List.setIfInBounds_toArray, List.set_cons_zero, List.set_cons_succ, i64_w, i32_w]
     rfl
   refine pure_ (i := 10) (N := some 4) (v := ?_) (a' := ?_) #[true, true, true, true, true, true, true, true, true, true, true] rfl rfl (any_of HT_.out (by kernel_rfl)) (fun _ _ _ h => h) (Or.inl ⟨by rfl, ?_⟩) ?_ ?_
   rotate_left
   · intro w'
     go_simp
     with_reducible rfl
   rotate_left
   · simp only [Act.put, List.setIfInBounds_toArray, List.set_cons_zero, List.set_cons_succ, i64_w, i32_w]
     rfl
   refine done_ (done_of HT_.out (by kernel_rfl)) ?_
   try go_wp2
   go_ret
   exact ⟨by first | rfl | (simp [errW_none, errW_some] <;> rfl) | (simp [*, errW_none, errW_some] <;> rfl), by repeat (first | (with_reducible first | exact HB.out | apply below_alloc | apply pw_below_drewN | apply below_drew1 | refine below_set ?_ y9_.out) | exact HB.out)⟩
def impl_isRoot.f (k : Nat) (a0_0 : Int) (a0_1 : Int) (l0_2 : List Int) (a1 : Int) : Option (Bool) := (impl_MeshOk.f k a0_0 a0_1 l0_2).bind fun t102 => (if t102 = true then ((impl_isNode.f a0_0 a0_1 a1).bind fun t103 => (some t103)) else (some false))
set_option maxHeartbeats 8000000 in
set_option maxRecDepth 100000 in
theorem impl_isRoot.calls (k : Nat) (a0_0 : Int) (a0_1 : Int) (A0_2 : Option Addr) (c0_2 : Nat) (l0_2 : List Int) (a1 : Int) (r : Bool) (w : World) (hr0_2 : Kd.C (Kd.int .i64) w A0_2 l0_2.length l0_2) (hc0_2 : l0_2.length ≤ c0_2) (h : impl_isRoot.f k a0_0 a0_1 l0_2 a1 = some r) :
    Calls Try.prog 64 #[.agg #[.int .i64 a0_0, .int .i64 a0_1, .slice A0_2 l0_2.length c0_2], .int .i64 a1] w fun e w' => e = .returned (.bool r) ∧ Below w.heap.size w w' := by
 have z1_ := Try.underlying34
 have z2_ := Try.underlying32
 have z3_ := Aside0.mk hr0_2
 have z4_ := Aside0.mk hc0_2
 clear hr0_2 hc0_2
 have HB := Aside0.mk (Below.refl w.heap.size w)
 have H : ((impl_MeshOk.f k a0_0 a0_1 l0_2).bind fun t102 => (if t102 = true then ((impl_isNode.f a0_0 a0_1 a1).bind fun t103 => (some t103)) else (some false))) = some r := h
 clear h
 replace H := Option.bind_eq_some_iff.mp H
 obtain ⟨z5_, z6_, H⟩ := H
 replace H : (if z5_ = true then ((impl_isNode.f a0_0 a0_1 a1).bind fun t103 => (some t103)) else (some false)) = some r := H
 have z7_ := Aside0.mk z6_
 clear z6_
 by_cases z8_ : z5_ = true
 focus
   subst z8_
   have z9_ : ((impl_isNode.f a0_0 a0_1 a1).bind fun t103 => (some t103)) = some r := by rw [if_pos rfl] at H; exact H
   clear H
   have H := z9_
   clear z9_
   replace H := Option.bind_eq_some_iff.mp H
   obtain ⟨z10_, z11_, H⟩ := H
   replace H : (some z10_) = some r := H
   have z12_ := Aside0.mk z11_
   clear z11_
   obtain rfl := Option.some.inj H
 rotate_left
 focus
   replace z8_ := Bool.eq_false_iff.mpr z8_
   subst z8_
   have z9_ : (some false) = some r := by rw [if_neg (show ¬ (false = true) by decide)] at H; exact H
   clear H
   have H := z9_
   clear z9_
   obtain rfl := Option.some.inj H
 all_goals
   go_enter Try.func64, Try.ntmps64
   go_wp2_with (first | ((with_reducible refine gate_dst (N := 2) rfl ?_); refine box_event ?hg (N := 2) ?hd (cs := #[.int .i64 a0_0, .int .i64 a0_1, .slice A0_2 l0_2.length c0_2]) (t := 34) ?hr ?_; (case hd => rfl); (case hg => rfl); (case hr => first | (go_simp; done) | (go_simp; rfl)); intro y1_ hg y2_ hbox hb; have y3_ := Aside0.mk (below_step (by repeat (first | (with_reducible first | exact HB.out | apply below_alloc | apply pw_below_drewN | apply below_drew1) | exact HB.out)) hb); have y4_ := Aside0.mk (hbox); have y5_ := Aside0.mk ((by rw [hg]; exact (below_size (by repeat (first | (with_reducible first | exact HB.out | apply below_alloc | apply pw_below_drewN | apply below_drew1) | exact HB.out))) : w.heap.size ≤ y1_)); have y6_ := Aside0.mk ((by rw [hg]; exact (below_size (by repeat (first | (with_reducible first | exact HB.out | apply below_alloc | apply pw_below_drewN | apply below_drew1) | exact HB.out))) : w.heap.size ≤ y1_)); clear HB; have HB := y3_; have y7_ := y4_; have y8_ := y5_; have y9_ := y6_; clear y3_ y4_ y5_ y6_; clear hb hbox hg; have y10_ : y2_.cell? ⟨y1_, 0, none⟩ = some (.int .i64 a0_0) := (blk_cell y7_.out 0).trans rfl; have y11_ : y2_.cell? ⟨y1_, 1, none⟩ = some (.int .i64 a0_1) := (blk_cell y7_.out 1).trans rfl; have y12_ : y2_.cell? ⟨y1_, 2, none⟩ = some (.slice A0_2 l0_2.length c0_2) := (blk_cell y7_.out 2).trans rfl; have y13_ := blk_frozen y7_.out 0; have y14_ := blk_frozen y7_.out 1; have y15_ := blk_frozen y7_.out 2) | ((with_reducible refine gate_callee (f := 106) rfl ?_); refine goesL_ (some 6) rfl rfl Try.func106 (by kernel_rfl) rfl #[.agg #[.int .i64 a0_0, .int .i64 a0_1, .slice A0_2 l0_2.length c0_2]] rfl (by (try simp only [List.map_toArray, List.map_cons, List.map_nil]); first | done | rfl | (simp only [List.length_drop, List.length_take]; rfl)) ?_; (with_reducible refine (impl_MeshOk.calls _ _ _ _ _ _ _ _ ?side1 ?side2 z7_.out).mono ?_); (case side1 => repeat (first | exact (Kd.C_below z3_.out HB.out) | (with_reducible refine Kd.C_alloc ?_ _) | (with_reducible refine Kd.C_drewN ?_ _) | (with_reducible refine Kd.C_drew ?_))); (case side2 => exact z4_.out); rintro e y16_ ⟨rfl, hb⟩; refine ⟨_, rfl, ?_⟩; have y3_ := Aside0.mk (blk_below (g := y1_) (o := .cells #[.int .i64 a0_0, .int .i64 a0_1, .slice A0_2 l0_2.length c0_2] 34 (0, 0)) (by (with_reducible repeat (first | refine blk_drewN ?_ _ | refine blk_drew ?_ | refine blk_alloc ?_ _)); exact y7_.out) hb); have y4_ := Aside0.mk (below_step (by repeat (first | (with_reducible first | exact HB.out | apply below_alloc | apply pw_below_drewN | apply below_drew1 | refine below_set ?_ y9_.out) | exact HB.out)) hb); clear y7_; clear HB; have y7_ := y3_; have HB := y4_; clear y3_ y4_; (try clear hb); (try clear hb2); (try clear hk); (try clear hi); have y17_ : y16_.cell? ⟨y1_, 0, none⟩ = some (.int .i64 a0_0) := (blk_cell y7_.out 0).trans rfl; have y18_ : y16_.cell? ⟨y1_, 1, none⟩ = some (.int .i64 a0_1) := (blk_cell y7_.out 1).trans rfl; have y19_ : y16_.cell? ⟨y1_, 2, none⟩ = some (.slice A0_2 l0_2.length c0_2) := (blk_cell y7_.out 2).trans rfl; have y20_ := blk_frozen y7_.out 0; have y21_ := blk_frozen y7_.out 1; have y22_ := blk_frozen y7_.out 2) | (go_at_call 104; (with_reducible refine (impl_isNode.calls _ _ _ _ _ z12_.out).mono ?_); rintro e y23_ ⟨rfl, hb⟩; have y3_ := Aside0.mk (blk_below (g := y1_) (o := .cells #[.int .i64 a0_0, .int .i64 a0_1, .slice A0_2 l0_2.length c0_2] 34 (0, 0)) (by (with_reducible repeat (first | refine blk_drewN ?_ _ | refine blk_drew ?_ | refine blk_alloc ?_ _)); exact y7_.out) hb); have y4_ := Aside0.mk (below_step (by repeat (first | (with_reducible first | exact HB.out | apply below_alloc | apply pw_below_drewN | apply below_drew1 | refine below_set ?_ y9_.out) | exact HB.out)) hb); clear y7_; clear HB; have y7_ := y3_; have HB := y4_; clear y3_ y4_; (try clear hb); (try clear hb2); (try clear hk); (try clear hi)) | ((with_reducible refine gate_callee (f := 106) rfl ?_); refine goesL_ (some 6) rfl rfl Try.func106 (by kernel_rfl) rfl #[.agg #[.int .i64 a0_0, .int .i64 a0_1, .slice A0_2 l0_2.length c0_2]] rfl (by (try simp only [List.map_toArray, List.map_cons, List.map_nil]); first | done | rfl | (simp only [List.length_drop, List.length_take]; rfl)) ?_; (with_reducible refine (impl_MeshOk.calls _ _ _ _ _ _ _ _ ?side1 ?side2 z7_.out).mono ?_); (case side1 => repeat (first | exact (Kd.C_below z3_.out HB.out) | (with_reducible refine Kd.C_alloc ?_ _) | (with_reducible refine Kd.C_drewN ?_ _) | (with_reducible refine Kd.C_drew ?_))); (case side2 => exact z4_.out); rintro e y16_ ⟨rfl, hb⟩; refine ⟨_, rfl, ?_⟩; have y3_ := Aside0.mk (blk_below (g := y1_) (o := .cells #[.int .i64 a0_0, .int .i64 a0_1, .slice A0_2 l0_2.length c0_2] 34 (0, 0)) (by (with_reducible repeat (first | refine blk_drewN ?_ _ | refine blk_drew ?_ | refine blk_alloc ?_ _)); exact y7_.out) hb); have y4_ := Aside0.mk (below_step (by repeat (first | (with_reducible first | exact HB.out | apply below_alloc | apply pw_below_drewN | apply below_drew1 | refine below_set ?_ y9_.out) | exact HB.out)) hb); clear y7_; clear HB; have y7_ := y3_; have HB := y4_; clear y3_ y4_; (try clear hb); (try clear hb2); (try clear hk); (try clear hi)))
   go_ret
   exact ⟨by first | rfl | (simp [errW_none, errW_some] <;> rfl) | (simp [*, errW_none, errW_some] <;> rfl), by repeat (first | (with_reducible first | exact HB.out | apply below_alloc | apply pw_below_drewN | apply below_drew1 | refine below_set ?_ y9_.out) | exact HB.out)⟩
def bits_Mul64.f (a0 : Int) (a1 : Int) : Option (Int × Int) := some (IntKind.u64.wrap ((IntKind.u64.wrap ((IntKind.u64.wrap ((a0 / 4294967296) * (a1 / 4294967296))) + ((IntKind.u64.wrap ((IntKind.u64.wrap ((a0 / 4294967296) * (Go.bits .and .u64 a1 4294967295))) + ((IntKind.u64.wrap ((Go.bits .and .u64 a0 4294967295) * (Go.bits .and .u64 a1 4294967295))) / 4294967296))) / 4294967296))) + ((IntKind.u64.wrap ((Go.bits .and .u64 (IntKind.u64.wrap ((IntKind.u64.wrap ((a0 / 4294967296) * (Go.bits .and .u64 a1 4294967295))) + ((IntKind.u64.wrap ((Go.bits .and .u64 a0 4294967295) * (Go.bits .and .u64 a1 4294967295))) / 4294967296))) 4294967295) + (IntKind.u64.wrap ((Go.bits .and .u64 a0 4294967295) * (a1 / 4294967296))))) / 4294967296)), IntKind.u64.wrap (a0 * a1))
set_option maxHeartbeats 8000000 in
set_option maxRecDepth 100000 in
theorem bits_Mul64.calls (a0 : Int) (a1 : Int) (r1 : Int) (r2 : Int) (w : World) (h : bits_Mul64.f a0 a1 = some (r1, r2)) :
    Calls Try.prog 147 #[.int .u64 a0, .int .u64 a1] w fun e w' => e = .returned (.tuple #[.int .u64 r1, .int .u64 r2]) ∧ Drawn0 w w' := by
 have H : (some (IntKind.u64.wrap ((IntKind.u64.wrap ((IntKind.u64.wrap ((a0 / 4294967296) * (a1 / 4294967296))) + ((IntKind.u64.wrap ((IntKind.u64.wrap ((a0 / 4294967296) * (Go.bits .and .u64 a1 4294967295))) + ((IntKind.u64.wrap ((Go.bits .and .u64 a0 4294967295) * (Go.bits .and .u64 a1 4294967295))) / 4294967296))) / 4294967296))) + ((IntKind.u64.wrap ((Go.bits .and .u64 (IntKind.u64.wrap ((IntKind.u64.wrap ((a0 / 4294967296) * (Go.bits .and .u64 a1 4294967295))) + ((IntKind.u64.wrap ((Go.bits .and .u64 a0 4294967295) * (Go.bits .and .u64 a1 4294967295))) / 4294967296))) 4294967295) + (IntKind.u64.wrap ((Go.bits .and .u64 a0 4294967295) * (a1 / 4294967296))))) / 4294967296)), IntKind.u64.wrap (a0 * a1))) = some (r1, r2) := h
 clear h
 simp only [Option.some.injEq, Prod.mk.injEq] at H
 obtain ⟨rfl, rfl⟩ := H
 go_enter Try.func147, Try.ntmps147
 go_wp2
 go_ret2
 exact ⟨by first | rfl | (simp; done) | (simp [*]; done), by repeat (first | exact Drawn0.refl _ | apply Drawn0.step)⟩
def bits_Mul.f (a0 : Int) (a1 : Int) : Option (Int × Int) := (bits_Mul64.f a0 a1).bind fun bt101 => (some (bt101.1, bt101.2))
set_option maxHeartbeats 8000000 in
set_option maxRecDepth 100000 in
theorem bits_Mul.calls (a0 : Int) (a1 : Int) (r1 : Int) (r2 : Int) (w : World) (h : bits_Mul.f a0 a1 = some (r1, r2)) :
    Calls Try.prog 110 #[.int .u64 a0, .int .u64 a1] w fun e w' => e = .returned (.tuple #[.int .u64 r1, .int .u64 r2]) ∧ Drawn0 w w' := by
 have H : ((bits_Mul64.f a0 a1).bind fun bt101 => (some (bt101.1, bt101.2))) = some (r1, r2) := h
 clear h
 replace H := Option.bind_eq_some_iff.mp H
 obtain ⟨⟨z1_, z2_⟩, z3_, H⟩ := H
 replace H : (some (z1_, z2_)) = some (r1, r2) := H
 have z4_ := Aside0.mk z3_
 clear z3_
 simp only [Option.some.injEq, Prod.mk.injEq] at H
 obtain ⟨rfl, rfl⟩ := H
 go_enter Try.func110, Try.ntmps110
 go_wp2_with (first | ((with_reducible refine gate_callee (f := 147) rfl ?_); refine goesL_ (some 25) rfl rfl Try.func147 (by kernel_rfl) rfl #[.int .u64 a0, .int .u64 a1] rfl (by (try simp only [List.map_toArray, List.map_cons, List.map_nil]); first | done | rfl | (simp only [List.length_drop, List.length_take]; rfl)) ?_; (with_reducible refine (bits_Mul64.calls _ _ _ _ _ z4_.out).mono ?_); rintro e w' ⟨rfl, ⟨nd, rfl⟩⟩; refine ⟨_, rfl, ?_⟩))
 go_ret2
 exact ⟨by first | rfl | (simp; done) | (simp [*]; done), by repeat (first | exact Drawn0.refl _ | apply Drawn0.step)⟩
def slices_Repeat_int_int.f (l0 : List Int) (a1 : Int) : Option (List Int) := if l0.length = 1 then (if 1 ≤ a1 then (if a1 ≤ 1048576 then some (List.replicate a1.toNat (rd l0 0)) else none) else none) else none
theorem mul_one_ (c : Nat) (h : c ≤ 1048576) : bits_Mul.f 1 (c : Int) = some (0, (c : Int)) := by
  unfold bits_Mul.f bits_Mul64.f
  have e1 : Go.bits .and .u64 1 4294967295 = 1 := by decide +kernel
  have e2 : Go.bits .and .u64 (c : Int) 4294967295 = (c : Int) := by
    have := bits_mask .u64 64 (by decide) (fun n h0 h1 => by simp [IntKind.wrap, IntKind.bits, IntKind.signed]; omega) 32 (by decide) (c : Int) (by omega) (by omega)
    rw [show ((2 : Int) ^ 32 - 1) = 4294967295 by decide] at this
    rw [this]; omega
  have e3 : (c : Int) / 4294967296 = 0 := by omega
  have ew : ∀ n : Int, 0 ≤ n → n ≤ 1048576 → IntKind.u64.wrap n = n := fun n h0 h1 => by simp [IntKind.wrap, IntKind.bits, IntKind.signed]; omega
  have e0 : Go.bits .and .u64 0 4294967295 = 0 := by decide +kernel
  simp only [Option.bind_some, e1, e2, e3, show (1 : Int) / 4294967296 = 0 by decide, Int.zero_mul, Int.mul_zero, Int.one_mul, Int.zero_add, Int.add_zero, Int.zero_ediv, ew 0 (by omega) (by omega), ew (c : Int) (by omega) (by omega), e0]
theorem size3 : (Try.prog.info? 3).map (·.size) = some 1 := by kernel_rfl
def Rep1 (wr : World) (g cap k : Nat) (v : Int) : Prop := ∃ cur : List Value, wr.heap[g]? = some (.cells cur.toArray 3 (0, 0)) ∧ cur.length = cap ∧ cur.take k = List.replicate k (.int .i64 v)
theorem Rep1.splice {w' : World} {g cap k m : Nat} {v : Int} {cur : List Value} (hl : cur.length = cap) (ht : cur.take k = List.replicate k (.int .i64 v)) (hm : k + m ≤ cap)
    (hw : w'.heap[g]? = some (.cells (Go.splice cur k (List.replicate m (.int .i64 v))).toArray 3 (0, 0))) : Rep1 w' g cap (k + m) v := by
  refine ⟨_, hw, by rw [length_splice _ _ _ (by simp; omega), hl], ?_⟩
  unfold Go.splice
  rw [ht, ← List.append_assoc, List.replicate_append_replicate, List.take_append_of_le_length (by simp), List.take_of_length_le (by simp)]
theorem min_or (a b : Nat) : (Nat.min a b = a ∧ a ≤ b) ∨ (Nat.min a b = b ∧ b ≤ a) := (Nat.le_total a b).imp (fun h => ⟨Nat.min_eq_left h, h⟩) (fun h => ⟨Nat.min_eq_right h, h⟩)
theorem rep_cells {wr : World} {g k m : Nat} {v : Int} {cur : List Value} (hh : wr.heap[g]? = some (.cells cur.toArray 3 (0, 0))) (ht : cur.take k = List.replicate k (.int .i64 v)) (hm : m ≤ k) :
    ∀ j u, (List.replicate m (Value.int .i64 v))[j]? = some u → wr.cell? ((⟨g, 0, none⟩ : Addr).add j) = some u := by
  intro j u hj
  obtain ⟨hj1, hj2⟩ := List.getElem?_eq_some_iff.1 hj
  simp at hj1 hj2
  subst hj2
  have h1 : cur[j]? = some (Value.int .i64 v) := by
    have := congrArg (fun l => l[j]?) ht
    simp only [List.getElem?_take] at this
    rw [if_pos (by omega), List.getElem?_replicate, if_pos (by omega)] at this
    exact this
  have e : (⟨g, 0, none⟩ : Addr).add j = ⟨g, j, none⟩ := by
    by_cases h : j = 0 <;> simp [Addr.add, h]
  rw [e]
  simp [World.cell?, hh, h1]
theorem own_cells {W : World} {base : Nat} {ok : Nat → Prop} {v1 : Value} {c : Nat} (h : Kd.R (Kd.int .i64) 3 W base ok v1 (List.replicate c 0)) (hc : 0 < c) : ∃ g cap, v1 = .slice (some ⟨g, 0, none⟩) c cap ∧ base ≤ g ∧ c ≤ cap ∧ cap ≤ maxLen ∧ Rep1 W g cap 0 0 := by
  obtain ⟨_, inner, ho, _⟩ := h
  obtain ⟨h1, h2 | ⟨g, cap, cur, rfl, hg, hh, h3, h4, h5, h6⟩⟩ := ho
  · simp at h2; omega
  · exact ⟨g, cap, by simp, hg, by simpa using h3, h4, cur.toList, by simpa using hh, by simpa [Kd.int, Kd.scalar] using h5, rfl⟩
theorem cells_own {W : World} {base g c cap : Nat} {v : Int} (hg : base ≤ g) (hc : c ≤ cap) (hm : cap ≤ maxLen) (h : Rep1 W g cap c v) : Kd.R (Kd.int .i64) 3 W base (fun _ => True) (.slice (some ⟨g, 0, none⟩) c cap) (List.replicate c v) := by
  obtain ⟨cur, hh, hl, ht⟩ := h
  refine ⟨fun _ _ => trivial, List.replicate c (.int .i64 v), ⟨by simp [Kd.int, Kd.scalar], .inr ⟨g, cap, cur.toArray, by simp, hg, hh, by simpa using hc, hm, by simp [Kd.int, Kd.scalar, hl], by simp [Kd.int, Kd.scalar, ht]⟩⟩, ?_⟩
  refine ⟨by simp [Kd.int, Kd.scalar], fun j p hj => ?_⟩
  obtain ⟨hj1, hj2⟩ := List.getElem?_eq_some_iff.1 hj
  simp at hj1 hj2
  subst hj2
  show (List.take 1 (List.drop (j * 1) _)) = [Value.int .i64 v]
  have : j < c := hj1
  rw [Nat.mul_one, List.drop_replicate, List.take_replicate, Nat.min_eq_left (by omega)]; rfl
set_option maxHeartbeats 1000000 in
set_option maxRecDepth 100000 in
theorem slices_Repeat_int_int.calls (A0 : Option Addr) (c0 : Nat) (l0 : List Int) (a1 : Int) (r : List Int) (w : World) (hr0 : Kd.C (Kd.int .i64) w A0 l0.length l0) (hc0 : l0.length ≤ c0) (h : slices_Repeat_int_int.f l0 a1 = some r) :
    Calls Try.prog 65 #[.slice A0 l0.length c0, .int .i64 a1] w fun e w' => ∃ v0_ : Value, e = .returned (v0_) ∧ Kd.R (Kd.int .i64) 3 w' w.heap.size (fun _ => True) v0_ r ∧ Below w.heap.size w w' := by
 unfold slices_Repeat_int_int.f at h
 by_cases z1_ : l0.length = 1
 · by_cases z2_ : 1 ≤ a1
   · by_cases z3_ : a1 ≤ 1048576
     · rw [if_pos z1_, if_pos z2_, if_pos z3_] at h
       obtain rfl := Option.some.inj h
       clear h
       obtain ⟨c, rfl⟩ := Int.eq_ofNat_of_zero_le (show 0 ≤ a1 by omega)
       obtain ⟨ad, e, hx⟩ := Kd.at_int hr0 0 (by omega) (by omega)
       subst e
       have y1_ : w.cell? ad = some (.int .i64 (rd l0 0)) := by simpa [Addr.add] using hx
       clear hx hr0
       generalize rd l0 0 = v at y1_ ⊢
       rw [z1_]
       have M := mul_one_ c (by omega)
       have HM := Aside0.mk M
       clear M z1_ hc0
       have y2_ : decide ((c : Int) < 0) = false := decide_eq_false (by omega)
       have y3_ : decide ((9223372036854775807 : Int) < (c : Int)) = false := decide_eq_false (by omega)
       have y4_ : 1 ≤ c := by omega
       have y5_ : c ≤ 1048576 := by omega
       clear z2_ z3_
       go_enter Try.func65, Try.ntmps65
       go_wp2_with fail
       refine (bits_Mul.calls _ _ _ _ _ HM.out).mono ?_; rintro e w' ⟨rfl, ⟨nd, rfl⟩⟩
       go_wp2_with (first | ((with_reducible refine gate_dst (N := 30) rfl ?_); (refine Kd.R_make (Kd.int .i64) (w0 := w) w.heap.size 3 rfl rfl 24 _ _ rfl (c : Int) rfl rfl Try.underlying24 (.int .i64 0) 8 info3 rfl (by decide) (by decide) 0 (ok := fun _ => True) (okp := fun _ => True) rfl (fun _ hk => hk) trivial (by omega) (by omega) (pw_below_drewN (Below.refl _ _) _) (by simp) ?_; intro y6_ y7_ hR hB hg_ hnew_; clear hg_ hnew_; obtain ⟨g, cap, hv, y8_, y9_, y10_, cur, hh, hl, ht⟩ := own_cells hR (by omega); have HB := Aside0.mk hB; have HX := Aside0.mk (pw_cell_below hB y1_); have HL := Aside0.mk hl; have HH := Aside0.mk hh; have HG := Aside0.mk (And.intro y8_ y10_); clear hR hB y8_ y10_ hl hh ht y1_; subst hv)) | ((with_reducible refine gate_builtin (b := .copy) rfl ?_); go_must (refine wpList_copy_splice rfl (.tmp 31) (.tmp 32) 24 24 rfl 3 Try.underlying24 size3 (some ⟨g, 0, none⟩) (some ad) c cap 1 c0 rfl rfl g 0 cur 3 HH.out [.int .i64 v] (Nat.min_eq_left (by omega)).symm (fun _ => ⟨rfl, ad, rfl, fun j u hj => by cases j with | zero => simpa [Addr.add, ← hj] using HX.out | succ j => simp at hj⟩) (by simp; have := HL.out; omega) (by simp [Value.oneCell']) w.heap.size w HB.out HG.out.1 ?_; intro y11_ y12_ y13_)))
       have y14_ : Rep1 y11_ g cap 1 v := by
         have := Rep1.splice (k := 0) (m := 1) (v := v) (cap := cap) HL.out (by simp) (by have := HG.out; omega) y12_.out
         simpa using this
       have HR := Aside0.mk y14_
       have y15_ := Aside0.mk y13_
       clear y14_ y13_ y12_ HH HX HB HL
       go_loopw [8] (fun n wr => ∃ k : Nat, n = .int .i64 k ∧ 1 ≤ k ∧ k ≤ c ∧ Aside0 (Rep1 wr g cap k v) ∧ Aside0 (Below w.heap.size w wr)) (fun n _ => c - (intOf n).toNat)
       case atStart => exact ⟨1, rfl, by omega, by omega, HR, y15_⟩
       case round =>
         obtain ⟨k, rfl, y16_, y17_, HR, HB⟩ := hrel
         by_cases hlt : k < c
         · have x1_ : decide ((k : Int) < (c : Int)) = true := decide_eq_true (by omega)
           go_wp2
           obtain ⟨cur, hh, hl, ht⟩ := HR.out
           have HL := Aside0.mk hl
           have HT := Aside0.mk ht
           have HH := Aside0.mk hh
           have hmn := min_or k (c - k)
           have x2_ := Aside0.mk (show 1 ≤ Nat.min k (c - k) ∧ k + Nat.min k (c - k) ≤ c by rcases hmn with ⟨h, h'⟩ | ⟨h, h'⟩ <;> rw [h] <;> omega)
           clear hmn
           have hwr : IntKind.i64.wrap ((k : Int) + ((Nat.min k (c - k) : Nat) : Int)) = ((k + Nat.min k (c - k) : Nat) : Int) := by rw [IntKind.wrap_i64]; have := x2_.out; omega
           have HC : ∀ j u, (List.replicate (Nat.min k (c - k)) (Value.int .i64 v))[j]? = some u → wr.cell? ((⟨g, 0, none⟩ : Addr).add j) = some u := rep_cells hh ht (Nat.min_le_left _ _)
           have HCC := Aside0.mk HC
           clear hl ht hh HR HC
           have hcap : c ≤ cap := by have := y9_; omega
           have x3_ : (k : Int) ≤ (cap : Int) := by omega
           have x4_ : ¬ cap = k := by omega
           have x5_ : (0 : Int) ≤ (k : Int) := by omega
           have x6_ : k ≤ cap := by omega
           have x7_ : (k : Int) ≤ (c : Int) := by omega
           go_region_law (refine step_copy_splice rfl (.tmp 41) (.tmp 44) 24 24 rfl 3 Try.underlying24 size3 (some ⟨g, k, none⟩) (some ⟨g, 0, none⟩) (c - k) (cap - k) k cap (by simp [Act.eval, Act.put]) (by simp [Act.eval, Act.put]) g k cur 3 HH.out (List.replicate (Nat.min k (c - k)) (.int .i64 v)) (by simp) (fun _ => ⟨rfl, _, rfl, HCC.out⟩) (by rw [List.length_replicate, HL.out]; have := x2_.out; have := HG.out; omega) (fun u hu => by rw [List.eq_of_mem_replicate hu]; rfl) w.heap.size w (below_drew1 HB.out) HG.out.1 ?_; intro x8_ x9_ x10_)
           have x11_ := Aside0.mk (Rep1.splice (cap := cap) HL.out HT.out (by have := x2_.out; have := HG.out; omega) x9_.out)
           have x12_ := Aside0.mk x10_
           clear x9_ x10_
           simp only [List.getElem_toArray, List.getElem_cons_succ, List.getElem_cons_zero, Act.put, List.setIfInBounds_toArray, List.set_cons_zero, List.set_cons_succ, hwr]
           go_roundw
           case rel => exact ⟨_, _, _, _, _, _, _, _, _, _, _, _, _, _, ⟨k + Nat.min k (c - k), by first | rfl | simp, by omega, x2_.out.2, x11_, x12_⟩, rfl⟩
           case measure => have := x2_.out; simp [intOf]; omega
         · have x1_ : decide ((k : Int) < (c : Int)) = false := decide_eq_false (by omega)
           have e : k = c := by omega
           subst e
           go_wp2
           go_ret
           exact ⟨_, rfl, cells_own HG.out.1 (by have := y9_; omega) HG.out.2 HR.out, HB.out⟩
     · rw [if_pos z1_, if_pos z2_, if_neg z3_] at h; cases h
   · rw [if_pos z1_, if_neg z2_] at h; cases h
 · rw [if_neg z1_] at h; cases h
end Go.Proofs.Ytkkoenbmokbglaa.F
end
section
namespace Go.Proofs.Ytkkoenbmokbglaa.F
open Go.RowKit Go.Proofs.YtkkoenbmokbglaaW.PrintWords Go.Proofs.YtkkoenbmokbglaaW.PrintLast Go.Proofs.YtkkoenbmokbglaaW.PrintMore
set_option linter.unusedVariables false
set_option linter.unusedSimpArgs false
mutual
def impl_TreeDepths.l0 : Nat → List Int → List Int → Int → Int → Int → List Int → Option (List Int)
  | 0, _, _, _, _, _, _ => none
  | k + 1, x5, x6, x7, x102000, x102001, x102002 => if x7 < (x6.length : Int) then (if 0 ≤ x7 then (impl_TreeDepths.l1 k x5 x6 x7 (rd x6 x7) 0 x102000 x102001 x102002) else (none)) else (some x5)
def impl_TreeDepths.l1 : Nat → List Int → List Int → Int → Int → Int → Int → Int → List Int → Option (List Int)
  | 0, _, _, _, _, _, _, _, _ => none
  | k + 1, x5, x6, x7, x8, x9, x102000, x102001, x102002 => if x9 ≤ 3 then ((impl_IsLink.f k x102000 x102001 x102002 (wrap64 ((wrap64 (4 * x8)) + x9))).bind fun t115 => (if t115 = true then ((impl_endOf.f x102000 x102001 x102002 (wrap64 ((wrap64 (4 * x8)) + x9))).bind fun t116 => (if 0 ≤ t116 then (if t116 < (x5.length : Int) then (if (rd x5 t116) < 0 then (if 0 ≤ x8 then (if x8 < (x5.length : Int) then (if x6.length < 17592186044416 then (impl_TreeDepths.l1 k (x5.set (t116 : Int).toNat (wrap64 ((rd x5 x8) + 1))) (x6 ++ [t116]) x7 x8 (wrap64 (x9 + 1)) x102000 x102001 x102002) else (none)) else (none)) else (none)) else (impl_TreeDepths.l1 k x5 x6 x7 x8 (wrap64 (x9 + 1)) x102000 x102001 x102002)) else (none)) else (none))) else (impl_TreeDepths.l1 k x5 x6 x7 x8 (wrap64 (x9 + 1)) x102000 x102001 x102002))) else (impl_TreeDepths.l0 k x5 x6 (wrap64 (x7 + 1)) x102000 x102001 x102002)
end
def impl_TreeDepths.f (k : Nat) (a0_0 : Int) (a0_1 : Int) (l0_2 : List Int) (a1 : Int) : Option (List Int) := (impl_isRoot.f k a0_0 a0_1 l0_2 a1).bind fun t102 => (if t102 = true then ((impl_NodeCount.f a0_0 a0_1).bind fun t106 => ((slices_Repeat_int_int.f (([(-1)] : List Int)) t106).bind fun t107 => (if 0 ≤ a1 then (if a1 < (t107.length : Int) then (impl_TreeDepths.l0 k (t107.set (a1 : Int).toNat 0) (([a1] : List Int)) 0 a0_0 a0_1 l0_2) else (none)) else (none)))) else (some ([] : List Int)))
set_option maxHeartbeats 8000000 in
set_option maxRecDepth 100000 in
theorem impl_TreeDepths.calls (k : Nat) (a0_0 : Int) (a0_1 : Int) (A0_2 : Option Addr) (c0_2 : Nat) (l0_2 : List Int) (a1 : Int) (r : List Int) (w : World) (hr0_2 : Kd.C (Kd.int .i64) w A0_2 l0_2.length l0_2) (hc0_2 : l0_2.length ≤ c0_2) (h : impl_TreeDepths.f k a0_0 a0_1 l0_2 a1 = some r) :
    Calls Try.prog 24 #[.agg #[.int .i64 a0_0, .int .i64 a0_1, .slice A0_2 l0_2.length c0_2], .int .i64 a1] w fun e w' => ∃ v0_ : Value, e = .returned (v0_) ∧ Kd.R (Kd.int .i64) 3 w' w.heap.size (fun _ => True) v0_ r ∧ Below w.heap.size w w' := by
 have z1_ := Try.underlying34
 have z2_ := Try.underlying32
 have z3_ := Aside0.mk hr0_2
 have z4_ := Aside0.mk hc0_2
 clear hr0_2 hc0_2
 have HB := Aside0.mk (Below.refl w.heap.size w)
 have H : ((impl_isRoot.f k a0_0 a0_1 l0_2 a1).bind fun t102 => (if t102 = true then ((impl_NodeCount.f a0_0 a0_1).bind fun t106 => ((slices_Repeat_int_int.f (([(-1)] : List Int)) t106).bind fun t107 => (if 0 ≤ a1 then (if a1 < (t107.length : Int) then (impl_TreeDepths.l0 k (t107.set (a1 : Int).toNat 0) (([a1] : List Int)) 0 a0_0 a0_1 l0_2) else (none)) else (none)))) else (some ([] : List Int)))) = some r := h
 clear h
 replace H := Option.bind_eq_some_iff.mp H
 obtain ⟨z5_, z6_, H⟩ := H
 replace H : (if z5_ = true then ((impl_NodeCount.f a0_0 a0_1).bind fun t106 => ((slices_Repeat_int_int.f (([(-1)] : List Int)) t106).bind fun t107 => (if 0 ≤ a1 then (if a1 < (t107.length : Int) then (impl_TreeDepths.l0 k (t107.set (a1 : Int).toNat 0) (([a1] : List Int)) 0 a0_0 a0_1 l0_2) else (none)) else (none)))) else (some ([] : List Int))) = some r := H
 have z7_ := Aside0.mk z6_
 clear z6_
 by_cases z8_ : z5_ = true
 · subst z8_
   have z9_ : ((impl_NodeCount.f a0_0 a0_1).bind fun t106 => ((slices_Repeat_int_int.f (([(-1)] : List Int)) t106).bind fun t107 => (if 0 ≤ a1 then (if a1 < (t107.length : Int) then (impl_TreeDepths.l0 k (t107.set (a1 : Int).toNat 0) (([a1] : List Int)) 0 a0_0 a0_1 l0_2) else (none)) else (none)))) = some r := by rw [if_pos rfl] at H; exact H
   clear H
   have H := z9_
   clear z9_
   obtain ⟨z10_, z11_⟩ : ∃ y_ : List Int, y_ = (([(-1)] : List Int)) := ⟨_, rfl⟩
   replace H : ((impl_NodeCount.f a0_0 a0_1).bind fun t106 => ((slices_Repeat_int_int.f z10_ t106).bind fun t107 => (if 0 ≤ a1 then (if a1 < (t107.length : Int) then (impl_TreeDepths.l0 k (t107.set (a1 : Int).toNat 0) (([a1] : List Int)) 0 a0_0 a0_1 l0_2) else (none)) else (none)))) = some r := by first | (rw [z11_]; with_reducible exact H) | (have z12_ := (Option.bind_some _ _).symm.trans H; rw [z11_]; with_reducible exact z12_) | (have z12_ := (Option.bind_some _ _).symm.trans H; with_reducible exact z12_) | with_reducible exact H | (rw [z11_]; exact H) | exact H
   have z13_ := Aside0.mk z11_
   clear z11_
   replace H := Option.bind_eq_some_iff.mp H
   obtain ⟨z14_, z15_, H⟩ := H
   replace H : ((slices_Repeat_int_int.f z10_ z14_).bind fun t107 => (if 0 ≤ a1 then (if a1 < (t107.length : Int) then (impl_TreeDepths.l0 k (t107.set (a1 : Int).toNat 0) (([a1] : List Int)) 0 a0_0 a0_1 l0_2) else (none)) else (none))) = some r := H
   have z16_ := Aside0.mk z15_
   clear z15_
   replace H := Option.bind_eq_some_iff.mp H
   obtain ⟨z17_, z18_, H⟩ := H
   replace H : (if 0 ≤ a1 then (if a1 < (z17_.length : Int) then (impl_TreeDepths.l0 k (z17_.set (a1 : Int).toNat 0) (([a1] : List Int)) 0 a0_0 a0_1 l0_2) else (none)) else (none)) = some r := H
   have z19_ := Aside0.mk z18_
   clear z18_
   by_cases z20_ : 0 ≤ a1
   · rw [if_pos z20_] at H
     have z21_ : decide (0 ≤ a1) = true := decide_eq_true z20_
     clear z20_
     by_cases z22_ : a1 < (z17_.length : Int)
     · rw [if_pos z22_] at H
       have z23_ : decide (a1 < (z17_.length : Int)) = true := decide_eq_true z22_
       clear z22_
       obtain ⟨z24_, z25_⟩ : ∃ y_ : List Int, y_ = (z17_.set (a1 : Int).toNat 0) := ⟨_, rfl⟩
       replace H : (impl_TreeDepths.l0 k z24_ (([a1] : List Int)) 0 a0_0 a0_1 l0_2) = some r := by first | (rw [z25_]; with_reducible exact H) | (have z12_ := (Option.bind_some _ _).symm.trans H; rw [z25_]; with_reducible exact z12_) | (have z12_ := (Option.bind_some _ _).symm.trans H; with_reducible exact z12_) | with_reducible exact H | (rw [z25_]; exact H) | exact H
       have z26_ := Aside0.mk z25_
       clear z25_
       obtain ⟨z27_, z28_⟩ : ∃ y_ : List Int, y_ = (([a1] : List Int)) := ⟨_, rfl⟩
       replace H : (impl_TreeDepths.l0 k z24_ z27_ 0 a0_0 a0_1 l0_2) = some r := by first | (rw [z28_]; with_reducible exact H) | (have z12_ := (Option.bind_some _ _).symm.trans H; rw [z28_]; with_reducible exact z12_) | (have z12_ := (Option.bind_some _ _).symm.trans H; with_reducible exact z12_) | with_reducible exact H | (rw [z28_]; exact H) | exact H
       have z29_ := Aside0.mk z28_
       clear z28_
       have H' := Aside0.mk H
       clear H
       go_enter Try.func24, Try.ntmps24
       go_wp2_with (first | ((with_reducible refine gate_dst (N := 2) rfl ?_); refine box_event ?hg (N := 2) ?hd (cs := #[.int .i64 a0_0, .int .i64 a0_1, .slice A0_2 l0_2.length c0_2]) (t := 34) ?hr ?_; (case hd => rfl); (case hg => rfl); (case hr => first | (go_simp; done) | (go_simp; rfl)); intro y1_ hg y2_ hbox hb; have y3_ := Aside0.mk (below_step (by repeat (first | (with_reducible first | exact HB.out | apply below_alloc | apply pw_below_drewN | apply below_drew1) | exact HB.out)) hb); have y4_ := Aside0.mk (hbox); have y5_ := Aside0.mk ((by rw [hg]; exact (below_size (by repeat (first | (with_reducible first | exact HB.out | apply below_alloc | apply pw_below_drewN | apply below_drew1) | exact HB.out))) : w.heap.size ≤ y1_)); have y6_ := Aside0.mk ((by rw [hg]; exact (below_size (by repeat (first | (with_reducible first | exact HB.out | apply below_alloc | apply pw_below_drewN | apply below_drew1) | exact HB.out))) : w.heap.size ≤ y1_)); clear HB; have HB := y3_; have y7_ := y4_; have y8_ := y5_; have y9_ := y6_; clear y3_ y4_ y5_ y6_; clear hb hbox hg; have y10_ : y2_.cell? ⟨y1_, 0, none⟩ = some (.int .i64 a0_0) := (blk_cell y7_.out 0).trans rfl; have y11_ : y2_.cell? ⟨y1_, 1, none⟩ = some (.int .i64 a0_1) := (blk_cell y7_.out 1).trans rfl; have y12_ : y2_.cell? ⟨y1_, 2, none⟩ = some (.slice A0_2 l0_2.length c0_2) := (blk_cell y7_.out 2).trans rfl; have y13_ := blk_frozen y7_.out 0; have y14_ := blk_frozen y7_.out 1; have y15_ := blk_frozen y7_.out 2) | ((with_reducible refine gate_callee (f := 64) rfl ?_); refine goesL_ (some 13) rfl rfl Try.func64 (by kernel_rfl) rfl #[.agg #[.int .i64 a0_0, .int .i64 a0_1, .slice A0_2 l0_2.length c0_2], .int .i64 a1] rfl (by (try simp only [List.map_toArray, List.map_cons, List.map_nil]); first | done | rfl | (simp only [List.length_drop, List.length_take]; rfl)) ?_; (with_reducible refine (impl_isRoot.calls _ _ _ _ _ _ _ _ _ ?side1 ?side2 z7_.out).mono ?_); (case side1 => repeat (first | exact (Kd.C_below z3_.out HB.out) | (with_reducible refine Kd.C_alloc ?_ _) | (with_reducible refine Kd.C_drewN ?_ _) | (with_reducible refine Kd.C_drew ?_))); (case side2 => exact z4_.out); rintro e y16_ ⟨rfl, hb⟩; refine ⟨_, rfl, ?_⟩; have y3_ := Aside0.mk (blk_below (g := y1_) (o := .cells #[.int .i64 a0_0, .int .i64 a0_1, .slice A0_2 l0_2.length c0_2] 34 (0, 0)) (by (with_reducible repeat (first | refine blk_drewN ?_ _ | refine blk_drew ?_ | refine blk_alloc ?_ _)); exact y7_.out) hb); have y4_ := Aside0.mk (below_step (by repeat (first | (with_reducible first | exact HB.out | apply below_alloc | apply pw_below_drewN | apply below_drew1 | refine below_set ?_ y9_.out) | exact HB.out)) hb); clear y7_; clear HB; have y7_ := y3_; have HB := y4_; clear y3_ y4_; (try clear hb); (try clear hb2); (try clear hk); (try clear hi)) | ((with_reducible refine gate_dst (N := 15) rfl ?_); refine Kd.R_lit (Kd.int .i64) _ 3 ?hg (N := 15) ?hd (xs := ([(-1)] : List Int)) (inner := [.int .i64 (-1)]) (ok := fun _ => True) (okp := fun _ => True) ?hr ?hp (fun _ hk => hk) trivial (Below.refl _ _) (Nat.le_refl _) (by simp) ?_; (case hd => rfl); (case hg => rfl); (case hr => first | (go_simp; done) | (go_simp; rfl)); (case hp => exact (Reps.one (show Kd.M (Kd.int .i64) _ _ _ (-1) [.int .i64 (-1)] from rfl) (Reps.none _ _))); intro y17_ y18_ y19_ hb hg_ hnew_; clear hg_ hnew_; (first | rw [← z13_.out] at y19_ | (simp only [Int.reduceToNat] at y19_; rw [← z13_.out] at y19_)); have y3_ := Aside0.mk (Kd.R_lower y19_ (below_size (by repeat (first | (with_reducible first | exact HB.out | apply below_alloc | apply pw_below_drewN | apply below_drew1 | refine below_set ?_ y9_.out) | exact HB.out)))); have y4_ := Aside0.mk (blk_below (g := y1_) (o := .cells #[.int .i64 a0_0, .int .i64 a0_1, .slice A0_2 l0_2.length c0_2] 34 (0, 0)) (by (with_reducible repeat (first | refine blk_drewN ?_ _ | refine blk_drew ?_ | refine blk_alloc ?_ _)); exact y7_.out) hb); have y5_ := Aside0.mk (below_step (by repeat (first | (with_reducible first | exact HB.out | apply below_alloc | apply pw_below_drewN | apply below_drew1 | refine below_set ?_ y9_.out) | exact HB.out)) hb); clear y7_; clear HB; have y20_ := y3_; have y7_ := y4_; have HB := y5_; clear y3_ y4_ y5_; clear hb y19_; have y21_ : y18_.cell? ⟨y1_, 0, none⟩ = some (.int .i64 a0_0) := (blk_cell y7_.out 0).trans rfl; have y22_ : y18_.cell? ⟨y1_, 1, none⟩ = some (.int .i64 a0_1) := (blk_cell y7_.out 1).trans rfl; have y23_ : y18_.cell? ⟨y1_, 2, none⟩ = some (.slice A0_2 l0_2.length c0_2) := (blk_cell y7_.out 2).trans rfl; have y24_ := blk_frozen y7_.out 0; have y25_ := blk_frozen y7_.out 1; have y26_ := blk_frozen y7_.out 2) | ((with_reducible refine gate_callee (f := 66) rfl ?_); refine goesL_ (some 18) rfl rfl Try.func66 (by kernel_rfl) rfl #[.agg #[.int .i64 a0_0, .int .i64 a0_1]] rfl (by (try simp only [List.map_toArray, List.map_cons, List.map_nil]); first | done | rfl | (simp only [List.length_drop, List.length_take]; rfl)) ?_; (with_reducible refine (impl_NodeCount.calls _ _ _ _ z16_.out).mono ?_); rintro e y27_ ⟨rfl, hb⟩; refine ⟨_, rfl, ?_⟩; have y3_ := Aside0.mk (Kd.R_below (by (with_reducible repeat (first | apply Kd.R_alloc | apply Kd.R_drewN | apply Kd.R_drew)); exact y20_.out) hb); have y4_ := Aside0.mk (blk_below (g := y1_) (o := .cells #[.int .i64 a0_0, .int .i64 a0_1, .slice A0_2 l0_2.length c0_2] 34 (0, 0)) (by (with_reducible repeat (first | refine blk_drewN ?_ _ | refine blk_drew ?_ | refine blk_alloc ?_ _)); exact y7_.out) hb); have y5_ := Aside0.mk (below_step (by repeat (first | (with_reducible first | exact HB.out | apply below_alloc | apply pw_below_drewN | apply below_drew1 | refine below_set ?_ y9_.out) | exact HB.out)) hb); clear y20_; clear y7_; clear HB; have y20_ := y3_; have y7_ := y4_; have HB := y5_; clear y3_ y4_ y5_; (try clear hb); (try clear hb2); (try clear hk); (try clear hi); obtain ⟨y28_, y29_, y30_⟩ := Kd.R_slice y20_.out; subst y30_) | ((with_reducible refine gate_callee (f := 65) rfl ?_); refine goesL_ (some 19) rfl rfl Try.func65 (by kernel_rfl) rfl #[.slice y28_ z10_.length y29_, .int .i64 z14_] rfl (by (try simp only [List.map_toArray, List.map_cons, List.map_nil]); first | done | rfl | (simp only [List.length_drop, List.length_take]; rfl)) ?_; (with_reducible refine (slices_Repeat_int_int.calls _ _ _ _ _ _ ?side1 ?side2 z19_.out).mono ?_); (case side1 => repeat (first | exact (Kd.R_reads' y20_.out).2.2 | (with_reducible refine Kd.C_alloc ?_ _) | (with_reducible refine Kd.C_drewN ?_ _) | (with_reducible refine Kd.C_drew ?_))); (case side2 => exact (Kd.R_reads' y20_.out).2.1); rintro e y31_ ⟨y32_, rfl, y33_, hb⟩; refine ⟨_, rfl, ?_⟩; have y3_ := Aside0.mk (Kd.R_elder' (by (with_reducible repeat (first | apply Kd.R_alloc | apply Kd.R_drewN | apply Kd.R_drew)); exact y20_.out) (Kd.R_base y33_) hb); have y4_ := Aside0.mk (Kd.R_lower (Kd.R_new' y33_ (Kd.R_lt (by (with_reducible repeat (first | apply Kd.R_alloc | apply Kd.R_drewN | apply Kd.R_drew)); exact y20_.out))) (below_size (by repeat (first | (with_reducible first | exact HB.out | apply below_alloc | apply pw_below_drewN | apply below_drew1 | refine below_set ?_ y9_.out) | exact HB.out)))); have y5_ := Aside0.mk (blk_below (g := y1_) (o := .cells #[.int .i64 a0_0, .int .i64 a0_1, .slice A0_2 l0_2.length c0_2] 34 (0, 0)) (by (with_reducible repeat (first | refine blk_drewN ?_ _ | refine blk_drew ?_ | refine blk_alloc ?_ _)); exact y7_.out) hb); have y6_ := Aside0.mk (below_step (by repeat (first | (with_reducible first | exact HB.out | apply below_alloc | apply pw_below_drewN | apply below_drew1 | refine below_set ?_ y9_.out) | exact HB.out)) hb); clear y20_; clear y7_; clear HB; have y20_ := y3_; have y34_ := y4_; have y7_ := y5_; have HB := y6_; clear y3_ y4_ y5_ y6_; (try clear hb); (try clear hb2); (try clear hk); (try clear hi); (try clear y33_); have y35_ : 0 ≤ (a1 : Int) := of_decide_eq_true (by first | (with_reducible assumption) | assumption); have y36_ : (a1 : Int) < ((z17_.length : Int) : Int) := of_decide_eq_true (by first | (with_reducible assumption) | assumption); obtain ⟨y37_, y38_, y39_, y40_, y41_, y42_, y43_⟩ := Kd.R_form y34_.out (by omega); (first | cases y39_ | (injection y39_ with ea_ en_ ec_; (first | subst ea_ | (injection ea_ with ea_; subst ea_)); subst ec_; clear en_)); have y44_ := Aside0.mk y40_; have y45_ := Aside0.mk y43_; clear y40_ y41_ y43_; obtain ⟨y46_, y47_⟩ := Kd.R_celln 0 y34_.out (a1 : Int) y35_ y36_; replace y35_ := eq_true y35_; replace y36_ := eq_true y36_; have n_ := Aside0.mk (Kd.R_mono (ok' := (fun k_ => some k_ ≠ (.slice y28_ z10_.length y29_ : Value).ownBlock)) y34_.out (fun k_ hk => hk.2)); clear y34_; have y34_ := n_; clear n_; obtain ⟨y48_, y49_⟩ := Kd.R_celln 0 y34_.out (a1 : Int) (of_decide_eq_true (by first | (with_reducible assumption) | assumption)) (of_decide_eq_true (by first | (with_reducible assumption) | assumption)); have y50_ := Kd.R_putg y34_.out (a1 : Int) 0) | ((with_reducible refine gate_store (t := 3) (p := 22) rfl ?_); refine store_event (t := 3) (p := 22) (v := ?vo_w20) (w1 := (y31_.setCell ⟨y37_, (a1 : Int).toNat, none⟩ (.int .i64 0))) ?hg ?ho ?hn ?hr ?_; (case ho => rfl); (case hg => rfl); (case hn => rfl); (case hr => first | (go_simp; done) | (go_simp; rfl)); intro y51_ hw; have hg : y31_.grownBy y51_ (some y37_) := (by rw [hw]; exact y50_.2); have hp_ : Kd.R (Kd.int .i64) 3 y51_ w.heap.size (fun k_ => some k_ ≠ (.slice y28_ z10_.length y29_ : Value).ownBlock) (.slice (some ⟨y37_, 0, none⟩) z17_.length y38_) z24_ := (by rw [hw, z26_.out]; exact y50_.1); clear y50_; have y3_ := Aside0.mk (blk_grown (g := y1_) (o := .cells #[.int .i64 a0_0, .int .i64 a0_1, .slice A0_2 l0_2.length c0_2] 34 (0, 0)) (by (with_reducible repeat (first | refine blk_drewN ?_ _ | refine blk_drew ?_ | refine blk_alloc ?_ _)); exact y7_.out) hg (Kd.R_ne y34_.out y7_.out (by decide))); have y4_ := Aside0.mk (Kd.R_after (v := (.slice (some ⟨y37_, 0, none⟩) z17_.length y38_)) (v1 := (.slice (some ⟨y37_, 0, none⟩) z17_.length y38_)) (ok := (fun _ => True)) (by (with_reducible repeat (first | apply Kd.R_alloc | apply Kd.R_drewN | apply Kd.R_drew)); exact y20_.out) hg (.inl rfl)); have y5_ := Aside0.mk (hp_); have y6_ := Aside0.mk ((by rw [hw]; exact below_set (HB.out) y44_.out : Below w.heap.size w y51_)); clear y7_; clear y20_; clear y34_; clear HB; have y7_ := y3_; have y20_ := y4_; have y34_ := y5_; have HB := y6_; clear y3_ y4_ y5_ y6_; clear hg hw hp_) | ((with_reducible refine gate_dst (N := 24) rfl ?_); refine Kd.R_lit (Kd.int .i64) _ 3 ?hg (N := 24) ?hd (xs := ([a1] : List Int)) (inner := [.int .i64 a1]) (ok := fun _ => True) (okp := fun _ => True) ?hr ?hp (fun _ hk => hk) trivial (Below.refl _ _) (Nat.le_refl _) (by simp) ?_; (case hd => rfl); (case hg => rfl); (case hr => first | (go_simp; done) | (go_simp; rfl)); (case hp => exact (Reps.one (show Kd.M (Kd.int .i64) _ _ _ a1 [.int .i64 a1] from rfl) (Reps.none _ _))); intro y52_ y53_ y54_ hb hg_ hnew_; clear hg_ hnew_; (first | rw [← z29_.out] at y54_ | (simp only [Int.reduceToNat] at y54_; rw [← z29_.out] at y54_)); have y3_ := Aside0.mk (Kd.R_elder' (by (with_reducible repeat (first | apply Kd.R_alloc | apply Kd.R_drewN | apply Kd.R_drew)); exact y20_.out) (Kd.R_base y54_) hb); have y4_ := Aside0.mk (Kd.R_elder' (by (with_reducible repeat (first | apply Kd.R_alloc | apply Kd.R_drewN | apply Kd.R_drew)); exact y34_.out) (Kd.R_base y54_) hb); have y5_ := Aside0.mk (Kd.R_lower (Kd.R_new' (Kd.R_new' y54_ (Kd.R_lt (by (with_reducible repeat (first | apply Kd.R_alloc | apply Kd.R_drewN | apply Kd.R_drew)); exact y20_.out))) (Kd.R_lt (by (with_reducible repeat (first | apply Kd.R_alloc | apply Kd.R_drewN | apply Kd.R_drew)); exact y34_.out))) (below_size (by repeat (first | (with_reducible first | exact HB.out | apply below_alloc | apply pw_below_drewN | apply below_drew1 | refine below_set ?_ y9_.out) | exact HB.out)))); have y6_ := Aside0.mk (blk_below (g := y1_) (o := .cells #[.int .i64 a0_0, .int .i64 a0_1, .slice A0_2 l0_2.length c0_2] 34 (0, 0)) (by (with_reducible repeat (first | refine blk_drewN ?_ _ | refine blk_drew ?_ | refine blk_alloc ?_ _)); exact y7_.out) hb); have y55_ := Aside0.mk (below_step (by repeat (first | (with_reducible first | exact HB.out | apply below_alloc | apply pw_below_drewN | apply below_drew1 | refine below_set ?_ y9_.out) | exact HB.out)) hb); clear y20_; clear y34_; clear y7_; clear HB; have y20_ := y3_; have y34_ := y4_; have y56_ := y5_; have y7_ := y6_; have HB := y55_; clear y3_ y4_ y5_ y6_ y55_; clear hb y54_))
       go_loopg [6, 7] k (fun kq v6 v7 w' => ∃ (x5_1 : List Int) (x6_1 : List Int) (x7_1 : Int), v7 = .int .i64 x7_1 ∧ Aside0 (impl_TreeDepths.l0 kq x5_1 x6_1 x7_1 a0_0 a0_1 l0_2 = some r) ∧ Aside0 (kq ≤ k) ∧ Aside0 (Kd.R (Kd.int .i64) 3 w' w.heap.size (fun k_ => some k_ ≠ (v6 : Value).ownBlock) (.slice (some ⟨y37_, 0, none⟩) z17_.length y38_) x5_1) ∧ Aside0 (Kd.R (Kd.int .i64) 3 w' w.heap.size (fun k_ => some k_ ≠ ((.slice (some ⟨y37_, 0, none⟩) z17_.length y38_) : Value).ownBlock) v6 x6_1) ∧ Aside0 (w'.heap[y1_]? = some (.cells #[.int .i64 a0_0, .int .i64 a0_1, (.slice A0_2 l0_2.length c0_2)] 34 (0, 0))) ∧ Aside0 (Below w.heap.size w w'))
       case atStart => exact ⟨(z24_), (z27_), (0), (by first | rfl | (simp; done) | (simp [*]; done)), H', ⟨Nat.le_refl _⟩, ⟨by (with_reducible repeat (first | apply Kd.R_alloc | apply Kd.R_drewN | apply Kd.R_drew)); exact Kd.R_mono y34_.out (fun _ hk => hk.2)⟩, ⟨by (with_reducible repeat (first | apply Kd.R_alloc | apply Kd.R_drewN | apply Kd.R_drew)); exact Kd.R_mono y56_.out (fun _ hk => hk.2)⟩, ⟨by (with_reducible repeat (first | refine blk_drewN ?_ _ | refine blk_drew ?_ | refine blk_alloc ?_ _)); exact y7_.out⟩, ⟨by repeat (first | (with_reducible first | exact HB.out | apply below_alloc | apply pw_below_drewN | apply below_drew1 | refine below_set ?_ y9_.out) | exact HB.out)⟩⟩
       case round =>
         clear H'
         try clear c2
         try clear p2
         try clear z8_
         try clear c6
         try clear z20_
         try clear z21_
         try clear z22_
         try clear z23_
         try clear y35_
         try clear y36_
         try clear hx9
         try clear hf9
         try clear y10_
         try clear y11_
         try clear y12_
         try clear y21_
         try clear y22_
         try clear y23_
         try clear y13_
         try clear y14_
         try clear y15_
         try clear y24_
         try clear y25_
         try clear y26_
         try clear y46_
         try clear y35_
         try clear y36_
         obtain ⟨y57_, y58_, y59_, rfl, HA, y60_, y61_, y62_, y7_, HB⟩ := hrel
         have y63_ := (Kd.R_reads' y61_.out).1
         rw [y63_] at y61_
         (try simp only [y63_])
         (try simp only [y63_] at y7_)
         (try simp only [y63_] at y62_)
         cases gk with
         | zero => exact absurd HA.out (by simp [impl_TreeDepths.l0])
         | succ y64_ =>
           have H := HA.out
           clear HA
           simp only [impl_TreeDepths.l0] at H
           by_cases y65_ : y59_ < (y58_.length : Int)
           · rw [if_pos y65_] at H
             have y66_ : decide (y59_ < (y58_.length : Int)) = true := decide_eq_true y65_
             clear y65_
             by_cases y67_ : 0 ≤ y59_
             · rw [if_pos y67_] at H
               have y68_ : decide (0 ≤ y59_) = true := decide_eq_true y67_
               clear y67_
               have H' := Aside0.mk H
               clear H
               obtain ⟨x1_, x2_, x3_⟩ := Kd.R_slice y62_.out
               subst x3_
               have x4_ : 0 ≤ (y59_ : Int) := of_decide_eq_true (by first | (with_reducible assumption) | assumption)
               have x5_ : y59_ < (y58_.length : Int) := of_decide_eq_true (by first | (with_reducible assumption) | assumption)
               obtain ⟨x6_, x7_, x8_⟩ := Kd.at_int (Kd.R_reads' y62_.out).2.2 y59_ x4_ x5_
               cases x7_
               replace x4_ := eq_true x4_
               replace x5_ := eq_true x5_
               go_wp2
               go_loopg [6, 9] y64_ (fun kq v6 v9 w' => ∃ (x5_2 : List Int) (x6_2 : List Int) (x9_2 : Int), v9 = .int .i64 x9_2 ∧ Aside0 (impl_TreeDepths.l1 kq x5_2 x6_2 y59_ (rd y58_ y59_) x9_2 a0_0 a0_1 l0_2 = some r) ∧ Aside0 (kq ≤ y64_) ∧ Aside0 (Kd.R (Kd.int .i64) 3 w' w.heap.size (fun k_ => some k_ ≠ (v6 : Value).ownBlock) (.slice (some ⟨y37_, 0, none⟩) y57_.length y38_) x5_2) ∧ Aside0 (Kd.R (Kd.int .i64) 3 w' w.heap.size (fun k_ => some k_ ≠ ((.slice (some ⟨y37_, 0, none⟩) y57_.length y38_) : Value).ownBlock) v6 x6_2) ∧ Aside0 (w'.heap[y1_]? = some (.cells #[.int .i64 a0_0, .int .i64 a0_1, (.slice A0_2 l0_2.length c0_2)] 34 (0, 0))) ∧ Aside0 (Below w.heap.size w w'))
               case atStart => exact ⟨(y57_), (y58_), (0), (by first | rfl | (simp; done) | (simp [*]; done)), H', ⟨Nat.le_refl _⟩, ⟨by (try simp only [y63_]); (with_reducible repeat (first | apply Kd.R_alloc | apply Kd.R_drewN | apply Kd.R_drew)); exact y61_.out⟩, ⟨by (try simp only [y63_]); (with_reducible repeat (first | apply Kd.R_alloc | apply Kd.R_drewN | apply Kd.R_drew)); exact y62_.out⟩, ⟨by (try simp only [y63_]); (with_reducible repeat (first | refine blk_drewN ?_ _ | refine blk_drew ?_ | refine blk_alloc ?_ _)); exact y7_.out⟩, ⟨by repeat (first | (with_reducible first | exact HB.out | apply below_alloc | apply pw_below_drewN | apply below_drew1 | refine below_set ?_ y9_.out) | exact HB.out)⟩⟩
               case round =>
                 clear H'
                 try clear p1
                 try clear q1
                 try clear hx1
                 try clear c2
                 try clear p2
                 try clear z8_
                 try clear c6
                 try clear z20_
                 try clear z21_
                 try clear z22_
                 try clear z23_
                 try clear y35_
                 try clear y36_
                 try clear hx9
                 try clear hf9
                 try clear p11
                 try clear q11
                 try clear hx11
                 try clear y65_
                 try clear y66_
                 try clear y67_
                 try clear y68_
                 try clear y10_
                 try clear y11_
                 try clear y12_
                 try clear y21_
                 try clear y22_
                 try clear y23_
                 try clear y13_
                 try clear y14_
                 try clear y15_
                 try clear y24_
                 try clear y25_
                 try clear y26_
                 try clear x8_
                 try clear y46_
                 try clear x4_
                 try clear p2
                 try clear y35_
                 try clear x5_
                 try clear y36_
                 obtain ⟨x9_, x10_, x11_, rfl, HA, x12_, y61_, y62_, y7_, HB⟩ := hrel
                 have x13_ := (Kd.R_reads' y61_.out).1
                 rw [x13_] at y61_
                 (try simp only [x13_])
                 (try simp only [x13_] at y7_)
                 (try simp only [x13_] at y62_)
                 cases gk with
                 | zero => exact absurd HA.out (by simp [impl_TreeDepths.l1])
                 | succ x14_ =>
                   have H := HA.out
                   clear HA
                   simp only [impl_TreeDepths.l1] at H
                   by_cases x15_ : x11_ ≤ 3
                   focus
                     rw [if_pos x15_] at H
                     have x16_ : decide (x11_ ≤ 3) = true := decide_eq_true x15_
                     clear x15_
                     replace H := Option.bind_eq_some_iff.mp H
                     obtain ⟨x17_, x18_, H⟩ := H
                     replace H : (if x17_ = true then ((impl_endOf.f a0_0 a0_1 l0_2 (wrap64 ((wrap64 (4 * (rd y58_ y59_))) + x11_))).bind fun t116 => (if 0 ≤ t116 then (if t116 < (x9_.length : Int) then (if (rd x9_ t116) < 0 then (if 0 ≤ (rd y58_ y59_) then (if (rd y58_ y59_) < (x9_.length : Int) then (if x10_.length < 17592186044416 then (impl_TreeDepths.l1 x14_ (x9_.set (t116 : Int).toNat (wrap64 ((rd x9_ (rd y58_ y59_)) + 1))) (x10_ ++ [t116]) y59_ (rd y58_ y59_) (wrap64 (x11_ + 1)) a0_0 a0_1 l0_2) else (none)) else (none)) else (none)) else (impl_TreeDepths.l1 x14_ x9_ x10_ y59_ (rd y58_ y59_) (wrap64 (x11_ + 1)) a0_0 a0_1 l0_2)) else (none)) else (none))) else (impl_TreeDepths.l1 x14_ x9_ x10_ y59_ (rd y58_ y59_) (wrap64 (x11_ + 1)) a0_0 a0_1 l0_2)) = some r := H
                     have x19_ := Aside0.mk x18_
                     clear x18_
                     by_cases x20_ : x17_ = true
                     focus
                       subst x20_
                       have z9_ : ((impl_endOf.f a0_0 a0_1 l0_2 (wrap64 ((wrap64 (4 * (rd y58_ y59_))) + x11_))).bind fun t116 => (if 0 ≤ t116 then (if t116 < (x9_.length : Int) then (if (rd x9_ t116) < 0 then (if 0 ≤ (rd y58_ y59_) then (if (rd y58_ y59_) < (x9_.length : Int) then (if x10_.length < 17592186044416 then (impl_TreeDepths.l1 x14_ (x9_.set (t116 : Int).toNat (wrap64 ((rd x9_ (rd y58_ y59_)) + 1))) (x10_ ++ [t116]) y59_ (rd y58_ y59_) (wrap64 (x11_ + 1)) a0_0 a0_1 l0_2) else (none)) else (none)) else (none)) else (impl_TreeDepths.l1 x14_ x9_ x10_ y59_ (rd y58_ y59_) (wrap64 (x11_ + 1)) a0_0 a0_1 l0_2)) else (none)) else (none))) = some r := by rw [if_pos rfl] at H; exact H
                       clear H
                       have H := z9_
                       clear z9_
                       replace H := Option.bind_eq_some_iff.mp H
                       obtain ⟨x21_, x22_, H⟩ := H
                       replace H : (if 0 ≤ x21_ then (if x21_ < (x9_.length : Int) then (if (rd x9_ x21_) < 0 then (if 0 ≤ (rd y58_ y59_) then (if (rd y58_ y59_) < (x9_.length : Int) then (if x10_.length < 17592186044416 then (impl_TreeDepths.l1 x14_ (x9_.set (x21_ : Int).toNat (wrap64 ((rd x9_ (rd y58_ y59_)) + 1))) (x10_ ++ [x21_]) y59_ (rd y58_ y59_) (wrap64 (x11_ + 1)) a0_0 a0_1 l0_2) else (none)) else (none)) else (none)) else (impl_TreeDepths.l1 x14_ x9_ x10_ y59_ (rd y58_ y59_) (wrap64 (x11_ + 1)) a0_0 a0_1 l0_2)) else (none)) else (none)) = some r := H
                       have x23_ := Aside0.mk x22_
                       clear x22_
                       by_cases x24_ : 0 ≤ x21_
                       focus
                         rw [if_pos x24_] at H
                         have x25_ : decide (0 ≤ x21_) = true := decide_eq_true x24_
                         clear x24_
                         by_cases x26_ : x21_ < (x9_.length : Int)
                         focus
                           rw [if_pos x26_] at H
                           have x27_ : decide (x21_ < (x9_.length : Int)) = true := decide_eq_true x26_
                           clear x26_
                           by_cases x28_ : (rd x9_ x21_) < 0
                           focus
                             rw [if_pos x28_] at H
                             have x29_ : decide ((rd x9_ x21_) < 0) = true := decide_eq_true x28_
                             clear x28_
                             by_cases x30_ : 0 ≤ (rd y58_ y59_)
                             focus
                               rw [if_pos x30_] at H
                               have x31_ : decide (0 ≤ (rd y58_ y59_)) = true := decide_eq_true x30_
                               clear x30_
                               by_cases x32_ : (rd y58_ y59_) < (x9_.length : Int)
                               focus
                                 rw [if_pos x32_] at H
                                 have x33_ : decide ((rd y58_ y59_) < (x9_.length : Int)) = true := decide_eq_true x32_
                                 clear x32_
                                 obtain ⟨x34_, x35_⟩ : ∃ y_ : List Int, y_ = (x9_.set (x21_ : Int).toNat (wrap64 ((rd x9_ (rd y58_ y59_)) + 1))) := ⟨_, rfl⟩
                                 replace H : (if x10_.length < 17592186044416 then (impl_TreeDepths.l1 x14_ x34_ (x10_ ++ [x21_]) y59_ (rd y58_ y59_) (wrap64 (x11_ + 1)) a0_0 a0_1 l0_2) else (none)) = some r := by first | (rw [x35_]; with_reducible exact H) | (have z12_ := (Option.bind_some _ _).symm.trans H; rw [x35_]; with_reducible exact z12_) | (have z12_ := (Option.bind_some _ _).symm.trans H; with_reducible exact z12_) | with_reducible exact H | (rw [x35_]; exact H) | exact H
                                 have x36_ := Aside0.mk x35_
                                 clear x35_
                                 by_cases x37_ : x10_.length < 17592186044416
                                 focus
                                   rw [if_pos x37_] at H
                                   have x38_ := Aside0.mk x37_
                                   clear x37_
                                   obtain ⟨x39_, x40_⟩ : ∃ y_ : List Int, y_ = (x10_ ++ [x21_]) := ⟨_, rfl⟩
                                   replace H : (impl_TreeDepths.l1 x14_ x34_ x39_ y59_ (rd y58_ y59_) (wrap64 (x11_ + 1)) a0_0 a0_1 l0_2) = some r := by first | (rw [x40_]; with_reducible exact H) | (have z12_ := (Option.bind_some _ _).symm.trans H; rw [x40_]; with_reducible exact z12_) | (have z12_ := (Option.bind_some _ _).symm.trans H; with_reducible exact z12_) | with_reducible exact H | (rw [x40_]; exact H) | exact H
                                   have x41_ := Aside0.mk x40_
                                   clear x40_
                                   have H' := Aside0.mk H
                                   clear H
                                 rotate_left
                                 · rw [if_neg x37_] at H
                                   exact absurd H (by simp)
                               rotate_left
                               · rw [if_neg x32_] at H
                                 exact absurd H (by simp)
                             rotate_left
                             · rw [if_neg x30_] at H
                               exact absurd H (by simp)
                           rotate_left
                           focus
                             rw [if_neg x28_] at H
                             have x29_ : decide ((rd x9_ x21_) < 0) = false := decide_eq_false x28_
                             clear x28_
                             have H' := Aside0.mk H
                             clear H
                         rotate_left 2
                         · rw [if_neg x26_] at H
                           exact absurd H (by simp)
                       rotate_left 2
                       · rw [if_neg x24_] at H
                         exact absurd H (by simp)
                     rotate_left 2
                     focus
                       replace x20_ := Bool.eq_false_iff.mpr x20_
                       subst x20_
                       have z9_ : (impl_TreeDepths.l1 x14_ x9_ x10_ y59_ (rd y58_ y59_) (wrap64 (x11_ + 1)) a0_0 a0_1 l0_2) = some r := by rw [if_neg (show ¬ (false = true) by decide)] at H; exact H
                       clear H
                       have H := z9_
                       clear z9_
                       have H' := Aside0.mk H
                       clear H
                   rotate_left 3
                   focus
                     rw [if_neg x15_] at H
                     have x16_ : decide (x11_ ≤ 3) = false := decide_eq_false x15_
                     clear x15_
                     have H' := Aside0.mk H
                     clear H
                   all_goals first
                     | skip
                       have v1_ : wr.cell? ⟨y1_, 0, none⟩ = some (.int .i64 a0_0) := (blk_cell y7_.out 0).trans rfl
                       have v2_ : wr.cell? ⟨y1_, 1, none⟩ = some (.int .i64 a0_1) := (blk_cell y7_.out 1).trans rfl
                       have v3_ : wr.cell? ⟨y1_, 2, none⟩ = some (.slice A0_2 l0_2.length c0_2) := (blk_cell y7_.out 2).trans rfl
                       have v4_ := blk_frozen y7_.out 0
                       have v5_ := blk_frozen y7_.out 1
                       have v6_ := blk_frozen y7_.out 2
                       go_wp2_with (first | ((with_reducible refine gate_callee (f := 67) rfl ?_); refine goesL_ (some 44) rfl rfl Try.func67 (by kernel_rfl) rfl #[.agg #[.int .i64 a0_0, .int .i64 a0_1, .slice A0_2 l0_2.length c0_2], .int .i64 (wrap64 ((wrap64 (4 * (rd y58_ y59_))) + x11_))] rfl (by (try simp only [List.map_toArray, List.map_cons, List.map_nil]); first | done | rfl | (simp only [List.length_drop, List.length_take]; rfl)) ?_; (with_reducible refine (impl_IsLink.calls _ _ _ _ _ _ _ _ _ ?side1 ?side2 x19_.out).mono ?_); (case side1 => repeat (first | exact (Kd.C_below z3_.out HB.out) | (with_reducible refine Kd.C_alloc ?_ _) | (with_reducible refine Kd.C_drewN ?_ _) | (with_reducible refine Kd.C_drew ?_))); (case side2 => exact z4_.out); rintro e v7_ ⟨rfl, hb⟩; refine ⟨_, rfl, ?_⟩; have y3_ := Aside0.mk (Kd.R_below (by (with_reducible repeat (first | apply Kd.R_alloc | apply Kd.R_drewN | apply Kd.R_drew)); exact y61_.out) hb); have y4_ := Aside0.mk (Kd.R_below (by (with_reducible repeat (first | apply Kd.R_alloc | apply Kd.R_drewN | apply Kd.R_drew)); exact y62_.out) hb); have y5_ := Aside0.mk (blk_below (g := y1_) (o := .cells #[.int .i64 a0_0, .int .i64 a0_1, .slice A0_2 l0_2.length c0_2] 34 (0, 0)) (by (with_reducible repeat (first | refine blk_drewN ?_ _ | refine blk_drew ?_ | refine blk_alloc ?_ _)); exact y7_.out) hb); have y6_ := Aside0.mk (below_step (by repeat (first | (with_reducible first | exact HB.out | apply below_alloc | apply pw_below_drewN | apply below_drew1 | refine below_set ?_ y9_.out) | exact HB.out)) hb); clear y61_; clear y62_; clear y7_; clear HB; have y61_ := y3_; have y62_ := y4_; have y7_ := y5_; have HB := y6_; clear y3_ y4_ y5_ y6_; (try clear hb); (try clear hb2); (try clear hk); (try clear hi); have v8_ : v7_.cell? ⟨y1_, 0, none⟩ = some (.int .i64 a0_0) := (blk_cell y7_.out 0).trans rfl; have v9_ : v7_.cell? ⟨y1_, 1, none⟩ = some (.int .i64 a0_1) := (blk_cell y7_.out 1).trans rfl; have v10_ : v7_.cell? ⟨y1_, 2, none⟩ = some (.slice A0_2 l0_2.length c0_2) := (blk_cell y7_.out 2).trans rfl; have v11_ := blk_frozen y7_.out 0; have v12_ := blk_frozen y7_.out 1; have v13_ := blk_frozen y7_.out 2) | ((with_reducible refine gate_callee (f := 68) rfl ?_); refine goesL_ (some 51) rfl rfl Try.func68 (by kernel_rfl) rfl #[.agg #[.int .i64 a0_0, .int .i64 a0_1, .slice A0_2 l0_2.length c0_2], .int .i64 (wrap64 ((wrap64 (4 * (rd y58_ y59_))) + x11_))] rfl (by (try simp only [List.map_toArray, List.map_cons, List.map_nil]); first | done | rfl | (simp only [List.length_drop, List.length_take]; rfl)) ?_; (with_reducible refine (impl_endOf.calls _ _ _ _ _ _ _ _ ?side1 ?side2 x23_.out).mono ?_); (case side1 => repeat (first | exact (Kd.C_below z3_.out HB.out) | (with_reducible refine Kd.C_alloc ?_ _) | (with_reducible refine Kd.C_drewN ?_ _) | (with_reducible refine Kd.C_drew ?_))); (case side2 => exact z4_.out); rintro e v14_ ⟨rfl, hb⟩; refine ⟨_, rfl, ?_⟩; have y3_ := Aside0.mk (Kd.R_below (by (with_reducible repeat (first | apply Kd.R_alloc | apply Kd.R_drewN | apply Kd.R_drew)); exact y61_.out) hb); have y4_ := Aside0.mk (Kd.R_below (by (with_reducible repeat (first | apply Kd.R_alloc | apply Kd.R_drewN | apply Kd.R_drew)); exact y62_.out) hb); have y5_ := Aside0.mk (blk_below (g := y1_) (o := .cells #[.int .i64 a0_0, .int .i64 a0_1, .slice A0_2 l0_2.length c0_2] 34 (0, 0)) (by (with_reducible repeat (first | refine blk_drewN ?_ _ | refine blk_drew ?_ | refine blk_alloc ?_ _)); exact y7_.out) hb); have y6_ := Aside0.mk (below_step (by repeat (first | (with_reducible first | exact HB.out | apply below_alloc | apply pw_below_drewN | apply below_drew1 | refine below_set ?_ y9_.out) | exact HB.out)) hb); clear y61_; clear y62_; clear y7_; clear HB; have y61_ := y3_; have y62_ := y4_; have y7_ := y5_; have HB := y6_; clear y3_ y4_ y5_ y6_; (try clear hb); (try clear hb2); (try clear hk); (try clear hi); have v15_ : 0 ≤ (x21_ : Int) := of_decide_eq_true (by first | (with_reducible assumption) | assumption); have v16_ : x21_ < (x9_.length : Int) := of_decide_eq_true (by first | (with_reducible assumption) | assumption); obtain ⟨v17_, v18_, v19_⟩ := Kd.at_int (Kd.R_reads' y61_.out).2.2 x21_ v15_ v16_; obtain rfl : (⟨y37_, 0, none⟩ : Addr) = v17_ := (by injection v18_); (first | simp only [add_plain] at v19_ | simp only [add_at] at v19_ | simp only [Addr.add, Nat.zero_add] at v19_ | skip); replace v15_ := eq_true v15_; replace v16_ := eq_true v16_; have v20_ : 0 ≤ ((rd y58_ y59_) : Int) := of_decide_eq_true (by first | (with_reducible assumption) | assumption); have v21_ : (rd y58_ y59_) < (x9_.length : Int) := of_decide_eq_true (by first | (with_reducible assumption) | assumption); obtain ⟨v22_, v23_, v24_⟩ := Kd.at_int (Kd.R_reads' y61_.out).2.2 (rd y58_ y59_) v20_ v21_; obtain rfl : (⟨y37_, 0, none⟩ : Addr) = v22_ := (by injection v23_); (first | simp only [add_plain] at v24_ | simp only [add_at] at v24_ | simp only [Addr.add, Nat.zero_add] at v24_ | skip); replace v20_ := eq_true v20_; replace v21_ := eq_true v21_; have v25_ : 0 ≤ (x21_ : Int) := of_decide_eq_true (by first | (with_reducible assumption) | assumption); have v26_ : (x21_ : Int) < ((x9_.length : Int) : Int) := of_decide_eq_true (by first | (with_reducible assumption) | assumption); obtain ⟨v27_, v28_⟩ := Kd.R_celln 0 y61_.out (x21_ : Int) v25_ v26_; replace v25_ := eq_true v25_; replace v26_ := eq_true v26_; obtain ⟨v29_, v30_⟩ := Kd.R_celln 0 y61_.out (x21_ : Int) (of_decide_eq_true (by first | (with_reducible assumption) | assumption)) (of_decide_eq_true (by first | (with_reducible assumption) | assumption)); have v31_ := Kd.R_putg y61_.out (x21_ : Int) (wrap64 ((rd x9_ (rd y58_ y59_)) + 1))) | ((with_reducible refine gate_store (t := 3) (p := 64) rfl ?_); refine store_event (t := 3) (p := 64) (v := ?vo_w42) (w1 := (v14_.setCell ⟨y37_, (x21_ : Int).toNat, none⟩ (.int .i64 (wrap64 ((rd x9_ (rd y58_ y59_)) + 1))))) ?hg ?ho ?hn ?hr ?_; (case ho => rfl); (case hg => rfl); (case hn => rfl); (case hr => first | (go_simp; done) | (go_simp; rfl)); intro v32_ hw; have hg : v14_.grownBy v32_ (some y37_) := (by rw [hw]; exact v31_.2); have hp_ : Kd.R (Kd.int .i64) 3 v32_ w.heap.size (fun k_ => some k_ ≠ (u6 : Value).ownBlock) (.slice (some ⟨y37_, 0, none⟩) x9_.length y38_) x34_ := (by rw [hw, x36_.out]; exact v31_.1); clear v31_; have y3_ := Aside0.mk (hp_); have y4_ := Aside0.mk (Kd.R_after (v := (.slice (some ⟨y37_, 0, none⟩) x9_.length y38_)) (v1 := (.slice (some ⟨y37_, 0, none⟩) x9_.length y38_)) (ok := (fun _ => True)) (by (with_reducible repeat (first | apply Kd.R_alloc | apply Kd.R_drewN | apply Kd.R_drew)); exact Kd.R_mono y62_.out (fun _ hk => ⟨trivial, hk⟩)) hg (.inl rfl)); have y5_ := Aside0.mk (blk_grown (g := y1_) (o := .cells #[.int .i64 a0_0, .int .i64 a0_1, .slice A0_2 l0_2.length c0_2] 34 (0, 0)) (by (with_reducible repeat (first | refine blk_drewN ?_ _ | refine blk_drew ?_ | refine blk_alloc ?_ _)); exact y7_.out) hg (Kd.R_ne y61_.out y7_.out (by decide))); have y6_ := Aside0.mk ((by rw [hw]; exact below_set (HB.out) y44_.out : Below w.heap.size w v32_)); clear y61_; clear y62_; clear y7_; clear HB; have y61_ := y3_; have y62_ := y4_; have y7_ := y5_; have HB := y6_; clear y3_ y4_ y5_ y6_; clear hg hw hp_) | ((with_reducible refine gate_builtin (b := .append) (xs := #[.tmp 65, .tmp 67]) rfl ?_); at_builtin; refine Kd.R_append (Kd.int .i64) (w0 := w) w.heap.size rfl (.tmp 65) (.tmp 67) 24 3 (.int .i64 0) 8 rfl Try.underlying24 info3 rfl (by decide) (by omega) u6 x10_ x21_ [.int .i64 x21_] (fun k_ => some k_ ≠ (.slice (some ⟨y37_, 0, none⟩) x9_.length y38_ : Value).ownBlock) (fun _ => False) rfl rfl ?aP (fun _ hk => hk.elim) ?aF ?aO ?aB ?aS ?aL ?_; (case aP => exact rfl); (case aB => exact (by repeat (first | (with_reducible first | exact HB.out | apply below_alloc | apply pw_below_drewN | apply below_drew1 | refine below_set ?_ y9_.out) | exact HB.out))); (case aF => exact (fun k_ hk => Kd.fresh' (Kd.R_lt (by (with_reducible repeat (first | apply Kd.R_alloc | apply Kd.R_drewN | apply Kd.R_drew)); exact y61_.out)) k_ hk)); (case aO => exact (by (with_reducible repeat (first | apply Kd.R_alloc | apply Kd.R_drewN | apply Kd.R_drew)); exact Kd.R_mono y62_.out (fun _ hk => hk.2))); (case aS => exact (below_size (by repeat (first | (with_reducible first | exact HB.out | apply below_alloc | apply pw_below_drewN | apply below_drew1 | refine below_set ?_ y9_.out) | exact HB.out)))); (case aL => have := x38_.out; omega); intro v33_ v34_ ho hb hg hat; rw [← x41_.out] at ho; have y3_ := Aside0.mk (Kd.R_after (ok := (fun _ => True)) (by (with_reducible repeat (first | apply Kd.R_alloc | apply Kd.R_drewN | apply Kd.R_drew)); exact Kd.R_mono y61_.out (fun _ hk => ⟨trivial, hk⟩)) hg hat); have y4_ := Aside0.mk (blk_grown (g := y1_) (o := .cells #[.int .i64 a0_0, .int .i64 a0_1, .slice A0_2 l0_2.length c0_2] 34 (0, 0)) (by (with_reducible repeat (first | refine blk_drewN ?_ _ | refine blk_drew ?_ | refine blk_alloc ?_ _)); exact y7_.out) hg (Kd.R_ne y62_.out y7_.out (by decide))); have y5_ := Aside0.mk (hb); have y6_ := Aside0.mk (ho); clear y61_; clear y7_; clear HB; clear y62_; have y61_ := y3_; have y7_ := y4_; have HB := y5_; have v35_ := y6_; clear y3_ y4_ y5_ y6_; clear ho hb hg hat) | ((with_reducible refine gate_callee (f := 68) rfl ?_); refine goesL_ (some 51) rfl rfl Try.func68 (by kernel_rfl) rfl #[.agg #[.int .i64 a0_0, .int .i64 a0_1, .slice A0_2 l0_2.length c0_2], .int .i64 (wrap64 ((wrap64 (4 * (rd y58_ y59_))) + x11_))] rfl (by (try simp only [List.map_toArray, List.map_cons, List.map_nil]); first | done | rfl | (simp only [List.length_drop, List.length_take]; rfl)) ?_; (with_reducible refine (impl_endOf.calls _ _ _ _ _ _ _ _ ?side1 ?side2 x23_.out).mono ?_); (case side1 => repeat (first | exact (Kd.C_below z3_.out HB.out) | (with_reducible refine Kd.C_alloc ?_ _) | (with_reducible refine Kd.C_drewN ?_ _) | (with_reducible refine Kd.C_drew ?_))); (case side2 => exact z4_.out); rintro e v14_ ⟨rfl, hb⟩; refine ⟨_, rfl, ?_⟩; have y3_ := Aside0.mk (Kd.R_below (by (with_reducible repeat (first | apply Kd.R_alloc | apply Kd.R_drewN | apply Kd.R_drew)); exact y61_.out) hb); have y4_ := Aside0.mk (Kd.R_below (by (with_reducible repeat (first | apply Kd.R_alloc | apply Kd.R_drewN | apply Kd.R_drew)); exact y62_.out) hb); have y5_ := Aside0.mk (blk_below (g := y1_) (o := .cells #[.int .i64 a0_0, .int .i64 a0_1, .slice A0_2 l0_2.length c0_2] 34 (0, 0)) (by (with_reducible repeat (first | refine blk_drewN ?_ _ | refine blk_drew ?_ | refine blk_alloc ?_ _)); exact y7_.out) hb); have y6_ := Aside0.mk (below_step (by repeat (first | (with_reducible first | exact HB.out | apply below_alloc | apply pw_below_drewN | apply below_drew1 | refine below_set ?_ y9_.out) | exact HB.out)) hb); clear y61_; clear y62_; clear y7_; clear HB; have y61_ := y3_; have y62_ := y4_; have y7_ := y5_; have HB := y6_; clear y3_ y4_ y5_ y6_; (try clear hb); (try clear hb2); (try clear hk); (try clear hi); have v15_ : 0 ≤ (x21_ : Int) := of_decide_eq_true (by first | (with_reducible assumption) | assumption); have v16_ : x21_ < (x9_.length : Int) := of_decide_eq_true (by first | (with_reducible assumption) | assumption); obtain ⟨v17_, v18_, v19_⟩ := Kd.at_int (Kd.R_reads' y61_.out).2.2 x21_ v15_ v16_; obtain rfl : (⟨y37_, 0, none⟩ : Addr) = v17_ := (by injection v18_); (first | simp only [add_plain] at v19_ | simp only [add_at] at v19_ | simp only [Addr.add, Nat.zero_add] at v19_ | skip); replace v15_ := eq_true v15_; replace v16_ := eq_true v16_))
                       (try simp only [← x13_])
                       first
                         | skip
                           go_roundg x14_
                           case measure => have := y60_.out; have := x12_.out; omega
                           case rel => exact ⟨(x34_), (x39_), (wrap64 (x11_ + 1)), (by first | rfl | (simp; done) | (simp [*]; done)), H', ⟨by have := y60_.out; have := x12_.out; omega⟩, ⟨by (try simp only [y63_]); (try simp only [x13_]); (with_reducible repeat (first | apply Kd.R_alloc | apply Kd.R_drewN | apply Kd.R_drew)); exact Kd.R_mono y61_.out (fun _ hk => hk.2)⟩, ⟨by (try simp only [y63_]); (try simp only [x13_]); (with_reducible repeat (first | apply Kd.R_alloc | apply Kd.R_drewN | apply Kd.R_drew)); exact v35_.out⟩, ⟨by (try simp only [y63_]); (try simp only [x13_]); (with_reducible repeat (first | refine blk_drewN ?_ _ | refine blk_drew ?_ | refine blk_alloc ?_ _)); exact y7_.out⟩, ⟨by repeat (first | (with_reducible first | exact HB.out | apply below_alloc | apply pw_below_drewN | apply below_drew1 | refine below_set ?_ y9_.out) | exact HB.out)⟩⟩
                         | skip
                           go_roundg x14_
                           case measure => have := y60_.out; have := x12_.out; omega
                           case rel => exact ⟨(x9_), (x10_), (wrap64 (x11_ + 1)), (by first | rfl | (simp; done) | (simp [*]; done)), H', ⟨by have := y60_.out; have := x12_.out; omega⟩, ⟨by (try simp only [y63_]); (try simp only [x13_]); (with_reducible repeat (first | apply Kd.R_alloc | apply Kd.R_drewN | apply Kd.R_drew)); exact y61_.out⟩, ⟨by (try simp only [y63_]); (try simp only [x13_]); (with_reducible repeat (first | apply Kd.R_alloc | apply Kd.R_drewN | apply Kd.R_drew)); exact y62_.out⟩, ⟨by (try simp only [y63_]); (try simp only [x13_]); (with_reducible repeat (first | refine blk_drewN ?_ _ | refine blk_drew ?_ | refine blk_alloc ?_ _)); exact y7_.out⟩, ⟨by repeat (first | (with_reducible first | exact HB.out | apply below_alloc | apply pw_below_drewN | apply below_drew1 | refine below_set ?_ y9_.out) | exact HB.out)⟩⟩
                     | skip
                       have v1_ : wr.cell? ⟨y1_, 0, none⟩ = some (.int .i64 a0_0) := (blk_cell y7_.out 0).trans rfl
                       have v2_ : wr.cell? ⟨y1_, 1, none⟩ = some (.int .i64 a0_1) := (blk_cell y7_.out 1).trans rfl
                       have v3_ : wr.cell? ⟨y1_, 2, none⟩ = some (.slice A0_2 l0_2.length c0_2) := (blk_cell y7_.out 2).trans rfl
                       have v4_ := blk_frozen y7_.out 0
                       have v5_ := blk_frozen y7_.out 1
                       have v6_ := blk_frozen y7_.out 2
                       go_wp2_with (first | ((with_reducible refine gate_callee (f := 67) rfl ?_); refine goesL_ (some 44) rfl rfl Try.func67 (by kernel_rfl) rfl #[.agg #[.int .i64 a0_0, .int .i64 a0_1, .slice A0_2 l0_2.length c0_2], .int .i64 (wrap64 ((wrap64 (4 * (rd y58_ y59_))) + x11_))] rfl (by (try simp only [List.map_toArray, List.map_cons, List.map_nil]); first | done | rfl | (simp only [List.length_drop, List.length_take]; rfl)) ?_; (with_reducible refine (impl_IsLink.calls _ _ _ _ _ _ _ _ _ ?side1 ?side2 x19_.out).mono ?_); (case side1 => repeat (first | exact (Kd.C_below z3_.out HB.out) | (with_reducible refine Kd.C_alloc ?_ _) | (with_reducible refine Kd.C_drewN ?_ _) | (with_reducible refine Kd.C_drew ?_))); (case side2 => exact z4_.out); rintro e v7_ ⟨rfl, hb⟩; refine ⟨_, rfl, ?_⟩; have y3_ := Aside0.mk (Kd.R_below (by (with_reducible repeat (first | apply Kd.R_alloc | apply Kd.R_drewN | apply Kd.R_drew)); exact y61_.out) hb); have y4_ := Aside0.mk (Kd.R_below (by (with_reducible repeat (first | apply Kd.R_alloc | apply Kd.R_drewN | apply Kd.R_drew)); exact y62_.out) hb); have y5_ := Aside0.mk (blk_below (g := y1_) (o := .cells #[.int .i64 a0_0, .int .i64 a0_1, .slice A0_2 l0_2.length c0_2] 34 (0, 0)) (by (with_reducible repeat (first | refine blk_drewN ?_ _ | refine blk_drew ?_ | refine blk_alloc ?_ _)); exact y7_.out) hb); have y6_ := Aside0.mk (below_step (by repeat (first | (with_reducible first | exact HB.out | apply below_alloc | apply pw_below_drewN | apply below_drew1 | refine below_set ?_ y9_.out) | exact HB.out)) hb); clear y61_; clear y62_; clear y7_; clear HB; have y61_ := y3_; have y62_ := y4_; have y7_ := y5_; have HB := y6_; clear y3_ y4_ y5_ y6_; (try clear hb); (try clear hb2); (try clear hk); (try clear hi)))
                       (try simp only [← x13_])
                       go_roundg x14_
                       case measure => have := y60_.out; have := x12_.out; omega
                       case rel => exact ⟨(x9_), (x10_), (wrap64 (x11_ + 1)), (by first | rfl | (simp; done) | (simp [*]; done)), H', ⟨by have := y60_.out; have := x12_.out; omega⟩, ⟨by (try simp only [y63_]); (try simp only [x13_]); (with_reducible repeat (first | apply Kd.R_alloc | apply Kd.R_drewN | apply Kd.R_drew)); exact y61_.out⟩, ⟨by (try simp only [y63_]); (try simp only [x13_]); (with_reducible repeat (first | apply Kd.R_alloc | apply Kd.R_drewN | apply Kd.R_drew)); exact y62_.out⟩, ⟨by (try simp only [y63_]); (try simp only [x13_]); (with_reducible repeat (first | refine blk_drewN ?_ _ | refine blk_drew ?_ | refine blk_alloc ?_ _)); exact y7_.out⟩, ⟨by repeat (first | (with_reducible first | exact HB.out | apply below_alloc | apply pw_below_drewN | apply below_drew1 | refine below_set ?_ y9_.out) | exact HB.out)⟩⟩
                     | skip
                       go_wp2
                       (try simp only [← y63_, ← x13_])
                       go_roundg x14_
                       case measure => have := y60_.out; have := x12_.out; omega
                       case rel => exact ⟨(x9_), (x10_), (wrap64 (y59_ + 1)), (by first | rfl | (simp; done) | (simp [*]; done)), H', ⟨by have := y60_.out; have := x12_.out; omega⟩, ⟨by (try simp only [y63_]); (try simp only [x13_]); (with_reducible repeat (first | apply Kd.R_alloc | apply Kd.R_drewN | apply Kd.R_drew)); exact y61_.out⟩, ⟨by (try simp only [y63_]); (try simp only [x13_]); (with_reducible repeat (first | apply Kd.R_alloc | apply Kd.R_drewN | apply Kd.R_drew)); exact y62_.out⟩, ⟨by (try simp only [y63_]); (try simp only [x13_]); (with_reducible repeat (first | refine blk_drewN ?_ _ | refine blk_drew ?_ | refine blk_alloc ?_ _)); exact y7_.out⟩, ⟨by repeat (first | (with_reducible first | exact HB.out | apply below_alloc | apply pw_below_drewN | apply below_drew1 | refine below_set ?_ y9_.out) | exact HB.out)⟩⟩
             · rw [if_neg y67_] at H
               exact absurd H (by simp)
           · rw [if_neg y65_] at H
             have y66_ : decide (y59_ < (y58_.length : Int)) = false := decide_eq_false y65_
             clear y65_
             obtain rfl := Option.some.inj H
             obtain ⟨x1_, x2_, x3_⟩ := Kd.R_slice y62_.out
             subst x3_
             go_wp2
             go_ret
             exact ⟨_, by first | rfl | (simp [errW_none, errW_some] <;> rfl) | (simp [*, errW_none, errW_some] <;> rfl), by (with_reducible repeat (first | apply Kd.R_alloc | apply Kd.R_drewN | apply Kd.R_drew)); exact Kd.R_mono y61_.out (fun _ hk => trivial), by repeat (first | (with_reducible first | exact HB.out | apply below_alloc | apply pw_below_drewN | apply below_drew1 | refine below_set ?_ y9_.out) | exact HB.out)⟩
     · rw [if_neg z22_] at H
       exact absurd H (by simp)
   · rw [if_neg z20_] at H
     exact absurd H (by simp)
 · replace z8_ := Bool.eq_false_iff.mpr z8_
   subst z8_
   have z9_ : (some ([] : List Int)) = some r := by rw [if_neg (show ¬ (false = true) by decide)] at H; exact H
   clear H
   have H := z9_
   clear z9_
   obtain rfl := Option.some.inj H
   go_enter Try.func24, Try.ntmps24
   go_wp2_with (first | ((with_reducible refine gate_dst (N := 2) rfl ?_); refine box_event ?hg (N := 2) ?hd (cs := #[.int .i64 a0_0, .int .i64 a0_1, .slice A0_2 l0_2.length c0_2]) (t := 34) ?hr ?_; (case hd => rfl); (case hg => rfl); (case hr => first | (go_simp; done) | (go_simp; rfl)); intro y1_ hg y2_ hbox hb; have y3_ := Aside0.mk (below_step (by repeat (first | (with_reducible first | exact HB.out | apply below_alloc | apply pw_below_drewN | apply below_drew1) | exact HB.out)) hb); have y4_ := Aside0.mk (hbox); have y5_ := Aside0.mk ((by rw [hg]; exact (below_size (by repeat (first | (with_reducible first | exact HB.out | apply below_alloc | apply pw_below_drewN | apply below_drew1) | exact HB.out))) : w.heap.size ≤ y1_)); have y6_ := Aside0.mk ((by rw [hg]; exact (below_size (by repeat (first | (with_reducible first | exact HB.out | apply below_alloc | apply pw_below_drewN | apply below_drew1) | exact HB.out))) : w.heap.size ≤ y1_)); clear HB; have HB := y3_; have y7_ := y4_; have y8_ := y5_; have y9_ := y6_; clear y3_ y4_ y5_ y6_; clear hb hbox hg; have y10_ : y2_.cell? ⟨y1_, 0, none⟩ = some (.int .i64 a0_0) := (blk_cell y7_.out 0).trans rfl; have y11_ : y2_.cell? ⟨y1_, 1, none⟩ = some (.int .i64 a0_1) := (blk_cell y7_.out 1).trans rfl; have y12_ : y2_.cell? ⟨y1_, 2, none⟩ = some (.slice A0_2 l0_2.length c0_2) := (blk_cell y7_.out 2).trans rfl; have y13_ := blk_frozen y7_.out 0; have y14_ := blk_frozen y7_.out 1; have y15_ := blk_frozen y7_.out 2) | ((with_reducible refine gate_callee (f := 64) rfl ?_); refine goesL_ (some 13) rfl rfl Try.func64 (by kernel_rfl) rfl #[.agg #[.int .i64 a0_0, .int .i64 a0_1, .slice A0_2 l0_2.length c0_2], .int .i64 a1] rfl (by (try simp only [List.map_toArray, List.map_cons, List.map_nil]); first | done | rfl | (simp only [List.length_drop, List.length_take]; rfl)) ?_; (with_reducible refine (impl_isRoot.calls _ _ _ _ _ _ _ _ _ ?side1 ?side2 z7_.out).mono ?_); (case side1 => repeat (first | exact (Kd.C_below z3_.out HB.out) | (with_reducible refine Kd.C_alloc ?_ _) | (with_reducible refine Kd.C_drewN ?_ _) | (with_reducible refine Kd.C_drew ?_))); (case side2 => exact z4_.out); rintro e y16_ ⟨rfl, hb⟩; refine ⟨_, rfl, ?_⟩; have y3_ := Aside0.mk (blk_below (g := y1_) (o := .cells #[.int .i64 a0_0, .int .i64 a0_1, .slice A0_2 l0_2.length c0_2] 34 (0, 0)) (by (with_reducible repeat (first | refine blk_drewN ?_ _ | refine blk_drew ?_ | refine blk_alloc ?_ _)); exact y7_.out) hb); have y4_ := Aside0.mk (below_step (by repeat (first | (with_reducible first | exact HB.out | apply below_alloc | apply pw_below_drewN | apply below_drew1 | refine below_set ?_ y9_.out) | exact HB.out)) hb); clear y7_; clear HB; have y7_ := y3_; have HB := y4_; clear y3_ y4_; (try clear hb); (try clear hb2); (try clear hk); (try clear hi)))
   go_ret
   exact ⟨_, by first | rfl | (simp [errW_none, errW_some] <;> rfl) | (simp [*, errW_none, errW_some] <;> rfl), by first | exact Kd.R_nil _ _ _ _ _ | exact Kd.N_nil _ _ _ _ _ | exact Kd.V_nil _ _ _ _ _ | exact Kd.Q_nil _ _ _ _ _ | exact Kd.S_nil _ _ _ _ _, by repeat (first | (with_reducible first | exact HB.out | apply below_alloc | apply pw_below_drewN | apply below_drew1 | refine below_set ?_ y9_.out) | exact HB.out)⟩
end Go.Proofs.Ytkkoenbmokbglaa.F
end
