/- Parts of a proof that the law FnAncestors holds for every input: contracts of the program's functions and plain laws on what they compute. -/
import Derived.Test.YtkkoenbmokbglaaQFnAncestors12
import Derived.Test.YtkkoenbmokbglaaQFnAncestors21
import Derived.Test.YtkkoenbmokbglaaQFnAncestors15
import Derived.Test.YtkkoenbmokbglaaQFnAncestors7
import Derived.Test.YtkkoenbmokbglaaQFnAncestors13
import Derived.Test.YtkkoenbmokbglaaQFnAncestors16
import Derived.Test.YtkkoenbmokbglaaQFnAncestors17
import Derived.Test.YtkkoenbmokbglaaQFnAncestors14
import Derived.Test.YtkkoenbmokbglaaQFnAncestors19
section
namespace Go.Proofs.Ytkkoenbmokbglaa.F
open Go.RowKit Go.Proofs.YtkkoenbmokbglaaW.PrintWords Go.Proofs.YtkkoenbmokbglaaW.PrintLast Go.Proofs.YtkkoenbmokbglaaW.PrintMore
set_option linter.unusedVariables false
set_option linter.unusedSimpArgs false
def spec_DrawDamaged.f (k : Nat) (l0 : List Int) : Option (Int × Int × List Int) := (spec_l01New.f k l0).bind fun bt102 => ((spec_l33Mesh.f k bt102.1 bt102.2.1 bt102.2.2).bind fun bt106 => (some (bt106.1, bt106.2.1, bt106.2.2.1)))
set_option maxHeartbeats 8000000 in
set_option maxRecDepth 100000 in
theorem spec_DrawDamaged.calls (k : Nat) (A0 : Option Addr) (c0 : Nat) (l0 : List Int) (r1 : Int) (r2 : Int) (r3 : List Int) (w : World) (hr0 : Kd.C (Kd.int .u8) w A0 l0.length l0) (hc0 : l0.length ≤ c0) (h : spec_DrawDamaged.f k l0 = some (r1, r2, r3)) :
    Calls Try.prog 42 #[.slice A0 l0.length c0] w fun e w' => ∃ v2_ : Value, e = .returned (.agg #[.int .i64 r1, .int .i64 r2, v2_]) ∧ Kd.R (Kd.int .i64) 3 w' w.heap.size (fun _ => True) v2_ r3 ∧ Below w.heap.size w w' := by
  have hu34 := Try.underlying34
  have HR0 := Aside0.mk hr0
  have HC0 := Aside0.mk hc0
  clear hr0 hc0
  have HB := Aside0.mk (Below.refl w.heap.size w)
  have H : ((spec_l01New.f k l0).bind fun bt102 => ((spec_l33Mesh.f k bt102.1 bt102.2.1 bt102.2.2).bind fun bt106 => (some (bt106.1, bt106.2.1, bt106.2.2.1)))) = some (r1, r2, r3) := h
  clear h
  replace H := Option.bind_eq_some_iff.mp H
  obtain ⟨⟨t102, t103, t104⟩, A20, H⟩ := H
  replace H : ((spec_l33Mesh.f k t102 t103 t104).bind fun bt106 => (some (bt106.1, bt106.2.1, bt106.2.2.1))) = some (r1, r2, r3) := H
  have A2 := Aside0.mk A20
  clear A20
  replace H := Option.bind_eq_some_iff.mp H
  obtain ⟨⟨t106, t107, t108, t111, t112⟩, A30, H⟩ := H
  replace H : (some (t106, t107, t108)) = some (r1, r2, r3) := H
  have A3 := Aside0.mk A30
  clear A30
  simp only [Option.some.injEq, Prod.mk.injEq] at H
  obtain ⟨rfl, rfl, rfl⟩ := H
  go_enter Try.func42, Try.ntmps42
  go_wp2_with (first | ((with_reducible refine gate_dst (N := 2) rfl ?_); refine box_event ?hg (N := 2) ?hd (cs := #[.int .i64 0, .int .i64 0, .slice none 0 0]) (t := 34) ?hr ?_; (case hd => rfl); (case hg => rfl); (case hr => first | (go_simp; done) | (go_simp; rfl)); intro gb101 hg w4 hbox hb; have n0_ := Aside0.mk (below_step (by repeat (first | (with_reducible first | exact HB.out | apply below_alloc | apply pw_below_drewN | apply below_drew1) | exact HB.out)) hb); have n1_ := Aside0.mk (hbox); have n2_ := Aside0.mk ((by rw [hg]; exact (below_size (by repeat (first | (with_reducible first | exact HB.out | apply below_alloc | apply pw_below_drewN | apply below_drew1) | exact HB.out))) : w.heap.size ≤ gb101)); have n3_ := Aside0.mk ((by rw [hg]; exact (below_size (by repeat (first | (with_reducible first | exact HB.out | apply below_alloc | apply pw_below_drewN | apply below_drew1) | exact HB.out))) : w.heap.size ≤ gb101)); clear HB; have HB := n0_; have BK101 := n1_; have GW101 := n2_; have GE101 := n3_; clear n0_ n1_ n2_ n3_; clear hb hbox hg) | ((with_reducible refine gate_callee (f := 71) rfl ?_); refine goesL_ (some 4) rfl rfl Try.func71 (by kernel_rfl) rfl #[.slice A0 l0.length c0] rfl (by (try simp only [List.map_toArray, List.map_cons, List.map_nil]); first | done | rfl | (simp only [List.length_drop, List.length_take]; rfl)) ?_; (with_reducible refine (spec_l01New.calls k _ _ l0 t102 t103 t104 w _ ?side1 ?side2 ?side3 A2.out).mono ?_); (case side1 => repeat (first | (with_reducible first | exact HB.out | apply below_alloc | apply pw_below_drewN | apply below_drew1 | refine below_set ?_ GE101.out) | exact HB.out)); (case side2 => exact HR0.out); (case side3 => exact HC0.out); rintro e w5 ⟨g105, rfl, hi, hb, hb2⟩; refine ⟨_, rfl, ?_⟩; have n0_ := Aside0.mk (blk_below (g := gb101) (o := .cells #[.int .i64 0, .int .i64 0, .slice none 0 0] 34 (0, 0)) (by (with_reducible repeat (first | refine blk_drewN ?_ _ | refine blk_drew ?_ | refine blk_alloc ?_ _)); exact BK101.out) hb2); have n1_ := Aside0.mk (hb); have n2_ := Aside0.mk (hi); have n3_ := Aside0.mk (IsS124.ne_blk hi (blk_below (g := gb101) (o := .cells #[.int .i64 0, .int .i64 0, .slice none 0 0] 34 (0, 0)) (by (with_reducible repeat (first | refine blk_drewN ?_ _ | refine blk_drew ?_ | refine blk_alloc ?_ _)); exact BK101.out) hb2) (by decide)); have n4_ := Aside0.mk (Ne.symm (IsS124.ne_blk hi (blk_below (g := gb101) (o := .cells #[.int .i64 0, .int .i64 0, .slice none 0 0] 34 (0, 0)) (by (with_reducible repeat (first | refine blk_drewN ?_ _ | refine blk_drew ?_ | refine blk_alloc ?_ _)); exact BK101.out) hb2) (by decide))); clear BK101; clear HB; have BK101 := n0_; have HB := n1_; have HI105 := n2_; have NB105_101 := n3_; have NB101_105 := n4_; clear n0_ n1_ n2_ n3_ n4_; (try clear hb); (try clear hb2); (try clear hk); (try clear hi)) | ((with_reducible refine gate_callee (f := 85) rfl ?_); refine goesL_ (some 5) rfl rfl Try.func85 (by kernel_rfl) rfl #[.pointer (some ⟨g105, 0, none⟩)] rfl (by (try simp only [List.map_toArray, List.map_cons, List.map_nil]); first | done | rfl | (simp only [List.length_drop, List.length_take]; rfl)) ?_; (with_reducible refine (spec_l33Mesh.calls k g105 t102 t103 t104 t106 t107 t108 t111 t112 w _ ?side1 ?side2 A3.out).mono ?_); (case side1 => repeat (first | (with_reducible first | exact HI105.out | apply IsS124.alloc | apply IsS124.drewN | apply IsS124.drew | apply IsS124.set_1 | apply IsS124.set_2 | refine IsS124.far ?_ NB105_101.out _) | exact HI105.out)); (case side2 => repeat (first | (with_reducible first | exact HB.out | apply below_alloc | apply pw_below_drewN | apply below_drew1 | refine below_set ?_ (IsS124.ge HI105.out) | refine below_set ?_ GE101.out) | exact HB.out)); rintro e w6 ⟨v109, rfl, ho0, hi, hb, hk⟩; refine ⟨_, rfl, ?_⟩; have n0_ := Aside0.mk (KeepBut.blk hk (g' := gb101) (o := .cells #[.int .i64 0, .int .i64 0, .slice none 0 0] 34 (0, 0)) (by (with_reducible repeat (first | refine blk_drewN ?_ _ | refine blk_drew ?_ | refine blk_alloc ?_ _)); exact BK101.out) NB101_105.out (by simp)); have n1_ := Aside0.mk (Kd.R_lower ho0 (below_size (by repeat (first | (with_reducible first | exact HB.out | apply below_alloc | apply pw_below_drewN | apply below_drew1 | refine below_set ?_ (IsS124.ge HI105.out) | refine below_set ?_ GE101.out) | exact HB.out)))); have n2_ := Aside0.mk (hb); have n3_ := Aside0.mk (hi); clear BK101; clear HB; clear HI105; have BK101 := n0_; have HO110 := n1_; have HB := n2_; have HI105 := n3_; clear n0_ n1_ n2_ n3_; (try clear hb); (try clear hb2); (try clear hk); (try clear hi); (try clear ho0); have hnb7 := NB101_105.out; have hnc7 := NB105_101.out; have hcz8_0 : w6.cell? ⟨gb101, 0, none⟩ = some (.int .i64 0) := (blk_cell BK101.out 0).trans rfl; have hcz8_1 : w6.cell? ⟨gb101, 1, none⟩ = some (.int .i64 0) := (blk_cell BK101.out 1).trans rfl; have hcz8_2 : w6.cell? ⟨gb101, 2, none⟩ = some (.slice none 0 0) := (blk_cell BK101.out 2).trans rfl; have hfz8_0 := blk_frozen BK101.out 0; have hfz8_1 := blk_frozen BK101.out 1; have hfz8_2 := blk_frozen BK101.out 2; obtain ⟨Ao9, co9, eo9⟩ := Kd.R_slice HO110.out; subst eo9))
  refine bodyPost_ret (results_cell_row rfl _ _ gb101 34 #[.int .i64 t106, .int .i64 t107, .slice Ao9 t108.length co9] (0, 0) _ rfl (by (with_reducible repeat (first | refine blk_drewN ?_ _ | refine blk_drew ?_ | refine blk_alloc ?_ _)); refine blk_put (cs := #[.int .i64 t106, .int .i64 t107, .slice none 0 0]) ?_ 2 _ rfl; (with_reducible repeat (first | refine blk_drewN ?_ _ | refine blk_drew ?_ | refine blk_alloc ?_ _)); refine blk_put (cs := #[.int .i64 t106, .int .i64 0, .slice none 0 0]) ?_ 1 _ rfl; (with_reducible repeat (first | refine blk_drewN ?_ _ | refine blk_drew ?_ | refine blk_alloc ?_ _)); refine blk_put (cs := #[.int .i64 0, .int .i64 0, .slice none 0 0]) ?_ 0 _ rfl; (with_reducible repeat (first | refine blk_drewN ?_ _ | refine blk_drew ?_ | refine blk_alloc ?_ _)); exact BK101.out) Try.underlying34 rfl (by kernel_rfl)) rfl ?_
  exact ⟨_, by first | rfl | (simp [errW_none, errW_some] <;> rfl) | (simp [*, errW_none, errW_some] <;> rfl), by (with_reducible repeat (first | apply Kd.R_alloc | apply Kd.R_drewN | apply Kd.R_drew)); exact Kd.R_mono (Kd.R_far (p := ⟨gb101, 2, none⟩) (Kd.R_far (p := ⟨gb101, 1, none⟩) (Kd.R_far (p := ⟨gb101, 0, none⟩) (Kd.R_types HO110.out BK101.out (by decide)) (fun _ hk => hk.2) (.int .i64 t106)) (fun _ hk => hk.2) (.int .i64 t107)) (fun _ hk => hk.2) (.slice Ao9 t108.length co9)) (fun _ hk => trivial), by repeat (first | (with_reducible first | exact HB.out | apply below_alloc | apply pw_below_drewN | apply below_drew1 | refine below_set ?_ (IsS124.ge HI105.out) | refine below_set ?_ GE101.out) | exact HB.out)⟩

def laws_FnAncestors.l0 : Nat → List Int → Int → Int → List Int → Int → Option (Bool)
  | 0, _, _, _, _, _ => none
  | k + 1, x6, x7, x8, x9, x10 => if x10 < (x9.length : Int) then (if 0 ≤ x10 then ((impl_CommonAncestor.f k x6 x7 (rd x9 x10)).bind fun t121 => (if t121 = (rd x9 x10) then (laws_FnAncestors.l0 k x6 x7 x8 x9 (wrap64 (x10 + 1))) else (some false))) else (none)) else (if (x9.length : Int) > 0 then (if 0 < (x9.length : Int) then (if (rd x9 0) = x7 then ((impl_CommonAncestor.f k x6 x7 x8).bind fun t124 => ((impl_CommonAncestor.f k x6 x8 x7).bind fun t125 => (some (t124 == t125)))) else (some false)) else (none)) else (some false))
def laws_FnAncestors.f (k : Nat) (l0 : List Int) : Option (Bool) := (laws_big.f l0).bind fun t101 => (if t101 = true then (some true) else ((spec_DrawDamaged.f k l0).bind fun bt102 => ((spec_DrawPlaces.f k l0).bind fun t108 => (if 0 < (t108.length : Int) then (if (wrap64 (bt102.1 * bt102.2.1)) = 0 then (none) else ((impl_TreeParents.f k bt102.1 bt102.2.1 bt102.2.2 (Int.tmod (rd t108 0) (wrap64 (bt102.1 * bt102.2.1)))).bind fun t112 => (if 1 < (t108.length : Int) then (if 2 < (t108.length : Int) then ((impl_AncestorsOf.f k t112 (Int.tmod (rd t108 1) (wrap64 (bt102.1 * bt102.2.1)))).bind fun t117 => (laws_FnAncestors.l0 k t112 (Int.tmod (rd t108 1) (wrap64 (bt102.1 * bt102.2.1))) (Int.tmod (rd t108 2) (wrap64 (bt102.1 * bt102.2.1))) t117 0)) else (none)) else (none)))) else (none)))))
def laws_FnAncestors.T6 : Bool × List (List Nat × List Nat) := (true, [([], []), ([], []), ([1], [1]), ([2], [2]), ([], []), ([3, 4], [3, 4]), ([0, 5], [0, 5]), ([6, 6, 0, 1, 2, 3, 4, 5, 6], [6])])
def laws_FnAncestors.B6 : List Nat := [0, 0, 2, 6, 0, 30, 63, 127]
theorem laws_FnAncestors.tab6 : rtab .any (opsOf Try.f9 6) = laws_FnAncestors.T6 := by kernel_rfl
theorem laws_FnAncestors.bits6 : waitsOk laws_FnAncestors.T6.2 laws_FnAncestors.B6 = true := by kernel_rfl
def laws_FnAncestors.T13 : Bool × List (List Nat × List Nat) := (true, [([], []), ([], []), ([], []), ([], []), ([2, 3], [2, 3]), ([4], [4]), ([0, 1, 5], [0, 1, 5]), ([], []), ([], []), ([7, 8], [7, 8]), ([9], [9]), ([6, 10], [6, 10])])
def laws_FnAncestors.B13 : List Nat := [0, 0, 0, 0, 12, 28, 63, 0, 0, 384, 896, 2047]
theorem laws_FnAncestors.tab13 : rtab .any (opsOf Try.f9 13) = laws_FnAncestors.T13 := by kernel_rfl
theorem laws_FnAncestors.bits13 : waitsOk laws_FnAncestors.T13.2 laws_FnAncestors.B13 = true := by kernel_rfl
set_option maxHeartbeats 8000000 in
set_option maxRecDepth 100000 in
theorem laws_FnAncestors.calls (k : Nat) (A0 : Option Addr) (c0 : Nat) (l0 : List Int) (r : Bool) (w : World) (hr0 : Kd.C (Kd.int .u8) w A0 l0.length l0) (hc0 : l0.length ≤ c0) (h : laws_FnAncestors.f k l0 = some r) :
    Calls Try.prog 9 #[.slice A0 l0.length c0] w fun e w' => e = .returned (.bool r) ∧ Below w.heap.size w w' := by
 have z1_ := Try.underlying34
 have z2_ := Aside0.mk hr0
 have z3_ := Aside0.mk hc0
 clear hr0 hc0
 have HB := Aside0.mk (Below.refl w.heap.size w)
 have H : ((laws_big.f l0).bind fun t101 => (if t101 = true then (some true) else ((spec_DrawDamaged.f k l0).bind fun bt102 => ((spec_DrawPlaces.f k l0).bind fun t108 => (if 0 < (t108.length : Int) then (if (wrap64 (bt102.1 * bt102.2.1)) = 0 then (none) else ((impl_TreeParents.f k bt102.1 bt102.2.1 bt102.2.2 (Int.tmod (rd t108 0) (wrap64 (bt102.1 * bt102.2.1)))).bind fun t112 => (if 1 < (t108.length : Int) then (if 2 < (t108.length : Int) then ((impl_AncestorsOf.f k t112 (Int.tmod (rd t108 1) (wrap64 (bt102.1 * bt102.2.1)))).bind fun t117 => (laws_FnAncestors.l0 k t112 (Int.tmod (rd t108 1) (wrap64 (bt102.1 * bt102.2.1))) (Int.tmod (rd t108 2) (wrap64 (bt102.1 * bt102.2.1))) t117 0)) else (none)) else (none)))) else (none)))))) = some r := h
 clear h
 replace H := Option.bind_eq_some_iff.mp H
 obtain ⟨z4_, z5_, H⟩ := H
 replace H : (if z4_ = true then (some true) else ((spec_DrawDamaged.f k l0).bind fun bt102 => ((spec_DrawPlaces.f k l0).bind fun t108 => (if 0 < (t108.length : Int) then (if (wrap64 (bt102.1 * bt102.2.1)) = 0 then (none) else ((impl_TreeParents.f k bt102.1 bt102.2.1 bt102.2.2 (Int.tmod (rd t108 0) (wrap64 (bt102.1 * bt102.2.1)))).bind fun t112 => (if 1 < (t108.length : Int) then (if 2 < (t108.length : Int) then ((impl_AncestorsOf.f k t112 (Int.tmod (rd t108 1) (wrap64 (bt102.1 * bt102.2.1)))).bind fun t117 => (laws_FnAncestors.l0 k t112 (Int.tmod (rd t108 1) (wrap64 (bt102.1 * bt102.2.1))) (Int.tmod (rd t108 2) (wrap64 (bt102.1 * bt102.2.1))) t117 0)) else (none)) else (none)))) else (none))))) = some r := H
 have z6_ := Aside0.mk z5_
 clear z5_
 by_cases z7_ : z4_ = true
 · subst z7_
   have z8_ : (some true) = some r := by rw [if_pos rfl] at H; exact H
   clear H
   have H := z8_
   clear z8_
   obtain rfl := Option.some.inj H
   go_enter Try.func9, Try.ntmps9
   go_wp2_with (first | ((with_reducible refine gate_callee (f := 30) rfl ?_); refine goesL_ (some 12) rfl rfl Try.func30 (by kernel_rfl) rfl #[.slice A0 l0.length c0] rfl (by (try simp only [List.map_toArray, List.map_cons, List.map_nil]); first | done | rfl | (simp only [List.length_drop, List.length_take]; rfl)) ?_; (with_reducible refine (laws_big.calls _ _ _ _ _ ?side1 ?side2 z6_.out).mono ?_); (case side1 => repeat (first | exact z2_.out | (with_reducible refine Kd.C_alloc ?_ _) | (with_reducible refine Kd.C_drewN ?_ _) | (with_reducible refine Kd.C_drew ?_))); (case side2 => exact z3_.out); rintro e w' ⟨rfl, ⟨nd, rfl⟩⟩; refine ⟨_, rfl, ?_⟩))
   go_ret
   exact ⟨by first | rfl | (simp [errW_none, errW_some] <;> rfl) | (simp [*, errW_none, errW_some] <;> rfl), by repeat (first | (with_reducible first | exact HB.out | apply below_alloc | apply pw_below_drewN | apply below_drew1) | exact HB.out)⟩
 · replace z7_ := Bool.eq_false_iff.mpr z7_
   subst z7_
   have z8_ : ((spec_DrawDamaged.f k l0).bind fun bt102 => ((spec_DrawPlaces.f k l0).bind fun t108 => (if 0 < (t108.length : Int) then (if (wrap64 (bt102.1 * bt102.2.1)) = 0 then (none) else ((impl_TreeParents.f k bt102.1 bt102.2.1 bt102.2.2 (Int.tmod (rd t108 0) (wrap64 (bt102.1 * bt102.2.1)))).bind fun t112 => (if 1 < (t108.length : Int) then (if 2 < (t108.length : Int) then ((impl_AncestorsOf.f k t112 (Int.tmod (rd t108 1) (wrap64 (bt102.1 * bt102.2.1)))).bind fun t117 => (laws_FnAncestors.l0 k t112 (Int.tmod (rd t108 1) (wrap64 (bt102.1 * bt102.2.1))) (Int.tmod (rd t108 2) (wrap64 (bt102.1 * bt102.2.1))) t117 0)) else (none)) else (none)))) else (none)))) = some r := by rw [if_neg (show ¬ (false = true) by decide)] at H; exact H
   clear H
   have H := z8_
   clear z8_
   replace H := Option.bind_eq_some_iff.mp H
   obtain ⟨⟨z9_, z10_, z11_⟩, z12_, H⟩ := H
   replace H : ((spec_DrawPlaces.f k l0).bind fun t108 => (if 0 < (t108.length : Int) then (if (wrap64 (z9_ * z10_)) = 0 then (none) else ((impl_TreeParents.f k z9_ z10_ z11_ (Int.tmod (rd t108 0) (wrap64 (z9_ * z10_)))).bind fun t112 => (if 1 < (t108.length : Int) then (if 2 < (t108.length : Int) then ((impl_AncestorsOf.f k t112 (Int.tmod (rd t108 1) (wrap64 (z9_ * z10_)))).bind fun t117 => (laws_FnAncestors.l0 k t112 (Int.tmod (rd t108 1) (wrap64 (z9_ * z10_))) (Int.tmod (rd t108 2) (wrap64 (z9_ * z10_))) t117 0)) else (none)) else (none)))) else (none))) = some r := H
   have z13_ := Aside0.mk z12_
   clear z12_
   replace H := Option.bind_eq_some_iff.mp H
   obtain ⟨z14_, z15_, H⟩ := H
   replace H : (if 0 < (z14_.length : Int) then (if (wrap64 (z9_ * z10_)) = 0 then (none) else ((impl_TreeParents.f k z9_ z10_ z11_ (Int.tmod (rd z14_ 0) (wrap64 (z9_ * z10_)))).bind fun t112 => (if 1 < (z14_.length : Int) then (if 2 < (z14_.length : Int) then ((impl_AncestorsOf.f k t112 (Int.tmod (rd z14_ 1) (wrap64 (z9_ * z10_)))).bind fun t117 => (laws_FnAncestors.l0 k t112 (Int.tmod (rd z14_ 1) (wrap64 (z9_ * z10_))) (Int.tmod (rd z14_ 2) (wrap64 (z9_ * z10_))) t117 0)) else (none)) else (none)))) else (none)) = some r := H
   have z16_ := Aside0.mk z15_
   clear z15_
   by_cases z17_ : 0 < (z14_.length : Int)
   · rw [if_pos z17_] at H
     have z18_ : decide (0 < (z14_.length : Int)) = true := decide_eq_true z17_
     have z19_ : decide (0 < z14_.length) = true := decide_eq_true (by omega)
     clear z17_
     by_cases z20_ : (wrap64 (z9_ * z10_)) = 0
     · rw [if_pos z20_] at H
       exact absurd H (by simp)
     · rw [if_neg z20_] at H
       have z21_ : ((wrap64 (z9_ * z10_)) == 0) = false := beq_eq_false_iff_ne.mpr z20_
       have z22_ : ((wrap64 (z9_ * z10_)) != 0) = true := bne_iff_ne.mpr z20_
       replace H := Option.bind_eq_some_iff.mp H
       obtain ⟨z23_, z24_, H⟩ := H
       replace H : (if 1 < (z14_.length : Int) then (if 2 < (z14_.length : Int) then ((impl_AncestorsOf.f k z23_ (Int.tmod (rd z14_ 1) (wrap64 (z9_ * z10_)))).bind fun t117 => (laws_FnAncestors.l0 k z23_ (Int.tmod (rd z14_ 1) (wrap64 (z9_ * z10_))) (Int.tmod (rd z14_ 2) (wrap64 (z9_ * z10_))) t117 0)) else (none)) else (none)) = some r := H
       have z25_ := Aside0.mk z24_
       clear z24_
       by_cases z26_ : 1 < (z14_.length : Int)
       · rw [if_pos z26_] at H
         have z27_ : decide (1 < (z14_.length : Int)) = true := decide_eq_true z26_
         have z28_ : decide (1 < z14_.length) = true := decide_eq_true (by omega)
         clear z26_
         by_cases z29_ : 2 < (z14_.length : Int)
         · rw [if_pos z29_] at H
           have z30_ : decide (2 < (z14_.length : Int)) = true := decide_eq_true z29_
           have z31_ : decide (2 < z14_.length) = true := decide_eq_true (by omega)
           clear z29_
           replace H := Option.bind_eq_some_iff.mp H
           obtain ⟨z32_, z33_, H⟩ := H
           replace H : (laws_FnAncestors.l0 k z23_ (Int.tmod (rd z14_ 1) (wrap64 (z9_ * z10_))) (Int.tmod (rd z14_ 2) (wrap64 (z9_ * z10_))) z32_ 0) = some r := H
           have z34_ := Aside0.mk z33_
           clear z33_
           have H' := Aside0.mk H
           clear H
           go_enter Try.func9, Try.ntmps9
           try go_wp2_with (first | ((with_reducible refine gate_callee (f := 30) rfl ?_); refine goesL_ (some 12) rfl rfl Try.func30 (by kernel_rfl) rfl #[.slice A0 l0.length c0] rfl (by (try simp only [List.map_toArray, List.map_cons, List.map_nil]); first | done | rfl | (simp only [List.length_drop, List.length_take]; rfl)) ?_; (with_reducible refine (laws_big.calls _ _ _ _ _ ?side1 ?side2 z6_.out).mono ?_); (case side1 => repeat (first | exact z2_.out | (with_reducible refine Kd.C_alloc ?_ _) | (with_reducible refine Kd.C_drewN ?_ _) | (with_reducible refine Kd.C_drew ?_))); (case side2 => exact z3_.out); rintro e w' ⟨rfl, ⟨nd, rfl⟩⟩; refine ⟨_, rfl, ?_⟩) | ((with_reducible refine gate_callee (f := 42) rfl ?_); refine goesL_ (some 14) rfl rfl Try.func42 (by kernel_rfl) rfl #[.slice A0 l0.length c0] rfl (by (try simp only [List.map_toArray, List.map_cons, List.map_nil]); first | done | rfl | (simp only [List.length_drop, List.length_take]; rfl)) ?_; (with_reducible refine (spec_DrawDamaged.calls _ _ _ _ _ _ _ _ ?side1 ?side2 z13_.out).mono ?_); (case side1 => repeat (first | exact z2_.out | (with_reducible refine Kd.C_alloc ?_ _) | (with_reducible refine Kd.C_drewN ?_ _) | (with_reducible refine Kd.C_drew ?_))); (case side2 => exact z3_.out); rintro e y1_ ⟨y2_, rfl, y3_, hb⟩; refine ⟨_, rfl, ?_⟩; have y4_ := Aside0.mk (Kd.R_lower y3_ (below_size (by repeat (first | (with_reducible first | exact HB.out | apply below_alloc | apply pw_below_drewN | apply below_drew1) | exact HB.out)))); have y5_ := Aside0.mk (below_step (by repeat (first | (with_reducible first | exact HB.out | apply below_alloc | apply pw_below_drewN | apply below_drew1) | exact HB.out)) hb); clear HB; have y6_ := y4_; have HB := y5_; clear y4_ y5_; (try clear hb); (try clear hb2); (try clear hk); (try clear hi); (try clear y3_)) | ((with_reducible refine gate_dst (N := 3) rfl ?_); refine box_event ?hg (N := 3) ?hd (cs := #[.int .i64 0, .int .i64 0, .slice none 0 0]) (t := 34) ?hr ?_; (case hd => rfl); (case hg => rfl); (case hr => first | (go_simp; done) | (go_simp; rfl)); intro y7_ hg y8_ hbox hb; have y4_ := Aside0.mk (Kd.R_below (by (with_reducible repeat (first | apply Kd.R_alloc | apply Kd.R_drewN | apply Kd.R_drew)); exact y6_.out) hb); have y5_ := Aside0.mk (below_step (by repeat (first | (with_reducible first | exact HB.out | apply below_alloc | apply pw_below_drewN | apply below_drew1) | exact HB.out)) hb); have y9_ := Aside0.mk (hbox); have y10_ := Aside0.mk ((by rw [hg]; exact (below_size (by repeat (first | (with_reducible first | exact HB.out | apply below_alloc | apply pw_below_drewN | apply below_drew1) | exact HB.out))) : w.heap.size ≤ y7_)); have y11_ := Aside0.mk ((by rw [hg]; exact (below_size (by repeat (first | (with_reducible first | exact HB.out | apply below_alloc | apply pw_below_drewN | apply below_drew1) | exact HB.out))) : w.heap.size ≤ y7_)); clear y6_; clear HB; have y6_ := y4_; have HB := y5_; have y12_ := y9_; have y13_ := y10_; have y14_ := y11_; clear y4_ y5_ y9_ y10_ y11_; clear hb hbox hg; have y15_ : y8_.cell? ⟨y7_, 0, none⟩ = some (.int .i64 0) := (blk_cell y12_.out 0).trans rfl; have y16_ : y8_.cell? ⟨y7_, 1, none⟩ = some (.int .i64 0) := (blk_cell y12_.out 1).trans rfl; have y17_ : y8_.cell? ⟨y7_, 2, none⟩ = some (.slice none 0 0) := (blk_cell y12_.out 2).trans rfl; have y18_ := blk_frozen y12_.out 0; have y19_ := blk_frozen y12_.out 1; have y20_ := blk_frozen y12_.out 2; obtain ⟨y21_, y22_, y23_⟩ := Kd.R_slice y6_.out; subst y23_) | ((with_reducible refine gate_callee (f := 32) rfl ?_); refine goesL_ (some 16) rfl rfl Try.func32 (by kernel_rfl) rfl #[.slice A0 l0.length c0] rfl (by (try simp only [List.map_toArray, List.map_cons, List.map_nil]); first | done | rfl | (simp only [List.length_drop, List.length_take]; rfl)) ?_; (with_reducible refine (spec_DrawPlaces.calls _ _ _ _ _ _ ?side1 ?side2 z16_.out).mono ?_); (case side1 => exact Kd.C_below z2_.out (by repeat (first | (with_reducible first | exact HB.out | apply below_alloc | apply pw_below_drewN | apply below_drew1 | refine below_set ?_ y14_.out) | exact HB.out))); (case side2 => exact z3_.out); rintro e y24_ ⟨y25_, rfl, y3_, hb⟩; refine ⟨_, rfl, ?_⟩; have y4_ := Aside0.mk (Kd.R_elder' (by (with_reducible repeat (first | apply Kd.R_alloc | apply Kd.R_drewN | apply Kd.R_drew)); exact (Kd.R_mono (Kd.R_far (p := ⟨y7_, 2, none⟩) (Kd.R_far (p := ⟨y7_, 1, none⟩) (Kd.R_far (p := ⟨y7_, 0, none⟩) (Kd.R_types y6_.out y12_.out (by decide)) (fun _ hk => hk.2) (.int .i64 z9_)) (fun _ hk => hk.2) (.int .i64 z10_)) (fun _ hk => hk.2) (.slice y21_ z11_.length y22_)) (fun _ h_ => h_.1))) (Kd.R_base y3_) hb); have y5_ := Aside0.mk (Kd.R_lower (Kd.R_new' y3_ (Kd.R_lt (by (with_reducible repeat (first | apply Kd.R_alloc | apply Kd.R_drewN | apply Kd.R_drew)); exact (Kd.R_mono (Kd.R_far (p := ⟨y7_, 2, none⟩) (Kd.R_far (p := ⟨y7_, 1, none⟩) (Kd.R_far (p := ⟨y7_, 0, none⟩) (Kd.R_types y6_.out y12_.out (by decide)) (fun _ hk => hk.2) (.int .i64 z9_)) (fun _ hk => hk.2) (.int .i64 z10_)) (fun _ hk => hk.2) (.slice y21_ z11_.length y22_)) (fun _ h_ => h_.1))))) (below_size (by repeat (first | (with_reducible first | exact HB.out | apply below_alloc | apply pw_below_drewN | apply below_drew1 | refine below_set ?_ y14_.out) | exact HB.out)))); have y9_ := Aside0.mk (blk_below (g := y7_) (o := .cells #[.int .i64 z9_, .int .i64 z10_, .slice y21_ z11_.length y22_] 34 (0, 0)) (by (with_reducible repeat (first | refine blk_drewN ?_ _ | refine blk_drew ?_ | refine blk_alloc ?_ _)); refine blk_put (cs := #[.int .i64 z9_, .int .i64 z10_, .slice none 0 0]) ?_ 2 _ rfl; (with_reducible repeat (first | refine blk_drewN ?_ _ | refine blk_drew ?_ | refine blk_alloc ?_ _)); refine blk_put (cs := #[.int .i64 z9_, .int .i64 0, .slice none 0 0]) ?_ 1 _ rfl; (with_reducible repeat (first | refine blk_drewN ?_ _ | refine blk_drew ?_ | refine blk_alloc ?_ _)); refine blk_put (cs := #[.int .i64 0, .int .i64 0, .slice none 0 0]) ?_ 0 _ rfl; (with_reducible repeat (first | refine blk_drewN ?_ _ | refine blk_drew ?_ | refine blk_alloc ?_ _)); exact y12_.out) hb); have y10_ := Aside0.mk (below_step (by repeat (first | (with_reducible first | exact HB.out | apply below_alloc | apply pw_below_drewN | apply below_drew1 | refine below_set ?_ y14_.out) | exact HB.out)) hb); clear y6_; clear y12_; clear HB; have y6_ := y4_; have y26_ := y5_; have y12_ := y9_; have HB := y10_; clear y4_ y5_ y9_ y10_; (try clear hb); (try clear hb2); (try clear hk); (try clear hi); (try clear y3_); have y27_ : y24_.cell? ⟨y7_, 0, none⟩ = some (.int .i64 z9_) := (blk_cell y12_.out 0).trans rfl; have y28_ : y24_.cell? ⟨y7_, 1, none⟩ = some (.int .i64 z10_) := (blk_cell y12_.out 1).trans rfl; have y29_ : y24_.cell? ⟨y7_, 2, none⟩ = some (.slice y21_ z11_.length y22_) := (blk_cell y12_.out 2).trans rfl; have y30_ := blk_frozen y12_.out 0; have y31_ := blk_frozen y12_.out 1; have y32_ := blk_frozen y12_.out 2))
           have y4_ := Aside0.mk (Kd.R_drew y6_.out)
           have y5_ := Aside0.mk (Kd.R_drew y26_.out)
           have y9_ := Aside0.mk (blk_drew y12_.out)
           have y10_ := Aside0.mk (below_drew1 HB.out)
           clear y6_
           clear y26_
           clear y12_
           clear HB
           have y6_ := y4_
           have y26_ := y5_
           have y12_ := y9_
           have HB := y10_
           clear y4_ y5_ y9_ y10_
           obtain ⟨y33_, y34_, y35_⟩ := Kd.R_slice y26_.out
           (first | subst y35_ | (injection y35_ with f1_ f2_ f3_; have y36_ := f1_.symm; have y37_ := f3_.symm; clear f1_ f2_ f3_; subst y36_; subst y37_))
           have y38_ : 0 ≤ (0 : Int) := (by omega)
           have y39_ : 0 < (z14_.length : Int) := of_decide_eq_true (by first | (with_reducible assumption) | assumption)
           obtain ⟨y40_, y41_, y42_⟩ := Kd.at_int (Kd.R_reads' y26_.out).2.2 0 y38_ y39_
           cases y41_
           have y43_ : (0 < z14_.length) = True := eq_true (by omega)
           (try rw [show ((0 : Int)).toNat = 0 from rfl] at y42_)
           (try rw [Addr.add_zero'] at y42_)
           replace y38_ := eq_true y38_
           replace y39_ := eq_true y39_
           refine start_ (n := 8) (S := fun w' => w'.cell? ⟨y7_, 0, none⟩ = some (.int .i64 z9_) ∧ w'.cell? ⟨y7_, 1, none⟩ = some (.int .i64 z10_) ∧ w'.cell? ⟨y7_, 2, none⟩ = some (.slice y21_ z11_.length y22_) ∧ w'.cell? y40_ = some (.int .i64 (rd z14_ 0))) (ds := []) #[false, false, false, false, false, false, false, false] (by kernel_rfl) rfl rfl ⟨(blk_cell y12_.out 0).trans rfl, (blk_cell y12_.out 1).trans rfl, (blk_cell y12_.out 2).trans rfl, y42_⟩ (fun hHeld => ?_); refine with_tabW laws_FnAncestors.tab6 laws_FnAncestors.bits6 (fun HT_ HW_ => ?_)
           generalize y24_.drew = y44_ at y6_ y26_ y12_ HB y42_ hHeld ⊢
           refine pure_ (i := 1) (N := some 25) (v := ?_) (a' := ?_) #[false, true, false, false, false, false, false, false] rfl rfl (any_of HT_.out (by kernel_rfl)) (fun _ _ _ h => h) (Or.inl ⟨by rfl, ?_⟩) ?_ ?_
           rotate_left
           · intro w'
             go_simp
             with_reducible rfl
           rotate_left
           · simp only [Act.put, List.setIfInBounds_toArray, List.set_cons_zero, List.set_cons_succ, i64_w, i32_w]
             rfl
           refine pure_ (i := 2) (N := some 26) (v := ?_) (a' := ?_) #[false, true, true, false, false, false, false, false] rfl rfl (any_of HT_.out (by kernel_rfl)) (fun _ _ _ h => h) (Or.inl ⟨by rfl, ?_⟩) ?_ ?_
           rotate_left
           · intro w'
             go_simp
             with_reducible rfl
           rotate_left
           · simp only [Act.put, List.setIfInBounds_toArray, List.set_cons_zero, List.set_cons_succ, i64_w, i32_w]
             rfl
           refine pure_ (i := 4) (N := some 28) (v := ?_) (a' := ?_) #[false, true, true, false, true, false, false, false] rfl rfl (any_of HT_.out (by kernel_rfl)) (fun _ _ _ h => h) (Or.inl ⟨by rfl, ?_⟩) ?_ ?_
           rotate_left
           · intro w'
             go_simp
             with_reducible rfl
           rotate_left
           · simp only [Act.put, List.setIfInBounds_toArray, List.set_cons_zero, List.set_cons_succ, i64_w, i32_w]
             rfl
           refine take_ (i := 0) (N := some 24) (v := ?_) (a' := ?_) #[true, true, true, false, true, false, false, false] rfl rfl (take_ofW HT_.out HW_.out (by kernel_rfl)) (fun _ _ _ h => h) (Or.inl ⟨by rfl, ?_⟩) hHeld ?_ ?_
           rotate_left
           · rintro w' ⟨y45_, y46_, y47_, y48_⟩
             go_simp
             with_reducible rfl
           rotate_left
           · simp only [Act.put, List.setIfInBounds_toArray, List.set_cons_zero, List.set_cons_succ, i64_w, i32_w]
             rfl
           refine take_ (i := 3) (N := some 27) (v := ?_) (a' := ?_) #[true, true, true, true, true, false, false, false] rfl rfl (take_ofW HT_.out HW_.out (by kernel_rfl)) (fun _ _ _ h => h) (Or.inl ⟨by rfl, ?_⟩) hHeld ?_ ?_
           rotate_left
           · rintro w' ⟨y45_, y46_, y47_, y48_⟩
             go_simp
             with_reducible rfl
           rotate_left
           · simp only [Act.put, List.setIfInBounds_toArray, List.set_cons_zero, List.set_cons_succ, i64_w, i32_w]
             rfl
           refine pure_ (i := 5) (N := some 29) (v := ?_) (a' := ?_) #[true, true, true, true, true, true, false, false] rfl rfl (any_of HT_.out (by kernel_rfl)) (fun _ _ _ h => h) (Or.inl ⟨by rfl, ?_⟩) ?_ ?_
           rotate_left
           · intro w'
             go_simp
             with_reducible rfl
           rotate_left
           · simp only [Act.put, List.setIfInBounds_toArray, List.set_cons_zero, List.set_cons_succ, i64_w, i32_w]
             rfl
           refine one_ (i := 6) (N := some 30) #[true, true, true, true, true, true, true, false] rfl rfl (one_of HT_.out (by kernel_rfl)) (by decide) (fun K hK => ?_)
           refine goes_ Try.func33 (by kernel_rfl) rfl #[.agg #[.int .i64 z9_, .int .i64 z10_, .slice y21_ z11_.length y22_], .int .i64 (Int.tmod (rd z14_ 0) (wrap64 (z9_ * z10_)))] (by rfl) rfl rfl (by (try simp only [List.map_toArray, List.map_cons, List.map_nil]); first | done | rfl | (simp only [List.length_drop, List.length_take]; rfl)) ?_
           with_reducible refine (impl_TreeParents.calls _ _ _ _ _ _ _ _ _ ?side1 ?side2 z25_.out).mono ?_
           (case side1 => repeat (first | exact (Kd.R_reads' y6_.out).2.2 | (with_reducible refine Kd.C_alloc ?_ _) | (with_reducible refine Kd.C_drewN ?_ _) | (with_reducible refine Kd.C_drew ?_)))
           (case side2 => exact (Kd.R_reads' y6_.out).2.1)
           rintro e y49_ ⟨y50_, rfl, y3_, hb⟩
           have y51_ := (hb.cell (World.block_lt_of_cell? _ _ (hHeld.2.2.2))).trans (hHeld.2.2.2)
           refine ⟨_, rfl, ?_⟩
           have y4_ := Aside0.mk (Kd.R_elder' (by (with_reducible repeat (first | apply Kd.R_alloc | apply Kd.R_drewN | apply Kd.R_drew)); exact y6_.out) (Kd.R_base y3_) hb)
           have y5_ := Aside0.mk (Kd.R_elder' (by (with_reducible repeat (first | apply Kd.R_alloc | apply Kd.R_drewN | apply Kd.R_drew)); exact y26_.out) (Kd.R_base y3_) hb)
           have y9_ := Aside0.mk (Kd.R_lower (Kd.R_new' (Kd.R_new' y3_ (Kd.R_lt (by (with_reducible repeat (first | apply Kd.R_alloc | apply Kd.R_drewN | apply Kd.R_drew)); exact y6_.out))) (Kd.R_lt (by (with_reducible repeat (first | apply Kd.R_alloc | apply Kd.R_drewN | apply Kd.R_drew)); exact y26_.out))) (below_size (by repeat (first | (with_reducible first | exact HB.out | apply below_alloc | apply pw_below_drewN | apply below_drew1 | refine below_set ?_ y14_.out) | exact HB.out))))
           have y10_ := Aside0.mk (blk_below (g := y7_) (o := .cells #[.int .i64 z9_, .int .i64 z10_, .slice y21_ z11_.length y22_] 34 (0, 0)) (by (with_reducible repeat (first | refine blk_drewN ?_ _ | refine blk_drew ?_ | refine blk_alloc ?_ _)); exact y12_.out) hb)
           have y11_ := Aside0.mk (below_step (by repeat (first | (with_reducible first | exact HB.out | apply below_alloc | apply pw_below_drewN | apply below_drew1 | refine below_set ?_ y14_.out) | exact HB.out)) hb)
           clear y6_
           clear y26_
           clear y12_
           clear HB
           have y6_ := y4_
           have y26_ := y5_
           have y52_ := y9_
           have y12_ := y10_
           have HB := y11_
           clear y4_ y5_ y9_ y10_ y11_
           (try clear hb)
           (try clear hb2)
           (try clear hk)
           (try clear hi)
           (try clear y3_)
           refine hK.out _ _ ⟨(blk_cell y12_.out 0).trans rfl, (blk_cell y12_.out 1).trans rfl, (blk_cell y12_.out 2).trans rfl, y51_⟩ (fun hHeld => ?_)
           clear hK K
           refine norm_ (a' := ?_) ?_ ?_
           rotate_left
           · show Act.put _ (some 30) _ = _
             simp only [Act.put, List.setIfInBounds_toArray, List.set_cons_zero, List.set_cons_succ, i64_w, i32_w]
             rfl
           refine pure_ (i := 7) (N := some 6) (v := ?_) (a' := ?_) #[true, true, true, true, true, true, true, true] rfl rfl (any_of HT_.out (by kernel_rfl)) (fun _ _ _ h => h) (Or.inl ⟨by rfl, ?_⟩) ?_ ?_
           rotate_left
           · intro w'
             go_simp
             with_reducible rfl
           rotate_left
           · simp only [Act.put, List.setIfInBounds_toArray, List.set_cons_zero, List.set_cons_succ, i64_w, i32_w]
             rfl
           refine done_ (done_of HT_.out (by kernel_rfl)) ?_
           have y53_ : 0 ≤ (1 : Int) := (by omega)
           have y54_ : 1 < (z14_.length : Int) := of_decide_eq_true (by first | (with_reducible assumption) | assumption)
           obtain ⟨y55_, y56_, y57_⟩ := Kd.at_int (Kd.R_reads' y26_.out).2.2 1 y53_ y54_
           obtain rfl : y40_ = y55_ := (by injection y56_)
           (try simp only [show (1 : Int).toNat = 1 from rfl, Nat.reduceMul, Nat.reduceEqDiff, Go.Addr.add, ↓reduceIte] at y57_)
           have y58_ : (1 < z14_.length) = True := eq_true (by omega)
           (try rw [show ((1 : Int)).toNat = 1 from rfl] at y57_)
           replace y53_ := eq_true y53_
           replace y54_ := eq_true y54_
           have y59_ : 0 ≤ (2 : Int) := (by omega)
           have y60_ : 2 < (z14_.length : Int) := of_decide_eq_true (by first | (with_reducible assumption) | assumption)
           obtain ⟨y61_, y62_, y63_⟩ := Kd.at_int (Kd.R_reads' y26_.out).2.2 2 y59_ y60_
           obtain rfl : y40_ = y61_ := (by injection y62_)
           (try simp only [show (2 : Int).toNat = 2 from rfl, Nat.reduceMul, Nat.reduceEqDiff, Go.Addr.add, ↓reduceIte] at y63_)
           have y64_ : (2 < z14_.length) = True := eq_true (by omega)
           (try rw [show ((2 : Int)).toNat = 2 from rfl] at y63_)
           replace y59_ := eq_true y59_
           replace y60_ := eq_true y60_
           obtain ⟨y65_, y66_, y67_⟩ := Kd.R_slice y52_.out
           subst y67_
           try go_wp2_with (first | ((with_reducible refine gate_callee (f := 38) rfl ?_); refine goesL_ (some 43) rfl rfl Try.func38 (by kernel_rfl) rfl #[.slice y65_ z23_.length y66_, .int .i64 (Int.tmod (rd z14_ 1) (wrap64 (z9_ * z10_)))] rfl (by (try simp only [List.map_toArray, List.map_cons, List.map_nil]); first | done | rfl | (simp only [List.length_drop, List.length_take]; rfl)) ?_; (with_reducible refine (impl_AncestorsOf.calls _ _ _ _ _ _ _ ?side1 ?side2 z34_.out).mono ?_); (case side1 => repeat (first | exact (Kd.R_reads' y52_.out).2.2 | (with_reducible refine Kd.C_alloc ?_ _) | (with_reducible refine Kd.C_drewN ?_ _) | (with_reducible refine Kd.C_drew ?_))); (case side2 => exact (Kd.R_reads' y52_.out).2.1); rintro e y68_ ⟨y69_, rfl, y3_, hb⟩; refine ⟨_, rfl, ?_⟩; have y4_ := Aside0.mk (Kd.R_elder' (by (with_reducible repeat (first | apply Kd.R_alloc | apply Kd.R_drewN | apply Kd.R_drew)); exact y6_.out) (Kd.R_base y3_) hb); have y5_ := Aside0.mk (Kd.R_elder' (by (with_reducible repeat (first | apply Kd.R_alloc | apply Kd.R_drewN | apply Kd.R_drew)); exact y26_.out) (Kd.R_base y3_) hb); have y9_ := Aside0.mk (Kd.R_elder' (by (with_reducible repeat (first | apply Kd.R_alloc | apply Kd.R_drewN | apply Kd.R_drew)); exact y52_.out) (Kd.R_base y3_) hb); have y10_ := Aside0.mk (Kd.R_lower (Kd.R_new' (Kd.R_new' (Kd.R_new' y3_ (Kd.R_lt (by (with_reducible repeat (first | apply Kd.R_alloc | apply Kd.R_drewN | apply Kd.R_drew)); exact y6_.out))) (Kd.R_lt (by (with_reducible repeat (first | apply Kd.R_alloc | apply Kd.R_drewN | apply Kd.R_drew)); exact y26_.out))) (Kd.R_lt (by (with_reducible repeat (first | apply Kd.R_alloc | apply Kd.R_drewN | apply Kd.R_drew)); exact y52_.out))) (below_size (by repeat (first | (with_reducible first | exact HB.out | apply below_alloc | apply pw_below_drewN | apply below_drew1 | refine below_set ?_ y14_.out) | exact HB.out)))); have y11_ := Aside0.mk (blk_below (g := y7_) (o := .cells #[.int .i64 z9_, .int .i64 z10_, .slice y21_ z11_.length y22_] 34 (0, 0)) (by (with_reducible repeat (first | refine blk_drewN ?_ _ | refine blk_drew ?_ | refine blk_alloc ?_ _)); exact y12_.out) hb); have y70_ := Aside0.mk (below_step (by repeat (first | (with_reducible first | exact HB.out | apply below_alloc | apply pw_below_drewN | apply below_drew1 | refine below_set ?_ y14_.out) | exact HB.out)) hb); clear y6_; clear y26_; clear y52_; clear y12_; clear HB; have y6_ := y4_; have y26_ := y5_; have y52_ := y9_; have y71_ := y10_; have y12_ := y11_; have HB := y70_; clear y4_ y5_ y9_ y10_ y11_ y70_; (try clear hb); (try clear hb2); (try clear hk); (try clear hi); (try clear y3_)))
           go_loopg [10] k (fun kq v10 w' => ∃ (x10_1 : Int), v10 = .int .i64 x10_1 ∧ Aside0 (laws_FnAncestors.l0 kq z23_ (Int.tmod (rd z14_ 1) (wrap64 (z9_ * z10_))) (Int.tmod (rd z14_ 2) (wrap64 (z9_ * z10_))) z32_ x10_1 = some r) ∧ Aside0 (kq ≤ k) ∧ Aside0 (Kd.R (Kd.int .i64) 3 w' w.heap.size (fun k_ => some k_ ≠ (y69_ : Value).ownBlock ∧ some k_ ≠ ((.slice y21_ z11_.length y22_) : Value).ownBlock) (.slice y65_ z23_.length y66_) z23_) ∧ Aside0 (Kd.R (Kd.int .i64) 3 w' w.heap.size (fun k_ => some k_ ≠ ((.slice y65_ z23_.length y66_) : Value).ownBlock ∧ some k_ ≠ ((.slice y21_ z11_.length y22_) : Value).ownBlock) y69_ z32_) ∧ Aside0 (Kd.R (Kd.int .i64) 3 w' w.heap.size (fun k_ => some k_ ≠ ((.slice y65_ z23_.length y66_) : Value).ownBlock ∧ some k_ ≠ (y69_ : Value).ownBlock) (.slice y21_ z11_.length y22_) z11_) ∧ Aside0 (w'.heap[y7_]? = some (.cells #[.int .i64 z9_, .int .i64 z10_, (.slice y21_ z11_.length y22_)] 34 (0, 0))) ∧ Aside0 (Below w.heap.size w w'))
           case atStart => exact ⟨(0), (by first | rfl | (simp; done) | (simp [*]; done)), H', ⟨Nat.le_refl _⟩, ⟨by (with_reducible repeat (first | apply Kd.R_alloc | apply Kd.R_drewN | apply Kd.R_drew)); exact Kd.R_mono y52_.out (fun _ hk => ⟨hk.2, hk.1.1.2⟩)⟩, ⟨by (with_reducible repeat (first | apply Kd.R_alloc | apply Kd.R_drewN | apply Kd.R_drew)); exact Kd.R_mono y71_.out (fun _ hk => ⟨hk.2, hk.1.1.2⟩)⟩, ⟨by (with_reducible repeat (first | apply Kd.R_alloc | apply Kd.R_drewN | apply Kd.R_drew)); exact Kd.R_mono y6_.out (fun _ hk => ⟨hk.1.2, hk.2⟩)⟩, ⟨by (with_reducible repeat (first | refine blk_drewN ?_ _ | refine blk_drew ?_ | refine blk_alloc ?_ _)); exact y12_.out⟩, ⟨by repeat (first | (with_reducible first | exact HB.out | apply below_alloc | apply pw_below_drewN | apply below_drew1 | refine below_set ?_ y14_.out) | exact HB.out)⟩⟩
           case round =>
             clear H'
             try clear c1
             try clear p1
             try clear q1
             try clear hx1
             try clear qi1
             try clear p2
             try clear z7_
             try clear c4
             try clear z17_
             try clear z18_
             try clear z19_
             try clear p6
             try clear z20_
             try clear z21_
             try clear z22_
             try clear z26_
             try clear z27_
             try clear z28_
             try clear z29_
             try clear z30_
             try clear z31_
             try clear p11
             try clear q11
             try clear hx11
             try clear qi11
             try clear y15_
             try clear y16_
             try clear y17_
             try clear y27_
             try clear y28_
             try clear y29_
             try clear y18_
             try clear y19_
             try clear y20_
             try clear y30_
             try clear y31_
             try clear y32_
             try clear y42_
             try clear y57_
             try clear y63_
             try clear y38_
             try clear y53_
             try clear y59_
             try clear y39_
             try clear y54_
             try clear y60_
             obtain ⟨y72_, rfl, HA, y73_, y74_, y75_, y76_, y12_, HB⟩ := hrel
             cases gk with
             | zero => exact absurd HA.out (by simp [laws_FnAncestors.l0])
             | succ y77_ =>
               have H := HA.out
               clear HA
               simp only [laws_FnAncestors.l0] at H
               by_cases y78_ : y72_ < (z32_.length : Int)
               focus
                 rw [if_pos y78_] at H
                 have y79_ : decide (y72_ < (z32_.length : Int)) = true := decide_eq_true y78_
                 clear y78_
                 by_cases y80_ : 0 ≤ y72_
                 focus
                   rw [if_pos y80_] at H
                   have y81_ : decide (0 ≤ y72_) = true := decide_eq_true y80_
                   clear y80_
                   replace H := Option.bind_eq_some_iff.mp H
                   obtain ⟨y82_, y83_, H⟩ := H
                   replace H : (if y82_ = (rd z32_ y72_) then (laws_FnAncestors.l0 y77_ z23_ (Int.tmod (rd z14_ 1) (wrap64 (z9_ * z10_))) (Int.tmod (rd z14_ 2) (wrap64 (z9_ * z10_))) z32_ (wrap64 (y72_ + 1))) else (some false)) = some r := H
                   have y84_ := Aside0.mk y83_
                   clear y83_
                   by_cases y85_ : y82_ = (rd z32_ y72_)
                   focus
                     rw [if_pos y85_] at H
                     have y86_ : (y82_ == (rd z32_ y72_)) = true := beq_iff_eq.mpr y85_
                     have y87_ : (y82_ != (rd z32_ y72_)) = false := bne_eq_false_iff_eq.mpr y85_
                     clear y85_
                     have H' := Aside0.mk H
                     clear H
                   rotate_left
                   focus
                     rw [if_neg y85_] at H
                     have y86_ : (y82_ == (rd z32_ y72_)) = false := beq_eq_false_iff_ne.mpr y85_
                     have y87_ : (y82_ != (rd z32_ y72_)) = true := bne_iff_ne.mpr y85_
                     obtain rfl := Option.some.inj H
                 rotate_left 2
                 · rw [if_neg y80_] at H
                   exact absurd H (by simp)
               rotate_left 2
               focus
                 rw [if_neg y78_] at H
                 have y79_ : decide (y72_ < (z32_.length : Int)) = false := decide_eq_false y78_
                 clear y78_
                 by_cases y80_ : (z32_.length : Int) > 0
                 focus
                   rw [if_pos y80_] at H
                   have y81_ : decide (0 < (z32_.length : Int)) = true := decide_eq_true y80_
                   have y82_ : decide (0 < z32_.length) = true := decide_eq_true (by omega)
                   clear y80_
                   by_cases y83_ : 0 < (z32_.length : Int)
                   focus
                     rw [if_pos y83_] at H
                     have y84_ : decide (0 < (z32_.length : Int)) = true := decide_eq_true y83_
                     have y85_ : decide (0 < z32_.length) = true := decide_eq_true (by omega)
                     clear y83_
                     by_cases y86_ : (rd z32_ 0) = (Int.tmod (rd z14_ 1) (wrap64 (z9_ * z10_)))
                     focus
                       rw [if_pos y86_] at H
                       have y87_ : ((rd z32_ 0) == (Int.tmod (rd z14_ 1) (wrap64 (z9_ * z10_)))) = true := beq_iff_eq.mpr y86_
                       have y88_ : ((rd z32_ 0) != (Int.tmod (rd z14_ 1) (wrap64 (z9_ * z10_)))) = false := bne_eq_false_iff_eq.mpr y86_
                       clear y86_
                       replace H := Option.bind_eq_some_iff.mp H
                       obtain ⟨y89_, y90_, H⟩ := H
                       replace H : ((impl_CommonAncestor.f y77_ z23_ (Int.tmod (rd z14_ 2) (wrap64 (z9_ * z10_))) (Int.tmod (rd z14_ 1) (wrap64 (z9_ * z10_)))).bind fun t125 => (some (y89_ == t125))) = some r := H
                       have y91_ := Aside0.mk y90_
                       clear y90_
                       replace H := Option.bind_eq_some_iff.mp H
                       obtain ⟨y92_, y93_, H⟩ := H
                       replace H : (some (y89_ == y92_)) = some r := H
                       have y94_ := Aside0.mk y93_
                       clear y93_
                       obtain rfl := Option.some.inj H
                     rotate_left
                     focus
                       rw [if_neg y86_] at H
                       have y87_ : ((rd z32_ 0) == (Int.tmod (rd z14_ 1) (wrap64 (z9_ * z10_)))) = false := beq_eq_false_iff_ne.mpr y86_
                       have y88_ : ((rd z32_ 0) != (Int.tmod (rd z14_ 1) (wrap64 (z9_ * z10_)))) = true := bne_iff_ne.mpr y86_
                       obtain rfl := Option.some.inj H
                   rotate_left 2
                   · rw [if_neg y83_] at H
                     exact absurd H (by simp)
                 rotate_left 2
                 focus
                   rw [if_neg y80_] at H
                   have y81_ : decide (0 < (z32_.length : Int)) = false := decide_eq_false y80_
                   have y82_ : decide (0 < z32_.length) = false := decide_eq_false (by omega)
                   clear y80_
                   obtain rfl := Option.some.inj H
               all_goals first
                 | skip
                   obtain ⟨x1_, x2_, x3_⟩ := Kd.R_slice y75_.out
                   subst x3_
                   try go_wp2
                   have y4_ := Aside0.mk (Kd.R_drew y74_.out)
                   have y5_ := Aside0.mk (Kd.R_drew y75_.out)
                   have y9_ := Aside0.mk (Kd.R_drew y76_.out)
                   have y10_ := Aside0.mk (blk_drew y12_.out)
                   have y11_ := Aside0.mk (below_drew1 HB.out)
                   clear y74_
                   clear y75_
                   clear y76_
                   clear y12_
                   clear HB
                   have y74_ := y4_
                   have y75_ := y5_
                   have y76_ := y9_
                   have y12_ := y10_
                   have HB := y11_
                   clear y4_ y5_ y9_ y10_ y11_
                   have x4_ : 0 ≤ (y72_ : Int) := of_decide_eq_true (by first | (with_reducible assumption) | assumption)
                   have x5_ : y72_ < (z32_.length : Int) := of_decide_eq_true (by first | (with_reducible assumption) | assumption)
                   obtain ⟨x6_, x7_, x8_⟩ := Kd.at_int (Kd.R_reads' y75_.out).2.2 y72_ x4_ x5_
                   cases x7_
                   replace x4_ := eq_true x4_
                   replace x5_ := eq_true x5_
                   have x9_ : 0 ≤ (y72_ : Int) := of_decide_eq_true (by first | (with_reducible assumption) | assumption)
                   have x10_ : y72_ < (z32_.length : Int) := of_decide_eq_true (by first | (with_reducible assumption) | assumption)
                   obtain ⟨x11_, x12_, x13_⟩ := Kd.at_int (Kd.R_reads' y75_.out).2.2 y72_ x9_ x10_
                   obtain rfl : x6_ = x11_ := (by injection x12_)
                   replace x9_ := eq_true x9_
                   replace x10_ := eq_true x10_
                   refine start_ (n := 12) (S := fun w' => w'.cell? (x6_.add (y72_).toNat) = some (.int .i64 (rd z32_ y72_)) ∧ w'.cell? (x6_.add (y72_).toNat) = some (.int .i64 (rd z32_ y72_))) (ds := []) #[false, false, false, false, false, false, false, false, false, false, false, false] (by kernel_rfl) rfl rfl ⟨x8_, x13_⟩ (fun hHeld => ?_); refine with_tabW laws_FnAncestors.tab13 laws_FnAncestors.bits13 (fun HT_ HW_ => ?_)
                   generalize wr.drew = x14_ at y74_ y75_ y76_ y12_ HB x8_ x13_ hHeld ⊢
                   refine pure_ (i := 0) (N := some 50) (v := ?_) (a' := ?_) #[true, false, false, false, false, false, false, false, false, false, false, false] rfl rfl (any_of HT_.out (by kernel_rfl)) (fun _ _ _ h => h) (Or.inl ⟨by rfl, ?_⟩) ?_ ?_
                   rotate_left
                   · intro w'
                     go_simp
                     with_reducible rfl
                   rotate_left
                   · simp only [Act.put, List.setIfInBounds_toArray, List.set_cons_zero, List.set_cons_succ, i64_w, i32_w]
                     rfl
                   refine pure_ (i := 1) (N := some 51) (v := ?_) (a' := ?_) #[true, true, false, false, false, false, false, false, false, false, false, false] rfl rfl (any_of HT_.out (by kernel_rfl)) (fun _ _ _ h => h) (Or.inl ⟨by rfl, ?_⟩) ?_ ?_
                   rotate_left
                   · intro w'
                     go_simp
                     with_reducible rfl
                   rotate_left
                   · simp only [Act.put, List.setIfInBounds_toArray, List.set_cons_zero, List.set_cons_succ, i64_w, i32_w]
                     rfl
                   refine pure_ (i := 2) (N := some 52) (v := ?_) (a' := ?_) #[true, true, true, false, false, false, false, false, false, false, false, false] rfl rfl (any_of HT_.out (by kernel_rfl)) (fun _ _ _ h => h) (Or.inl ⟨by rfl, ?_⟩) ?_ ?_
                   rotate_left
                   · intro w'
                     go_simp
                     with_reducible rfl
                   rotate_left
                   · simp only [Act.put, List.setIfInBounds_toArray, List.set_cons_zero, List.set_cons_succ, i64_w, i32_w]
                     rfl
                   refine pure_ (i := 3) (N := some 53) (v := ?_) (a' := ?_) #[true, true, true, true, false, false, false, false, false, false, false, false] rfl rfl (any_of HT_.out (by kernel_rfl)) (fun _ _ _ h => h) (Or.inl ⟨by rfl, ?_⟩) ?_ ?_
                   rotate_left
                   · intro w'
                     go_simp
                     with_reducible rfl
                   rotate_left
                   · simp only [Act.put, List.setIfInBounds_toArray, List.set_cons_zero, List.set_cons_succ, i64_w, i32_w]
                     rfl
                   refine pure_ (i := 4) (N := some 54) (v := ?_) (a' := ?_) #[true, true, true, true, true, false, false, false, false, false, false, false] rfl rfl (any_of HT_.out (by kernel_rfl)) (fun _ _ _ h => h) (Or.inl ⟨by rfl, ?_⟩) ?_ ?_
                   rotate_left
                   · intro w'
                     go_simp
                     with_reducible rfl
                   rotate_left
                   · simp only [Act.put, List.setIfInBounds_toArray, List.set_cons_zero, List.set_cons_succ, i64_w, i32_w]
                     rfl
                   refine pure_ (i := 7) (N := some 57) (v := ?_) (a' := ?_) #[true, true, true, true, true, false, false, true, false, false, false, false] rfl rfl (any_of HT_.out (by kernel_rfl)) (fun _ _ _ h => h) (Or.inl ⟨by rfl, ?_⟩) ?_ ?_
                   rotate_left
                   · intro w'
                     go_simp
                     with_reducible rfl
                   rotate_left
                   · simp only [Act.put, List.setIfInBounds_toArray, List.set_cons_zero, List.set_cons_succ, i64_w, i32_w]
                     rfl
                   refine pure_ (i := 8) (N := some 58) (v := ?_) (a' := ?_) #[true, true, true, true, true, false, false, true, true, false, false, false] rfl rfl (any_of HT_.out (by kernel_rfl)) (fun _ _ _ h => h) (Or.inl ⟨by rfl, ?_⟩) ?_ ?_
                   rotate_left
                   · intro w'
                     go_simp
                     with_reducible rfl
                   rotate_left
                   · simp only [Act.put, List.setIfInBounds_toArray, List.set_cons_zero, List.set_cons_succ, i64_w, i32_w]
                     rfl
                   refine pure_ (i := 9) (N := some 59) (v := ?_) (a' := ?_) #[true, true, true, true, true, false, false, true, true, true, false, false] rfl rfl (any_of HT_.out (by kernel_rfl)) (fun _ _ _ h => h) (Or.inl ⟨by rfl, ?_⟩) ?_ ?_
                   rotate_left
                   · intro w'
                     go_simp
                     with_reducible rfl
                   rotate_left
                   · simp only [Act.put, List.setIfInBounds_toArray, List.set_cons_zero, List.set_cons_succ, i64_w, i32_w]
                     rfl
                   refine take_ (i := 5) (N := some 55) (v := ?_) (a' := ?_) #[true, true, true, true, true, true, false, true, true, true, false, false] rfl rfl (take_ofW HT_.out HW_.out (by kernel_rfl)) (fun _ _ _ h => h) (Or.inl ⟨by rfl, ?_⟩) hHeld ?_ ?_
                   rotate_left
                   · rintro w' ⟨y45_, y46_⟩
                     go_simp
                     with_reducible rfl
                   rotate_left
                   · simp only [Act.put, List.setIfInBounds_toArray, List.set_cons_zero, List.set_cons_succ, i64_w, i32_w]
                     rfl
                   refine take_ (i := 10) (N := some 60) (v := ?_) (a' := ?_) #[true, true, true, true, true, true, false, true, true, true, true, false] rfl rfl (take_ofW HT_.out HW_.out (by kernel_rfl)) (fun _ _ _ h => h) (Or.inl ⟨by rfl, ?_⟩) hHeld ?_ ?_
                   rotate_left
                   · rintro w' ⟨y45_, y46_⟩
                     go_simp
                     with_reducible rfl
                   rotate_left
                   · simp only [Act.put, List.setIfInBounds_toArray, List.set_cons_zero, List.set_cons_succ, i64_w, i32_w]
                     rfl
                   refine one_ (i := 6) (N := some 56) #[true, true, true, true, true, true, true, true, true, true, true, false] rfl rfl (one_of HT_.out (by kernel_rfl)) (by decide) (fun K hK => ?_)
                   refine goes_ Try.func35 (by kernel_rfl) rfl #[.slice y65_ z23_.length y66_, .int .i64 (Int.tmod (rd z14_ 1) (wrap64 (z9_ * z10_))), .int .i64 (rd z32_ y72_)] (by rfl) rfl rfl (by (try simp only [List.map_toArray, List.map_cons, List.map_nil]); first | done | rfl | (simp only [List.length_drop, List.length_take]; rfl)) ?_
                   with_reducible refine (impl_CommonAncestor.calls _ _ _ _ _ _ _ _ ?side1 ?side2 y84_.out).mono ?_
                   (case side1 => repeat (first | exact (Kd.R_reads' y74_.out).2.2 | (with_reducible refine Kd.C_alloc ?_ _) | (with_reducible refine Kd.C_drewN ?_ _) | (with_reducible refine Kd.C_drew ?_)))
                   (case side2 => exact (Kd.R_reads' y74_.out).2.1)
                   rintro e x15_ ⟨rfl, hb⟩
                   have x16_ := (hb.cell (World.block_lt_of_cell? _ _ (hHeld.1))).trans (hHeld.1)
                   have x17_ := (hb.cell (World.block_lt_of_cell? _ _ (hHeld.2))).trans (hHeld.2)
                   refine ⟨_, rfl, ?_⟩
                   have y4_ := Aside0.mk (Kd.R_below (by (with_reducible repeat (first | apply Kd.R_alloc | apply Kd.R_drewN | apply Kd.R_drew)); exact y74_.out) hb)
                   have y5_ := Aside0.mk (Kd.R_below (by (with_reducible repeat (first | apply Kd.R_alloc | apply Kd.R_drewN | apply Kd.R_drew)); exact y75_.out) hb)
                   have y9_ := Aside0.mk (Kd.R_below (by (with_reducible repeat (first | apply Kd.R_alloc | apply Kd.R_drewN | apply Kd.R_drew)); exact y76_.out) hb)
                   have y10_ := Aside0.mk (blk_below (g := y7_) (o := .cells #[.int .i64 z9_, .int .i64 z10_, .slice y21_ z11_.length y22_] 34 (0, 0)) (by (with_reducible repeat (first | refine blk_drewN ?_ _ | refine blk_drew ?_ | refine blk_alloc ?_ _)); exact y12_.out) hb)
                   have y11_ := Aside0.mk (below_step (by repeat (first | (with_reducible first | exact HB.out | apply below_alloc | apply pw_below_drewN | apply below_drew1 | refine below_set ?_ y14_.out) | exact HB.out)) hb)
                   clear y74_
                   clear y75_
                   clear y76_
                   clear y12_
                   clear HB
                   have y74_ := y4_
                   have y75_ := y5_
                   have y76_ := y9_
                   have y12_ := y10_
                   have HB := y11_
                   clear y4_ y5_ y9_ y10_ y11_
                   (try clear hb)
                   (try clear hb2)
                   (try clear hk)
                   (try clear hi)
                   refine hK.out _ _ ⟨x16_, x17_⟩ (fun hHeld => ?_)
                   clear hK K
                   refine norm_ (a' := ?_) ?_ ?_
                   rotate_left
                   · show Act.put _ (some 56) _ = _
                     simp only [Act.put, List.setIfInBounds_toArray, List.set_cons_zero, List.set_cons_succ, i64_w, i32_w]
                     rfl
                   refine pure_ (i := 11) (N := some 61) (v := ?_) (a' := ?_) #[true, true, true, true, true, true, true, true, true, true, true, true] rfl rfl (any_of HT_.out (by kernel_rfl)) (fun _ _ _ h => h) (Or.inl ⟨by rfl, ?_⟩) ?_ ?_
                   rotate_left
                   · intro w'
                     go_simp
                     with_reducible rfl
                   rotate_left
                   · simp only [Act.put, List.setIfInBounds_toArray, List.set_cons_zero, List.set_cons_succ, i64_w, i32_w]
                     rfl
                   refine done_ (done_of HT_.out (by kernel_rfl)) ?_
                   try go_wp2
                   first
                     | skip
                       go_roundg y77_
                       case measure => have := y73_.out; omega
                       case rel => exact ⟨(wrap64 (y72_ + 1)), (by first | rfl | (simp; done) | (simp [*]; done)), H', ⟨by have := y73_.out; omega⟩, ⟨by (with_reducible repeat (first | apply Kd.R_alloc | apply Kd.R_drewN | apply Kd.R_drew)); exact y74_.out⟩, ⟨by (with_reducible repeat (first | apply Kd.R_alloc | apply Kd.R_drewN | apply Kd.R_drew)); exact y75_.out⟩, ⟨by (with_reducible repeat (first | apply Kd.R_alloc | apply Kd.R_drewN | apply Kd.R_drew)); exact y76_.out⟩, ⟨by (with_reducible repeat (first | refine blk_drewN ?_ _ | refine blk_drew ?_ | refine blk_alloc ?_ _)); exact y12_.out⟩, ⟨by repeat (first | (with_reducible first | exact HB.out | apply below_alloc | apply pw_below_drewN | apply below_drew1 | refine below_set ?_ y14_.out) | exact HB.out)⟩⟩
                     | skip
                       go_ret
                       exact ⟨by first | rfl | (simp [errW_none, errW_some] <;> rfl) | (simp [*, errW_none, errW_some] <;> rfl), by repeat (first | (with_reducible first | exact HB.out | apply below_alloc | apply pw_below_drewN | apply below_drew1 | refine below_set ?_ y14_.out) | exact HB.out)⟩
                 | skip
                   obtain ⟨x1_, x2_, x3_⟩ := Kd.R_slice y75_.out
                   subst x3_
                   have x4_ : 0 ≤ (0 : Int) := (by omega)
                   have x5_ : 0 < (z32_.length : Int) := of_decide_eq_true (by first | (with_reducible assumption) | assumption)
                   obtain ⟨x6_, x7_, x8_⟩ := Kd.at_int (Kd.R_reads' y75_.out).2.2 0 x4_ x5_
                   cases x7_
                   have x9_ : (0 < z32_.length) = True := eq_true (by omega)
                   (try rw [show ((0 : Int)).toNat = 0 from rfl] at x8_)
                   (try rw [Addr.add_zero'] at x8_)
                   replace x4_ := eq_true x4_
                   replace x5_ := eq_true x5_
                   go_wp2_with (first | (go_at_call 35; (with_reducible refine (impl_CommonAncestor.calls _ _ _ _ _ _ _ _ ?side1 ?side2 y91_.out).mono ?_); (case side1 => repeat (first | exact (Kd.R_reads' y74_.out).2.2 | (with_reducible refine Kd.C_alloc ?_ _) | (with_reducible refine Kd.C_drewN ?_ _) | (with_reducible refine Kd.C_drew ?_))); (case side2 => exact (Kd.R_reads' y74_.out).2.1); rintro e x10_ ⟨rfl, hb⟩; have y4_ := Aside0.mk (Kd.R_below (by (with_reducible repeat (first | apply Kd.R_alloc | apply Kd.R_drewN | apply Kd.R_drew)); exact y74_.out) hb); have y5_ := Aside0.mk (Kd.R_below (by (with_reducible repeat (first | apply Kd.R_alloc | apply Kd.R_drewN | apply Kd.R_drew)); exact y75_.out) hb); have y9_ := Aside0.mk (Kd.R_below (by (with_reducible repeat (first | apply Kd.R_alloc | apply Kd.R_drewN | apply Kd.R_drew)); exact y76_.out) hb); have y10_ := Aside0.mk (blk_below (g := y7_) (o := .cells #[.int .i64 z9_, .int .i64 z10_, .slice y21_ z11_.length y22_] 34 (0, 0)) (by (with_reducible repeat (first | refine blk_drewN ?_ _ | refine blk_drew ?_ | refine blk_alloc ?_ _)); exact y12_.out) hb); have y11_ := Aside0.mk (below_step (by repeat (first | (with_reducible first | exact HB.out | apply below_alloc | apply pw_below_drewN | apply below_drew1 | refine below_set ?_ y14_.out) | exact HB.out)) hb); clear y74_; clear y75_; clear y76_; clear y12_; clear HB; have y74_ := y4_; have y75_ := y5_; have y76_ := y9_; have y12_ := y10_; have HB := y11_; clear y4_ y5_ y9_ y10_ y11_; (try clear hb); (try clear hb2); (try clear hk); (try clear hi)) | (go_at_call 35; (with_reducible refine (impl_CommonAncestor.calls _ _ _ _ _ _ _ _ ?side1 ?side2 y94_.out).mono ?_); (case side1 => repeat (first | exact (Kd.R_reads' y74_.out).2.2 | (with_reducible refine Kd.C_alloc ?_ _) | (with_reducible refine Kd.C_drewN ?_ _) | (with_reducible refine Kd.C_drew ?_))); (case side2 => exact (Kd.R_reads' y74_.out).2.1); rintro e x11_ ⟨rfl, hb⟩; have y4_ := Aside0.mk (Kd.R_below (by (with_reducible repeat (first | apply Kd.R_alloc | apply Kd.R_drewN | apply Kd.R_drew)); exact y74_.out) hb); have y5_ := Aside0.mk (Kd.R_below (by (with_reducible repeat (first | apply Kd.R_alloc | apply Kd.R_drewN | apply Kd.R_drew)); exact y75_.out) hb); have y9_ := Aside0.mk (Kd.R_below (by (with_reducible repeat (first | apply Kd.R_alloc | apply Kd.R_drewN | apply Kd.R_drew)); exact y76_.out) hb); have y10_ := Aside0.mk (blk_below (g := y7_) (o := .cells #[.int .i64 z9_, .int .i64 z10_, .slice y21_ z11_.length y22_] 34 (0, 0)) (by (with_reducible repeat (first | refine blk_drewN ?_ _ | refine blk_drew ?_ | refine blk_alloc ?_ _)); exact y12_.out) hb); have y11_ := Aside0.mk (below_step (by repeat (first | (with_reducible first | exact HB.out | apply below_alloc | apply pw_below_drewN | apply below_drew1 | refine below_set ?_ y14_.out) | exact HB.out)) hb); clear y74_; clear y75_; clear y76_; clear y12_; clear HB; have y74_ := y4_; have y75_ := y5_; have y76_ := y9_; have y12_ := y10_; have HB := y11_; clear y4_ y5_ y9_ y10_ y11_; (try clear hb); (try clear hb2); (try clear hk); (try clear hi)))
                   go_ret
                   exact ⟨by first | rfl | (simp [errW_none, errW_some] <;> rfl) | (simp [*, errW_none, errW_some] <;> rfl), by repeat (first | (with_reducible first | exact HB.out | apply below_alloc | apply pw_below_drewN | apply below_drew1 | refine below_set ?_ y14_.out) | exact HB.out)⟩
                 | skip
                   obtain ⟨x1_, x2_, x3_⟩ := Kd.R_slice y75_.out
                   subst x3_
                   have x4_ : 0 ≤ (0 : Int) := (by omega)
                   have x5_ : 0 < (z32_.length : Int) := of_decide_eq_true (by first | (with_reducible assumption) | assumption)
                   obtain ⟨x6_, x7_, x8_⟩ := Kd.at_int (Kd.R_reads' y75_.out).2.2 0 x4_ x5_
                   cases x7_
                   have x9_ : (0 < z32_.length) = True := eq_true (by omega)
                   (try rw [show ((0 : Int)).toNat = 0 from rfl] at x8_)
                   (try rw [Addr.add_zero'] at x8_)
                   replace x4_ := eq_true x4_
                   replace x5_ := eq_true x5_
                   go_wp2
                   go_ret
                   exact ⟨by first | rfl | (simp [errW_none, errW_some] <;> rfl) | (simp [*, errW_none, errW_some] <;> rfl), by repeat (first | (with_reducible first | exact HB.out | apply below_alloc | apply pw_below_drewN | apply below_drew1 | refine below_set ?_ y14_.out) | exact HB.out)⟩
                 | skip
                   obtain ⟨x1_, x2_, x3_⟩ := Kd.R_slice y75_.out
                   subst x3_
                   go_wp2
                   go_ret
                   exact ⟨by first | rfl | (simp [errW_none, errW_some] <;> rfl) | (simp [*, errW_none, errW_some] <;> rfl), by repeat (first | (with_reducible first | exact HB.out | apply below_alloc | apply pw_below_drewN | apply below_drew1 | refine below_set ?_ y14_.out) | exact HB.out)⟩
         · rw [if_neg z29_] at H
           exact absurd H (by simp)
       · rw [if_neg z26_] at H
         exact absurd H (by simp)
   · rw [if_neg z17_] at H
     exact absurd H (by simp)
end Go.Proofs.Ytkkoenbmokbglaa.F
end
section
namespace Go.Proofs.Ytkkoenbmokbglaa.Pure
open Go.RowKit Go.Proofs.YtkkoenbmokbglaaW.PrintWords Go.Proofs.YtkkoenbmokbglaaW.PrintLast Go.Proofs.YtkkoenbmokbglaaW.PrintMore
set_option linter.unusedVariables false
set_option linter.unusedSimpArgs false
theorem w64 {x : Int} (h : -9223372036854775808 ≤ x) (h' : x ≤ 9223372036854775807) : wrap64 x = x := by unfold wrap64; omega
theorem rd_at {l : List Int} {j : Nat} (h : j < l.length) : rd l (j : Int) = l[j] := by simp [rd, h]
theorem rd_mem {l : List Int} {i : Int} (h0 : 0 ≤ i) (h : i < l.length) : rd l i ∈ l := by
  obtain ⟨j, rfl⟩ := Int.eq_ofNat_of_zero_le h0
  rw [rd_at (by omega)]; exact List.getElem_mem _

theorem Ev.ifp {α : Type} {c : Prop} [Decidable c] {f g : Nat → Option α} {r : α} (h : c) (e : Ev f r) : Ev (fun k => if c then f k else g k) r := Ev.congr (fun k => if_pos h) e
theorem Ev.ifn {α : Type} {c : Prop} [Decidable c] {f g : Nat → Option α} {r : α} (h : ¬ c) (e : Ev g r) : Ev (fun k => if c then f k else g k) r := Ev.congr (fun k => if_neg h) e
theorem split_at {α : Type} {l : List α} {j : Nat} (h : j < l.length) : l = l.take j ++ (l[j] :: l.drop (j + 1)) := by
  rw [← List.drop_eq_getElem_cons h, List.take_append_drop]
theorem mem_take_succ {α : Type} {l : List α} {j : Nat} (h : j < l.length) {x : α} : x ∈ l.take (j + 1) ↔ x ∈ l.take j ∨ x = l[j] := by
  rw [List.take_succ_eq_append_getElem h, List.mem_append, List.mem_singleton]
theorem len_beq0 {α : Type} (l : List α) : ((l.length : Int) == 0) = decide (l = []) := by cases l <;> simp <;> omega
end Go.Proofs.Ytkkoenbmokbglaa.Pure
end
section
namespace Go.Proofs.Ytkkoenbmokbglaa.Pure
open Go.RowKit Go.Proofs.Ytkkoenbmokbglaa.F Go.Proofs.YtkkoenbmokbglaaW.PrintWords Go.Proofs.YtkkoenbmokbglaaW.PrintLast Go.Proofs.YtkkoenbmokbglaaW.PrintMore
theorem inside_f (a b c : Int) : impl_inside.f a b c = some (decide (b ≤ a ∧ a ≤ c)) := by
  unfold impl_inside.f; by_cases h : b ≤ a <;> simp [h]
theorem l01In_f (a b c : Int) : spec_l01In.f a b c = some (decide (b ≤ a ∧ a ≤ c)) := by
  unfold spec_l01In.f; by_cases h : b ≤ a <;> simp [h]

end Go.Proofs.Ytkkoenbmokbglaa.Pure
end
section
namespace Go.Proofs.Ytkkoenbmokbglaa.Pure
open Go.RowKit Go.Proofs.Ytkkoenbmokbglaa.F Go.Proofs.YtkkoenbmokbglaaW.PrintWords Go.Proofs.YtkkoenbmokbglaaW.PrintLast Go.Proofs.YtkkoenbmokbglaaW.PrintMore
set_option linter.unusedVariables false
set_option linter.unusedSimpArgs false
def okG (w h : Int) : Prop := (1 ≤ w ∧ w ≤ 4) ∧ 1 ≤ h ∧ h ≤ 4
instance (w h : Int) : Decidable (okG w h) := inferInstanceAs (Decidable (_ ∧ _))
def cnt (w h : Int) : Int := if okG w h then w * h else 0
def isN (w h n : Int) : Prop := 0 ≤ n ∧ n < cnt w h
instance (w h n : Int) : Decidable (isN w h n) := inferInstanceAs (Decidable (_ ∧ _))
def nodeAt (w h x y : Int) : Int := if okG w h ∧ (0 ≤ x ∧ x < w) ∧ 0 ≤ y ∧ y < h then y * w + x else -1
def next (w h n p : Int) : Int :=
  if isN w h n then
    (if p = 0 then nodeAt w h (n % w) (n / w - 1) else if p = 1 then nodeAt w h (n % w + 1) (n / w) else if p = 2 then nodeAt w h (n % w) (n / w + 1) else if p = 3 then nodeAt w h (n % w - 1) (n / w) else if p = 4 then n else -1)
  else -1
def leads (w h c : Int) : Prop := (0 ≤ c ∧ c < 4 * cnt w h) ∧ 0 ≤ next w h (c / 4) (c % 4)
instance (w h c : Int) : Decidable (leads w h c) := inferInstanceAs (Decidable (_ ∧ _))
def opp (p : Int) : Int := if p = 4 then 4 else if 0 ≤ p ∧ p ≤ 3 then (p + 2) % 4 else -1

theorem mul_small {w h : Int} (h1 : okG w h) : 1 ≤ w * h ∧ w * h ≤ 16 := by
  obtain ⟨⟨a, b⟩, c, d⟩ := h1
  have e1 : w = 1 ∨ w = 2 ∨ w = 3 ∨ w = 4 := by omega
  rcases e1 with rfl | rfl | rfl | rfl <;> omega
theorem cnt_range (w h : Int) : 0 ≤ cnt w h ∧ cnt w h ≤ 16 := by
  unfold cnt; split
  · rename_i h1; have := mul_small h1; omega
  · omega
theorem isN_ok {w h n : Int} (h1 : isN w h n) : okG w h ∧ 0 ≤ n ∧ n < w * h ∧ n < 16 := by
  obtain ⟨a, b⟩ := h1
  unfold cnt at b
  split at b
  · rename_i h2; have := mul_small h2; exact ⟨h2, a, b, by omega⟩
  · omega
theorem gridOk_f (w h : Int) : impl_GridOk.f w h = some (decide (okG w h)) := by
  unfold impl_GridOk.f okG
  simp only [inside_f, Option.bind_some]
  by_cases h1 : 1 ≤ w ∧ w ≤ 4 <;> simp [h1]
theorem specGridOk_eq : spec_GridOk.f = impl_GridOk.f := by
  funext w h; unfold spec_GridOk.f impl_GridOk.f; simp only [l01In_f, inside_f]
theorem nodeCount_f (w h : Int) : impl_NodeCount.f w h = some (cnt w h) := by
  unfold impl_NodeCount.f cnt
  simp only [gridOk_f, Option.bind_some]
  by_cases h1 : okG w h
  · have := mul_small h1
    simp only [h1, decide_true, if_true]; rw [w64 (by omega) (by omega)]
  · simp [h1]
theorem specNodeCount_eq : spec_NodeCount.f = impl_NodeCount.f := by
  funext w h; unfold spec_NodeCount.f impl_NodeCount.f; rw [specGridOk_eq]
theorem isNode_f (w h n : Int) : impl_isNode.f w h n = some (decide (isN w h n)) := by
  have := cnt_range w h
  unfold impl_isNode.f
  simp only [nodeCount_f, Option.bind_some, inside_f]
  rw [w64 (by omega) (by omega)]
  exact congrArg some (decide_eq_decide.2 (by unfold isN; omega))
theorem specHas_eq : spec_l02Has.f = impl_isNode.f := by
  funext w h n; unfold spec_l02Has.f impl_isNode.f; rw [specNodeCount_eq]; simp only [l01In_f, inside_f]
theorem nodeAt_f (w h x y : Int) : impl_NodeAt.f w h x y = some (nodeAt w h x y) := by
  unfold impl_NodeAt.f nodeAt
  simp only [gridOk_f, Option.bind_some, inside_f]
  by_cases h1 : okG w h
  · have h2 := mul_small h1
    have h3 := h1
    obtain ⟨⟨a, b⟩, c, d⟩ := h3
    rw [if_pos (by simpa using h1), w64 (by omega) (by omega)]
    by_cases hx : 0 ≤ x ∧ x < w
    · rw [if_pos (by simp; omega), w64 (by omega) (by omega)]
      by_cases hy : 0 ≤ y ∧ y < h
      · rw [if_pos (by simp; omega), if_pos ⟨h1, hx, hy⟩]
        have h5 : 0 ≤ y * w ∧ y * w ≤ 12 := by
          have e1 : w = 1 ∨ w = 2 ∨ w = 3 ∨ w = 4 := by omega
          rcases e1 with rfl | rfl | rfl | rfl <;> omega
        rw [w64 (x := y * w) (by omega) (by omega), w64 (by omega) (by omega)]
      · rw [if_neg (by simp; omega), if_neg (fun e => hy e.2.2)]
    · rw [if_neg (by simp; omega), if_neg (fun e => hx e.2.1)]
  · rw [if_neg (by simpa using h1), if_neg (fun e => h1 e.1)]
theorem specNodeAt_eq : spec_NodeAt.f = impl_NodeAt.f := by
  funext w h x y; unfold spec_NodeAt.f impl_NodeAt.f; rw [specGridOk_eq]; simp only [l01In_f, inside_f]
theorem next_f (w h n p : Int) : impl_NextNode.f w h n p = some (next w h n p) := by
  unfold impl_NextNode.f next
  simp only [isNode_f, Option.bind_some, nodeAt_f]
  by_cases h1 : isN w h n
  · obtain ⟨⟨⟨a, b⟩, c, d⟩, e, f, g⟩ := isN_ok h1
    have m1 : Int.tmod n w = n % w := Int.tmod_eq_emod_of_nonneg e
    have m2 : Int.tdiv n w = n / w := Int.tdiv_eq_ediv_of_nonneg e
    have m3 : 0 ≤ n / w := Int.ediv_nonneg e (by omega)
    have m4 : n / w ≤ n := Int.ediv_le_self _ e
    have m5 : 0 ≤ n % w := Int.emod_nonneg _ (by omega)
    have m6 : n % w < w := Int.emod_lt_of_pos _ (by omega)
    rw [if_pos (by simpa using h1), if_pos h1, if_neg (by omega), m1, m2, w64 (x := n / w) (by omega) (by omega), w64 (x := n / w - 1) (by omega) (by omega), w64 (x := n / w + 1) (by omega) (by omega), w64 (x := n % w + 1) (by omega) (by omega), w64 (x := n % w - 1) (by omega) (by omega)]
    repeat' split
    all_goals rfl
  · rw [if_neg (by simpa using h1), if_neg h1]
theorem specNext_eq : spec_NextNode.f = impl_NextNode.f := by
  funext w h n p; unfold spec_NextNode.f impl_NextNode.f; rw [specHas_eq, specNodeAt_eq]
theorem leads_f (w h c : Int) : impl_leads.f w h c = some (decide (leads w h c)) := by
  have := cnt_range w h
  unfold impl_leads.f leads
  simp only [nodeCount_f, Option.bind_some, inside_f, next_f]
  rw [w64 (x := 4 * cnt w h) (by omega) (by omega), w64 (x := 4 * cnt w h - 1) (by omega) (by omega)]
  by_cases h1 : 0 ≤ c ∧ c < 4 * cnt w h
  · rw [if_pos (by simp; omega), Int.tdiv_eq_ediv_of_nonneg h1.1, Int.tmod_eq_emod_of_nonneg h1.1, w64 (by omega) (by omega)]
    simp [h1]
  · rw [if_neg (by simp; omega)]; simp [h1]
theorem specLeads_eq : spec_l03Leads.f = impl_leads.f := by
  funext w h c; unfold spec_l03Leads.f impl_leads.f; rw [specNodeCount_eq, specNext_eq]; simp only [l01In_f, inside_f]
theorem opp_f (p : Int) : impl_Opposite.f p = some (opp p) := by
  unfold impl_Opposite.f opp
  simp only [inside_f, Option.bind_some]
  split
  · rfl
  · by_cases h : 0 ≤ p ∧ p ≤ 3
    · rw [if_pos (by simpa using h), if_pos h, w64 (by omega) (by omega), Int.tmod_eq_emod_of_nonneg (by omega)]
    · rw [if_neg (by simpa using h), if_neg h]
theorem specOpp_eq : spec_Opposite.f = impl_Opposite.f := by
  funext p; unfold spec_Opposite.f impl_Opposite.f; simp only [l01In_f, inside_f]
theorem next_range (w h n p : Int) : -1 ≤ next w h n p ∧ next w h n p < max 1 (cnt w h) := by
  unfold next
  by_cases h1 : isN w h n
  · obtain ⟨h2, e, f, g⟩ := isN_ok h1
    have hc : cnt w h = w * h := if_pos h2
    have k : ∀ x y, -1 ≤ nodeAt w h x y ∧ nodeAt w h x y < w * h := by
      intro x y; unfold nodeAt
      split
      · rename_i h3
        obtain ⟨⟨⟨a, b⟩, c, d⟩, ⟨x0, x1⟩, y0, y1⟩ := h3
        have e1 : w = 1 ∨ w = 2 ∨ w = 3 ∨ w = 4 := by omega
        rcases e1 with rfl | rfl | rfl | rfl <;> omega
      · have := mul_small h2; omega
    have := mul_small h2
    rw [if_pos h1, hc]
    have k1 := k (n % w) (n / w - 1); have k2 := k (n % w + 1) (n / w); have k3 := k (n % w) (n / w + 1); have k4 := k (n % w - 1) (n / w)
    repeat' split
    all_goals omega
  · rw [if_neg h1]; omega
theorem l03Find_ev (l : List Int) (v : Int) (hl : l.length ≤ 9223372036854775807) : Ev (fun k => spec_l03Find.f k l v) (decide (v ∈ l)) := by
  have key : ∀ d j, j + d = l.length → v ∉ l.take j → Ev (fun k => spec_l03Find.l0 k l v (j : Int)) (decide (v ∈ l)) := by
    intro d
    induction d with
    | zero =>
      intro j hj hv
      rw [List.take_of_length_le (by omega)] at hv
      rw [decide_eq_false hv]
      exact Ev.step (f := fun _ => some false) (fun k => by simp only [spec_l03Find.l0]; rw [if_neg (by omega)]) (Ev.now _)
    | succ d ih =>
      intro j hj hv
      by_cases h : l[j]'(by omega) = v
      · rw [decide_eq_true (h ▸ List.getElem_mem _)]
        refine Ev.step (f := fun _ => some true) (fun k => ?_) (Ev.now _)
        simp only [spec_l03Find.l0]
        rw [if_pos (by omega), if_pos (by omega), rd_at (by omega), if_pos h]
      · refine Ev.step (fun k => ?_) (ih (j + 1) (by omega) (fun hm => by
          rcases (mem_take_succ (by omega)).1 hm with hm | hm
          · exact hv hm
          · exact h hm.symm))
        simp only [spec_l03Find.l0]
        rw [if_pos (by omega), if_pos (by omega), rd_at (by omega), if_neg h, w64 (by omega) (by omega)]; rfl
  exact key l.length 0 (by omega) (by simp)
def idx (l : List Int) (v : Int) : Int := if v ∈ l then (l.idxOf v : Int) else -1
theorem index_ev (l : List Int) (v : Int) (hl : l.length ≤ 9223372036854775807) : Ev (fun k => slices_Index_int_int.f k l v) (idx l v) := by
  have key : ∀ d j, j + d = l.length → v ∉ l.take j → Ev (fun k => slices_Index_int_int.l0 k l v (l.length : Int) (j : Int)) (idx l v) := by
    intro d
    induction d with
    | zero =>
      intro j hj hv
      rw [List.take_of_length_le (by omega)] at hv
      unfold idx; rw [if_neg hv]
      exact Ev.step (f := fun _ => some (-1)) (fun k => by simp only [slices_Index_int_int.l0]; rw [if_neg (by omega)]) (Ev.now _)
    | succ d ih =>
      intro j hj hv
      by_cases h : v = l[j]'(by omega)
      · have hm : v ∈ l := h ▸ List.getElem_mem _
        have hi : l.idxOf v = j := by
          have e : l = l.take j ++ (v :: l.drop (j + 1)) := by rw [h]; exact split_at (by omega)
          rw [e, List.idxOf_append]; simp [hv]; omega
        unfold idx; rw [if_pos hm, hi]
        refine Ev.step (f := fun _ => some (j : Int)) (fun k => ?_) (Ev.now _)
        simp only [slices_Index_int_int.l0]
        rw [if_pos (by omega), if_pos (by omega), if_pos (by omega), rd_at (by omega), if_pos h]
      · refine Ev.step (fun k => ?_) (ih (j + 1) (by omega) (fun hm => by
          rcases (mem_take_succ (by omega)).1 hm with hm | hm
          · exact hv hm
          · exact h hm))
        simp only [slices_Index_int_int.l0]
        rw [if_pos (by omega), if_pos (by omega), if_pos (by omega), rd_at (by omega), if_neg h, w64 (by omega) (by omega)]; rfl
  exact key l.length 0 (by omega) (by simp)
theorem contains_ev (l : List Int) (v : Int) (hl : l.length ≤ 9223372036854775807) : Ev (fun k => slices_Contains_int_int.f k l v) (decide (v ∈ l)) := by
  refine Ev.bind (index_ev l v hl) ?_
  have : decide (idx l v ≥ 0) = decide (v ∈ l) := by
    unfold idx; by_cases h : v ∈ l <;> simp [h]
  rw [this]; exact Ev.now _
end Go.Proofs.Ytkkoenbmokbglaa.Pure
end
section
namespace Go.Proofs.Ytkkoenbmokbglaa.Pure
open Go.RowKit Go.Proofs.YtkkoenbmokbglaaW.PrintWords Go.Proofs.YtkkoenbmokbglaaW.PrintLast Go.Proofs.YtkkoenbmokbglaaW.PrintMore
set_option linter.unusedVariables false
set_option linter.unusedSimpArgs false
theorem ev_from {σ α : Type} {g : Nat → σ → Int → Option α} (n : Nat) (step : σ → Nat → σ) (inv : Nat → σ → Prop) (fin : σ → α)
    (he : ∀ s, inv n s → Ev (fun k => g k s (n : Int)) (fin s))
    (hs : ∀ j s, j < n → inv j s → inv (j + 1) (step s j) ∧ ∀ r, Ev (fun k => g k (step s j) ((j + 1 : Nat) : Int)) r → Ev (fun k => g k s (j : Int)) r) :
    ∀ d j s, j + d = n → inv j s → Ev (fun k => g k s (j : Int)) (fin ((List.range' j d).foldl step s)) := by
  intro d
  induction d with
  | zero => intro j s hj hi; have : j = n := by omega
            subst this; exact he s hi
  | succ d ih =>
    intro j s hj hi
    obtain ⟨h1, h2⟩ := hs j s (by omega) hi
    exact h2 _ (by simpa [List.range'_succ] using ih (j + 1) (step s j) (by omega) h1)
theorem ev_for {σ α : Type} {g : Nat → σ → Int → Option α} (n : Nat) (step : σ → Nat → σ) (inv : Nat → σ → Prop) (fin : σ → α) (s0 : σ) (h0 : inv 0 s0)
    (he : ∀ s, inv n s → Ev (fun k => g k s (n : Int)) (fin s))
    (hs : ∀ j s, j < n → inv j s → inv (j + 1) (step s j) ∧ ∀ r, Ev (fun k => g k (step s j) ((j + 1 : Nat) : Int)) r → Ev (fun k => g k s (j : Int)) r) :
    Ev (fun k => g k s0 0) (fin ((List.range n).foldl step s0)) := by
  rw [List.range_eq_range']; exact ev_from n step inv fin he hs n 0 s0 (by omega) h0
theorem ev_all {g : Nat → Int → Option Bool} (n : Nat) (good : Nat → Prop) [DecidablePred good] (fin : Bool) (he : Ev (fun k => g k (n : Int)) fin)
    (hy : ∀ j, j < n → good j → ∀ r, Ev (fun k => g k ((j + 1 : Nat) : Int)) r → Ev (fun k => g k (j : Int)) r) (hn : ∀ j, j < n → (∀ i, i < j → good i) → ¬ good j → Ev (fun k => g k (j : Int)) false) :
    Ev (fun k => g k 0) (decide (∀ j, j < n → good j) && fin) := by
  have key : ∀ d j, j + d = n → (∀ i, i < j → good i) → Ev (fun k => g k (j : Int)) (decide (∀ i, i < n → good i) && fin) := by
    intro d
    induction d with
    | zero => intro j hj hg; have : j = n := by omega
              subst this; rw [decide_eq_true hg]; exact he
    | succ d ih =>
      intro j hj hg
      by_cases h : good j
      · exact hy j (by omega) h _ (ih (j + 1) (by omega) (fun i hi => by
          by_cases e : i = j
          · exact e ▸ h
          · exact hg i (by omega)))
      · rw [decide_eq_false (fun a => h (a j (by omega)))]; exact hn j (by omega) hg h
  exact key n 0 (by omega) (by intro i hi; omega)
theorem foldl_map {α : Type} (f : Nat → α) (l : List Nat) (s : List α) : l.foldl (fun s j => s ++ [f j]) s = s ++ l.map f := by
  induction l generalizing s with
  | nil => simp
  | cons a l ih => rw [List.foldl_cons, ih]; simp
end Go.Proofs.Ytkkoenbmokbglaa.Pure
end
section
namespace Go.Proofs.Ytkkoenbmokbglaa.Pure
open Go.RowKit Go.Proofs.Ytkkoenbmokbglaa.F Go.Proofs.YtkkoenbmokbglaaW.PrintWords Go.Proofs.YtkkoenbmokbglaaW.PrintLast Go.Proofs.YtkkoenbmokbglaaW.PrintMore
set_option linter.unusedVariables false
set_option linter.unusedSimpArgs false
def goodAt (w h : Int) (b : List Int) (j : Nat) : Prop := leads w h (rd b (j : Int)) ∧ (0 < j → rd b ((j - 1 : Nat) : Int) < rd b (j : Int))
instance (w h : Int) (b : List Int) (j : Nat) : Decidable (goodAt w h b j) := inferInstanceAs (Decidable (_ ∧ _))
def meshOk (w h : Int) (b : List Int) : Prop := (∀ j, j < b.length → goodAt w h b j) ∧ okG w h
instance (w h : Int) (b : List Int) : Decidable (meshOk w h b) := inferInstanceAs (Decidable (_ ∧ _))
def has (w h : Int) (b : List Int) (c : Int) : Prop := leads w h c ∧ c ∉ b
instance (w h : Int) (b : List Int) (c : Int) : Decidable (has w h b c) := inferInstanceAs (Decidable (_ ∧ _))
def hasC (w h : Int) (b : List Int) (c : Int) : Prop := meshOk w h b ∧ has w h b c
instance (w h : Int) (b : List Int) (c : Int) : Decidable (hasC w h b c) := inferInstanceAs (Decidable (_ ∧ _))
def endC (w h c : Int) : Int := next w h (c / 4) (c % 4)
def backC (w h c : Int) : Int := 4 * endC w h c + opp (c % 4)
def link (w h : Int) (b : List Int) (c : Int) : Prop := has w h b c ∧ has w h b (backC w h c)
instance (w h : Int) (b : List Int) (c : Int) : Decidable (link w h b c) := inferInstanceAs (Decidable (_ ∧ _))
theorem meshOk_ev (w h : Int) (b : List Int) (hb : b.length ≤ 9223372036854775806) : Ev (fun k => impl_MeshOk.f k w h b) (decide (meshOk w h b)) := by
  have := ev_all (g := fun k i => impl_MeshOk.l0 k b (b.length : Int) i w h b) b.length (goodAt w h b) (decide (okG w h))
    (Ev.step (f := fun _ => some (decide (okG w h))) (fun k => by simp only [impl_MeshOk.l0, gridOk_f, Option.bind_some]; rw [if_neg (by omega)]) (Ev.now _))
    (fun j hj hg r hr => Ev.step (fun k => by
      simp only [impl_MeshOk.l0, leads_f, Option.bind_some]
      rw [if_pos (by omega), if_pos (by omega), if_pos (by omega), if_pos (by simpa using hg.1), w64 (x := (j : Int) + 1) (by omega) (by omega)]
      by_cases h0 : 0 < j
      · have := hg.2 h0
        rw [if_pos (by omega), w64 (by omega) (by omega), show ((j : Int) - 1) = ((j - 1 : Nat) : Int) by omega, if_pos (by omega), if_pos (by omega), if_neg (by omega)]; rfl
      · rw [if_neg (by omega)]; rfl) hr)
    (fun j hj hp hg => Ev.step (f := fun _ => some false) (fun k => by
      simp only [impl_MeshOk.l0, leads_f, Option.bind_some]
      rw [if_pos (by omega), if_pos (by omega), if_pos (by omega)]
      by_cases hl : leads w h (rd b (j : Int))
      · rw [if_pos (by simpa using hl)]
        by_cases h0 : 0 < j
        · have : ¬ rd b ((j - 1 : Nat) : Int) < rd b (j : Int) := fun h => hg ⟨hl, fun _ => h⟩
          rw [if_pos (by omega), w64 (by omega) (by omega), show ((j : Int) - 1) = ((j - 1 : Nat) : Int) by omega, if_pos (by omega), if_pos (by omega), if_pos (by omega)]
        · exact absurd ⟨hl, fun h => absurd h h0⟩ hg
      · rw [if_neg (by simpa using hl)]) (Ev.now _))
  rw [show decide (meshOk w h b) = (decide (∀ j, j < b.length → goodAt w h b j) && decide (okG w h)) from Bool.decide_and ..]
  exact this
theorem specMeshOk_ev (w h : Int) (b : List Int) (hb : b.length ≤ 9223372036854775806) : Ev (fun k => spec_MeshOk.f k w h b) (decide (meshOk w h b)) := by
  have := ev_all (g := fun k i => spec_MeshOk.l0 k i w h b) b.length (goodAt w h b) true
    (Ev.step (f := fun _ => some true) (fun k => by simp only [spec_MeshOk.l0]; rw [if_neg (by omega)]) (Ev.now _))
    (fun j hj hg r hr => Ev.step (fun k => by
      simp only [spec_MeshOk.l0, specLeads_eq, leads_f, Option.bind_some]
      rw [if_pos (by omega), if_pos (by omega), if_pos (by simpa using hg.1), w64 (x := (j : Int) + 1) (by omega) (by omega)]
      by_cases h0 : 0 < j
      · have := hg.2 h0
        rw [if_pos (by omega), w64 (by omega) (by omega), show ((j : Int) - 1) = ((j - 1 : Nat) : Int) by omega, if_pos (by omega), if_pos (by omega), if_neg (by omega)]; rfl
      · rw [if_neg (by omega)]; rfl) hr)
    (fun j hj hp hg => Ev.step (f := fun _ => some false) (fun k => by
      simp only [spec_MeshOk.l0, specLeads_eq, leads_f, Option.bind_some]
      rw [if_pos (by omega), if_pos (by omega)]
      by_cases hl : leads w h (rd b (j : Int))
      · rw [if_pos (by simpa using hl)]
        by_cases h0 : 0 < j
        · have : ¬ rd b ((j - 1 : Nat) : Int) < rd b (j : Int) := fun h => hg ⟨hl, fun _ => h⟩
          rw [if_pos (by omega), w64 (by omega) (by omega), show ((j : Int) - 1) = ((j - 1 : Nat) : Int) by omega, if_pos (by omega), if_pos (by omega), if_pos (by omega)]
        · exact absurd ⟨hl, fun h => absurd h h0⟩ hg
      · rw [if_neg (by simpa using hl)]) (Ev.now _))
  unfold spec_MeshOk.f
  simp only [specGridOk_eq, gridOk_f, Option.bind_some]
  by_cases h0 : okG w h
  · refine Ev.ifp (by simpa using h0) ?_
    rw [show decide (meshOk w h b) = (decide (∀ j, j < b.length → goodAt w h b j) && true) by
      rw [show decide (meshOk w h b) = (decide (∀ j, j < b.length → goodAt w h b j) && decide (okG w h)) from Bool.decide_and .., decide_eq_true h0]]
    exact this
  · refine Ev.ifn (by simpa using h0) ?_
    rw [decide_eq_false (fun e : meshOk w h b => h0 e.2)]; exact Ev.now _
theorem hasChannel_ev (w h : Int) (b : List Int) (c : Int) (hb : b.length ≤ 9223372036854775806) : Ev (fun k => impl_HasChannel.f k w h b c) (decide (hasC w h b c)) := by
  refine Ev.bind (meshOk_ev w h b hb) ?_
  by_cases h1 : meshOk w h b
  · refine Ev.ifp (by simpa using h1) ?_
    simp only [leads_f, Option.bind_some]
    by_cases h2 : leads w h c
    · refine Ev.ifp (by simpa using h2) (Ev.bind (contains_ev b c (by omega)) ?_)
      have : (!decide (c ∈ b)) = decide (hasC w h b c) := by simp [hasC, has, h1, h2]
      rw [this]; exact Ev.now _
    · refine Ev.ifn (by simpa using h2) ?_
      rw [decide_eq_false (fun e : hasC w h b c => h2 e.2.1)]; exact Ev.now _
  · refine Ev.ifn (by simpa using h1) ?_
    rw [decide_eq_false (fun e : hasC w h b c => h1 e.1)]; exact Ev.now _
theorem specHas_ev (w h : Int) (b : List Int) (c : Int) (hb : b.length ≤ 9223372036854775806) : Ev (fun k => spec_l03Has.f k w h b c) (decide (has w h b c)) := by
  unfold spec_l03Has.f
  simp only [specLeads_eq, leads_f, Option.bind_some]
  by_cases h2 : leads w h c
  · refine Ev.ifp (by simpa using h2) (Ev.bind (l03Find_ev b c (by omega)) ?_)
    have : (!decide (c ∈ b)) = decide (has w h b c) := by simp [has, h2]
    rw [this]; exact Ev.now _
  · refine Ev.ifn (by simpa using h2) ?_
    rw [decide_eq_false (fun e : has w h b c => h2 e.1)]; exact Ev.now _
theorem leads_lt {w h c : Int} (h1 : leads w h c) : 0 ≤ c ∧ c < 64 := by
  have := cnt_range w h; have := h1.1; omega
theorem endOf_f (w h : Int) (b : List Int) (c : Int) (h0 : 0 ≤ c) (h1 : c ≤ 9223372036854775807) : impl_endOf.f w h b c = some (endC w h c) := by
  unfold impl_endOf.f endC
  simp only [next_f, Option.bind_some]
  rw [Int.tdiv_eq_ediv_of_nonneg h0, Int.tmod_eq_emod_of_nonneg h0, w64 (by omega) (by omega)]
theorem endC_range (w h c : Int) : -1 ≤ endC w h c ∧ endC w h c < 16 := by
  have := next_range w h (c / 4) (c % 4); have := cnt_range w h; unfold endC; omega
theorem opp_range (p : Int) : -1 ≤ opp p ∧ opp p ≤ 4 := by unfold opp; split <;> (try split) <;> omega
theorem back_f (w h : Int) (b : List Int) (c : Int) (h0 : 0 ≤ c) (h1 : c ≤ 9223372036854775807) : impl_back.f w h b c = some (backC w h c) := by
  unfold impl_back.f backC
  have := endC_range w h c; have := opp_range (c % 4)
  simp only [endOf_f w h b c h0 h1, Option.bind_some]
  rw [Int.tmod_eq_emod_of_nonneg h0, opp_f]; simp only [Option.bind_some]
  rw [w64 (x := 4 * endC w h c) (by omega) (by omega), w64 (by omega) (by omega)]
theorem isLink_ev (w h : Int) (b : List Int) (c : Int) (hb : b.length ≤ 9223372036854775806) : Ev (fun k => impl_IsLink.f k w h b c) (decide (meshOk w h b ∧ link w h b c)) := by
  refine Ev.bind (hasChannel_ev w h b c hb) ?_
  by_cases h1 : hasC w h b c
  · have := leads_lt h1.2.1
    refine Ev.ifp (by simpa using h1) ?_
    simp only [back_f w h b c (by omega) (by omega), Option.bind_some]
    refine Ev.bind (hasChannel_ev w h b _ hb) ?_
    have : decide (hasC w h b (backC w h c)) = decide (meshOk w h b ∧ link w h b c) := decide_eq_decide.2 ⟨fun e => ⟨e.1, h1.2, e.2⟩, fun e => ⟨e.1, e.2.2⟩⟩
    rw [this]; exact Ev.now _
  · refine Ev.ifn (by simpa using h1) ?_
    rw [decide_eq_false (fun e => h1 ⟨e.1, e.2.1⟩)]; exact Ev.now _
theorem l31Link_ev (w h : Int) (b : List Int) (c : Int) (hb : b.length ≤ 9223372036854775806) : Ev (fun k => spec_l31Link.f k w h b c) (decide (link w h b c)) := by
  refine Ev.bind (specHas_ev w h b c hb) ?_
  by_cases h1 : has w h b c
  · have := leads_lt h1.1
    have := endC_range w h c; have := opp_range (c % 4)
    refine Ev.ifp (by simpa using h1) ?_
    simp only [specNext_eq, next_f, specOpp_eq, opp_f, Option.bind_some]
    rw [Int.tdiv_eq_ediv_of_nonneg (by omega), Int.tmod_eq_emod_of_nonneg (by omega), w64 (x := c / 4) (by omega) (by omega), show next w h (c / 4) (c % 4) = endC w h c from rfl, w64 (x := 4 * endC w h c) (by omega) (by omega), w64 (by omega) (by omega)]
    refine Ev.bind (specHas_ev w h b _ hb) ?_
    have : decide (has w h b (4 * endC w h c + opp (c % 4))) = decide (link w h b c) := decide_eq_decide.2 ⟨fun e => ⟨h1, e⟩, fun e => e.2⟩
    rw [this]; exact Ev.now _
  · refine Ev.ifn (by simpa using h1) ?_
    rw [decide_eq_false (fun e : link w h b c => h1 e.1)]; exact Ev.now _
theorem ev_run {σ α : Type} {g : Nat → σ → Int → Option α} (n : Nat) (step : σ → Nat → σ) (inv : Nat → σ → Prop) (r : α)
    (hs : ∀ j s, j < n → inv j s → inv (j + 1) (step s j) ∧ (Ev (fun k => g k (step s j) ((j + 1 : Nat) : Int)) r → Ev (fun k => g k s (j : Int)) r)) (s0 : σ) (h0 : inv 0 s0)
    (he : inv n ((List.range n).foldl step s0) → Ev (fun k => g k ((List.range n).foldl step s0) (n : Int)) r) : Ev (fun k => g k s0 0) r := by
  have key : ∀ d j s, j + d = n → inv j s → (inv n ((List.range' j d).foldl step s) → Ev (fun k => g k ((List.range' j d).foldl step s) (n : Int)) r) → Ev (fun k => g k s (j : Int)) r := by
    intro d
    induction d with
    | zero => intro j s hj hi h; have : j = n := by omega
              subst this; exact h hi
    | succ d ih =>
      intro j s hj hi h
      obtain ⟨h1, h2⟩ := hs j s (by omega) hi
      exact h2 (ih (j + 1) (step s j) (by omega) h1 (by simpa [List.range'_succ] using h))
  rw [List.range_eq_range'] at he
  exact key n 0 s0 (by omega) h0 he

def neg (s : List Int) : Nat := s.countP (· < 0)
theorem rd_set {s : List Int} {k x v : Int} (h0 : 0 ≤ k) (h1 : k < s.length) (hx : 0 ≤ x) : rd (s.set k.toNat v) x = if x = k then v else rd s x := by
  obtain ⟨i, rfl⟩ := Int.eq_ofNat_of_zero_le h0
  obtain ⟨j, rfl⟩ := Int.eq_ofNat_of_zero_le hx
  simp only [Int.toNat_natCast]
  by_cases hj : j < s.length
  · rw [rd_at (by simpa using hj), rd_at hj, List.getElem_set]
    by_cases e : i = j
    · subst e; simp
    · rw [if_neg e, if_neg (by omega)]
  · rw [if_neg (by omega)]
    simp [rd, hj]
theorem rd_neg_lt {s : List Int} {x : Int} (h0 : 0 ≤ x) (h : rd s x < 0) : x < s.length := by
  obtain ⟨j, rfl⟩ := Int.eq_ofNat_of_zero_le h0
  by_cases hj : j < s.length
  · omega
  · simp [rd, hj] at h
theorem neg_set {s : List Int} {k v : Int} (h0 : 0 ≤ k) (h1 : k < s.length) (h : rd s k < 0) (hv : 0 ≤ v) : neg (s.set k.toNat v) + 1 = neg s := by
  obtain ⟨i, rfl⟩ := Int.eq_ofNat_of_zero_le h0
  have hi : i < s.length := by omega
  rw [rd_at hi] at h
  unfold neg
  rw [Int.toNat_natCast, List.countP_set hi]
  have : 0 < s.countP (· < 0) := List.countP_pos_iff.2 ⟨_, List.getElem_mem hi, by simpa using h⟩
  rw [if_pos (by simpa using h), if_neg (by simp; omega)]
  omega

def vst (w h : Int) (b : List Int) (a d : Int) (x : List Int × List Int) (p : Nat) : List Int × List Int :=
  if link w h b (4 * a + p) ∧ rd x.1 (next w h a p) < 0 then (x.1.set (next w h a p).toNat d, x.2 ++ [next w h a p]) else x
def vis (w h : Int) (b : List Int) (a d : Int) (x : List Int × List Int) : List Int × List Int := (List.range 4).foldl (vst w h b a d) x

theorem link_next {w h : Int} {b : List Int} {a : Int} {p : Nat} (hp : p < 4) (h1 : link w h b (4 * a + p)) : isN w h a ∧ isN w h (next w h a p) ∧ endC w h (4 * a + p) = next w h a p := by
  obtain ⟨⟨⟨h2, h3⟩, _⟩, _⟩ := h1
  have e1 : (4 * a + (p : Int)) / 4 = a := by omega
  have e2 : (4 * a + (p : Int)) % 4 = p := by omega
  have := next_range w h a p
  unfold endC
  rw [e1, e2] at h3 ⊢
  refine ⟨⟨by omega, by omega⟩, ⟨h3, by omega⟩, rfl⟩

structure Ext (w h : Int) (d : Int) (x y : List Int × List Int) : Prop where
  len : y.1.length = x.1.length
  old : ∀ v, 0 ≤ v → 0 ≤ rd x.1 v → rd y.1 v = rd x.1 v
  new : ∀ v ∈ y.2, v ∈ x.2 ∨ (isN w h v ∧ rd y.1 v = d)
  sum : neg y.1 + y.2.length = neg x.1 + x.2.length
  pre : ∀ v ∈ x.2, v ∈ y.2
  low : (∀ v ∈ x.1, -1 ≤ v ∧ v ≤ d) → ∀ v ∈ y.1, -1 ≤ v ∧ v ≤ d
theorem Ext.rfl' {w h d : Int} {x : List Int × List Int} : Ext w h d x x := ⟨rfl, fun _ _ _ => rfl, fun _ h => .inl h, rfl, fun _ h => h, fun h => h⟩
theorem Ext.trans {w h d : Int} {x y z : List Int × List Int} (hd : 0 ≤ d) (a : Ext w h d x y) (b : Ext w h d y z) : Ext w h d x z where
  len := b.len.trans a.len
  old v h0 h1 := by
    have e := a.old v h0 h1
    rw [b.old v h0 (by omega), e]
  new v hv := by
    rcases b.new v hv with h1 | h1
    · rcases a.new v h1 with h2 | ⟨h2, h3⟩
      · exact .inl h2
      · exact .inr ⟨h2, by rw [b.old v h2.1 (by omega), h3]⟩
    · exact .inr h1
  sum := b.sum.trans a.sum
  pre v h := b.pre v (a.pre v h)
  low h := b.low (a.low h)
theorem vst_ext {w h : Int} {b : List Int} {a d : Int} {x : List Int × List Int} {p : Nat} (hp : p < 4) (hd : 0 ≤ d) : Ext w h d x (vst w h b a d x p) := by
  unfold vst
  by_cases hc : link w h b (4 * a + p) ∧ rd x.1 (next w h a p) < 0
  · rw [if_pos hc]
    obtain ⟨h1, h2, h3⟩ := link_next hp hc.1
    have h4 := rd_neg_lt h2.1 hc.2
    have := neg_set h2.1 h4 hc.2 hd
    refine ⟨by simp, fun v h0 h5 => ?_, fun v hv => ?_, by simp; omega, fun v hv => by simp [hv], fun hl v hv => ?_⟩
    · simp only
      rw [rd_set h2.1 h4 h0, if_neg (by intro e; subst e; omega)]
    · simp only [List.mem_append, List.mem_singleton] at hv
      rcases hv with hv | rfl
      · exact .inl hv
      · exact .inr ⟨h2, by simp only; rw [rd_set h2.1 h4 h2.1, if_pos rfl]⟩
    · rcases List.mem_or_eq_of_mem_set hv with h6 | rfl
      · exact hl v h6
      · omega
  · rw [if_neg hc]; exact Ext.rfl'
theorem foldl_ext {w h : Int} {b : List Int} {a d : Int} (hd : 0 ≤ d) : ∀ (l : List Nat) (x : List Int × List Int), (∀ p ∈ l, p < 4) → Ext w h d x (l.foldl (vst w h b a d) x)
  | [], x, _ => Ext.rfl'
  | p :: l, x, hp => (vst_ext (hp p (by simp)) hd).trans hd (foldl_ext hd l _ (fun q hq => hp q (by simp [hq])))
theorem vis_ext {w h : Int} {b : List Int} {a d : Int} (hd : 0 ≤ d) (x : List Int × List Int) : Ext w h d x (vis w h b a d x) := foldl_ext hd _ _ (by simp)
theorem vst_app {w h : Int} {b : List Int} {a d : Int} (s q q' : List Int) (p : Nat) : vst w h b a d (s, q ++ q') p = ((vst w h b a d (s, q') p).1, q ++ (vst w h b a d (s, q') p).2) := by
  unfold vst
  simp only
  split <;> simp
theorem foldl_app {w h : Int} {b : List Int} {a d : Int} (q : List Int) : ∀ (l : List Nat) (s q' : List Int), l.foldl (vst w h b a d) (s, q ++ q') = ((l.foldl (vst w h b a d) (s, q')).1, q ++ (l.foldl (vst w h b a d) (s, q')).2)
  | [], s, q' => rfl
  | p :: l, s, q' => by
    rw [List.foldl_cons, List.foldl_cons, vst_app]
    exact foldl_app q l _ _
theorem vis_app {w h : Int} {b : List Int} {a d : Int} (q s q' : List Int) : vis w h b a d (s, q ++ q') = ((vis w h b a d (s, q')).1, q ++ (vis w h b a d (s, q')).2) := foldl_app q _ _ _

inductive Run (w h : Int) (b : List Int) : List Int → List Int → List Int → Int → List Int → Prop
  | done (s : List Int) (d : Int) : Run w h b s [] [] d s
  | level {s : List Int} {x : Int} {nx : List Int} {d : Int} {r : List Int} : Run w h b s (x :: nx) [] (d + 1) r → Run w h b s [] (x :: nx) d r
  | node {s : List Int} {a : Int} {rest nx : List Int} {d : Int} {r : List Int} : Run w h b (vis w h b a d (s, nx)).1 rest (vis w h b a d (s, nx)).2 d r → Run w h b s (a :: rest) nx d r

structure Inv (w h : Int) (s rest nx : List Int) (d : Int) : Prop where
  len : (s.length : Int) = cnt w h
  fr : ∀ v ∈ rest, isN w h v ∧ rd s v = d - 1
  nw : ∀ v ∈ nx, isN w h v ∧ rd s v = d
  one : 1 ≤ d
  sum : d + neg s + nx.length ≤ cnt w h
  low : ∀ v ∈ s, -1 ≤ v ∧ v ≤ d
theorem Inv.level {w h : Int} {s nx : List Int} {x d : Int} (i : Inv w h s [] (x :: nx) d) : Inv w h s (x :: nx) [] (d + 1) :=
  ⟨i.len, fun v hv => ⟨(i.nw v hv).1, by have := (i.nw v hv).2; omega⟩, by simp, by have := i.one; omega, by have := i.sum; simp at this ⊢; omega, fun v hv => by have := i.low v hv; omega⟩
theorem Inv.node {w h : Int} {b s rest nx : List Int} {a d : Int} (i : Inv w h s (a :: rest) nx d) : Inv w h (vis w h b a d (s, nx)).1 rest (vis w h b a d (s, nx)).2 d := by
  have h1 := i.one
  have e := vis_ext (w := w) (h := h) (b := b) (a := a) (d := d) (by omega) (s, nx)
  refine ⟨by rw [e.len]; exact i.len, fun v hv => ?_, fun v hv => ?_, h1, ?_, e.low i.low⟩
  · obtain ⟨h2, h3⟩ := i.fr v (by simp [hv])
    exact ⟨h2, by rw [e.old v h2.1 (by simp only; omega)]; exact h3⟩
  · rcases e.new v hv with h2 | h2
    · obtain ⟨h3, h4⟩ := i.nw v h2
      exact ⟨h3, by rw [e.old v h3.1 (by simp only; omega)]; exact h4⟩
    · exact h2
  · have := e.sum; have := i.sum; simp only at *; omega
theorem run_ex {w h : Int} {b : List Int} : ∀ (m : Nat) (s rest nx : List Int) (d : Int), 3 * neg s + 2 * nx.length + rest.length ≤ m → Inv w h s rest nx d → ∃ r, Run w h b s rest nx d r := by
  intro m
  induction m with
  | zero =>
    intro s rest nx d hm i
    cases rest with
    | nil => cases nx with
      | nil => exact ⟨s, .done s d⟩
      | cons x nx => simp at hm
    | cons a rest => simp at hm
  | succ m ih =>
    intro s rest nx d hm i
    cases rest with
    | nil => cases nx with
      | nil => exact ⟨s, .done s d⟩
      | cons x nx =>
        obtain ⟨r, hr⟩ := ih s (x :: nx) [] (d + 1) (by simp at hm ⊢; omega) i.level
        exact ⟨r, .level hr⟩
    | cons a rest =>
      have e := (vis_ext (w := w) (h := h) (b := b) (a := a) (d := d) (by have := i.one; omega) (s, nx)).sum
      have e2 := (vis_ext (w := w) (h := h) (b := b) (a := a) (d := d) (by have := i.one; omega) (s, nx))
      have h1 : nx.length ≤ (vis w h b a d (s, nx)).2.length := by
        have := vis_app (w := w) (h := h) (b := b) (a := a) (d := d) nx s []
        rw [List.append_nil] at this; rw [this]; simp
      simp only at e
      obtain ⟨r, hr⟩ := ih (vis w h b a d (s, nx)).1 rest (vis w h b a d (s, nx)).2 d (by simp at hm; omega) i.node
      exact ⟨r, .node hr⟩

theorem implBfs_ev {w h : Int} {b : List Int} (hm : meshOk w h b) (hb : b.length ≤ 1048576) {s rest nx : List Int} {d : Int} {r : List Int} (R : Run w h b s rest nx d r) :
    ∀ don : List Int, Inv w h s rest nx d → ((don.length + rest.length + nx.length + neg s : Nat) : Int) = cnt w h → Ev (fun k => impl_TreeDepths.l0 k s (don ++ rest ++ nx) (don.length : Int) w h b) r := by
  have hc := cnt_range w h
  induction R with
  | done s d =>
    intro don i hq
    exact Ev.step (f := fun _ => some s) (fun k => by simp only [impl_TreeDepths.l0]; rw [if_neg (by simp)]) (Ev.now _)
  | @level s x nx d r _ ih =>
    intro don i hq
    have := ih don i.level (by simp at hq ⊢; omega)
    simpa using this
  | @node s a rest nx d r _ ih =>
    intro don i hq
    have h1 := i.one
    have hs := i.sum
    obtain ⟨ha, hd⟩ := i.fr a (by simp)
    have ha1 := (isN_ok ha).2
    have e := vis_ext (w := w) (h := h) (b := b) (a := a) (d := d) (by omega) (s, nx)
    have := ih (don ++ [a]) i.node (by have := e.sum; simp at this hq ⊢; omega)
    have hra : rd (don ++ a :: rest ++ nx) (don.length : Int) = a := by rw [rd_at (by simp)]; simp
    refine Ev.step (fun k => by simp only [impl_TreeDepths.l0]; rw [if_pos (by simp; omega), if_pos (by omega), hra]) ?_
    refine ev_run (g := fun k x p => impl_TreeDepths.l1 k x.1 x.2 (don.length : Int) a p w h b) 4 (vst w h b a d) (fun _ x => Ext w h d (s, don ++ a :: rest ++ nx) x) r (fun p x hp hx => ?_) (s, don ++ a :: rest ++ nx) Ext.rfl' (fun _ => ?_)
    · have hv := vst_ext (w := w) (h := h) (b := b) (a := a) (x := x) hp (by omega : 0 ≤ d)
      refine ⟨hx.trans (by omega) hv, fun hr => ?_⟩
      have hrs : rd x.1 a = d - 1 := by rw [hx.old a ha.1 (by simp only; omega)]; exact hd
      have hlen : (x.1.length : Int) = cnt w h := by rw [hx.len]; exact i.len
      have hql : x.2.length ≤ 16 := by have := hx.sum; simp at this hq; omega
      refine Ev.step (fun k => by
        simp only [impl_TreeDepths.l1]
        rw [if_pos (by omega), w64 (x := 4 * a) (by omega) (by omega), w64 (x := 4 * a + p) (by omega) (by omega), w64 (x := (p : Int) + 1) (by omega) (by omega)]) (Ev.bind (isLink_ev w h b _ (by omega)) ?_)
      by_cases hl : link w h b (4 * a + p)
      · obtain ⟨_, hn, he⟩ := link_next hp hl
        refine Ev.ifp (by simp [hm, hl]) ?_
        simp only [endOf_f w h b (4 * a + (p : Int)) (by omega) (by omega), he, Option.bind_some]
        refine Ev.ifp hn.1 (Ev.ifp (by have := hn.2; omega) ?_)
        by_cases hz : rd x.1 (next w h a p) < 0
        · refine Ev.ifp hz (Ev.ifp (by omega) (Ev.ifp (by have := ha.2; omega) (Ev.ifp (by omega) ?_)))
          rw [hrs, w64 (by omega) (by omega), show d - 1 + 1 = d by omega]
          have e1 : vst w h b a d x p = (x.1.set (next w h a p).toNat d, x.2 ++ [next w h a p]) := if_pos ⟨hl, hz⟩
          rw [e1] at hr; exact hr
        · refine Ev.ifn hz ?_
          have e1 : vst w h b a d x p = x := if_neg (fun e => hz e.2)
          rw [e1] at hr; exact hr
      · refine Ev.ifn (by simp [hl]) ?_
        have e1 : vst w h b a d x p = x := if_neg (fun e => hl e.1)
        rw [e1] at hr; exact hr
    · refine Ev.step (fun k => by simp only [impl_TreeDepths.l1]; rw [if_neg (by omega), w64 (x := (don.length : Int) + 1) (by omega) (by simp at hq; omega)]) ?_
      have e2 : (List.range 4).foldl (vst w h b a d) (s, don ++ a :: rest ++ nx) = ((vis w h b a d (s, nx)).1, (don ++ a :: rest) ++ (vis w h b a d (s, nx)).2) := vis_app (don ++ a :: rest) s nx
      rw [e2]
      simpa using this

theorem specBfs_ev {w h : Int} {b : List Int} (hm : meshOk w h b) (hb : b.length ≤ 1048576) {s rest nx : List Int} {d : Int} {r : List Int} (R : Run w h b s rest nx d r) :
    ∀ don : List Int, Inv w h s rest nx d → (don.length + rest.length ≤ 1048576) → Ev (fun k => spec_l31Depths.l2 k s (don ++ rest) d nx (don.length : Int) w h b) r := by
  have hc := cnt_range w h
  induction R with
  | done s d =>
    intro don i hq
    have h1 := i.one
    have hs := i.sum
    exact Ev.step (fun k => by simp only [spec_l31Depths.l2]; rw [if_neg (by simp)]) (Ev.step (f := fun _ => some s) (fun k => by simp only [spec_l31Depths.l1]; rw [if_neg (by simp)]) (Ev.now _))
  | @level s x nx d r _ ih =>
    intro don i hq
    have h1 := i.one
    have hs := i.sum
    have := ih [] i.level (by simp at hs ⊢; omega)
    exact Ev.step (fun k => by simp only [spec_l31Depths.l2]; rw [if_neg (by simp)]) (Ev.step (fun k => by simp only [spec_l31Depths.l1]; rw [if_pos (by simp), w64 (by omega) (by omega)]) (by simpa using this))
  | @node s a rest nx d r _ ih =>
    intro don i hq
    have h1 := i.one
    have hs := i.sum
    obtain ⟨ha, hd⟩ := i.fr a (by simp)
    have ha1 := (isN_ok ha).2
    have e := vis_ext (w := w) (h := h) (b := b) (a := a) (d := d) (by omega) (s, nx)
    have := ih (don ++ [a]) i.node (by simp at hq ⊢; omega)
    have hra : rd (don ++ a :: rest) (don.length : Int) = a := by rw [rd_at (by simp)]; simp
    refine Ev.step (fun k => by simp only [spec_l31Depths.l2]; rw [if_pos (by simp; omega)]) ?_
    refine ev_run (g := fun k x p => spec_l31Depths.l3 k x.1 (don ++ a :: rest) d x.2 (don.length : Int) p w h b) 4 (vst w h b a d) (fun _ x => Ext w h d (s, nx) x) r (fun p x hp hx => ?_) (s, nx) Ext.rfl' (fun _ => ?_)
    · have hv := vst_ext (w := w) (h := h) (b := b) (a := a) (x := x) hp (by omega : 0 ≤ d)
      refine ⟨hx.trans (by omega) hv, fun hr => ?_⟩
      have hlen : (x.1.length : Int) = cnt w h := by rw [hx.len]; exact i.len
      have hql : x.2.length ≤ 16 := by have := hx.sum; simp at this; omega
      refine Ev.step (fun k => by
        simp only [spec_l31Depths.l3]
        rw [if_pos (by omega), if_pos (by omega), if_pos (by simp; omega), hra, w64 (x := 4 * a) (by omega) (by omega), w64 (x := 4 * a + p) (by omega) (by omega), w64 (x := (p : Int) + 1) (by omega) (by omega)]) (Ev.bind (l31Link_ev w h b _ (by omega)) ?_)
      by_cases hl : link w h b (4 * a + p)
      · obtain ⟨_, hn, he⟩ := link_next hp hl
        refine Ev.ifp (by simp [hl]) ?_
        simp only [specNext_eq, next_f, Option.bind_some]
        refine Ev.ifp hn.1 (Ev.ifp (by have := hn.2; omega) ?_)
        by_cases hz : rd x.1 (next w h a p) < 0
        · refine Ev.ifp hz (Ev.ifp (by omega) ?_)
          have e1 : vst w h b a d x p = (x.1.set (next w h a p).toNat d, x.2 ++ [next w h a p]) := if_pos ⟨hl, hz⟩
          rw [e1] at hr; exact hr
        · refine Ev.ifn hz ?_
          have e1 : vst w h b a d x p = x := if_neg (fun e => hz e.2)
          rw [e1] at hr; exact hr
      · refine Ev.ifn (by simp [hl]) ?_
        have e1 : vst w h b a d x p = x := if_neg (fun e => hl e.1)
        rw [e1] at hr; exact hr
    · refine Ev.step (fun k => by simp only [spec_l31Depths.l3]; rw [if_neg (by omega), w64 (x := (don.length : Int) + 1) (by omega) (by omega)]) ?_
      have e2 : (List.range 4).foldl (vst w h b a d) (s, nx) = ((vis w h b a d (s, nx)).1, (vis w h b a d (s, nx)).2) := rfl
      rw [e2]
      simpa using this

def start (w h root : Int) : List Int := (List.replicate (cnt w h).toNat (-1)).set root.toNat 0
theorem start_inv {w h root : Int} (hr : isN w h root) : Inv w h (start w h root) [root] [] 1 ∧ ((neg (start w h root) : Nat) : Int) + 1 = cnt w h := by
  have hc := cnt_range w h
  have hl : root < ((List.replicate (cnt w h).toNat (-1 : Int)).length : Int) := by have := hr.2; simp; omega
  have h0 : rd (List.replicate (cnt w h).toNat (-1 : Int)) root = -1 := by
    have := rd_mem hr.1 hl
    exact List.eq_of_mem_replicate this
  have h1 := neg_set (v := 0) hr.1 hl (by omega) (by omega)
  have h2 : neg (List.replicate (cnt w h).toNat (-1 : Int)) = (cnt w h).toNat := by unfold neg; simp [List.countP_replicate]
  rw [h2] at h1
  have h3 : ((neg (start w h root) : Nat) : Int) + 1 = cnt w h := by unfold start; omega
  refine ⟨⟨by unfold start; simp; omega, fun v hv => ?_, by simp, by omega, by simp; omega, fun v hv => ?_⟩, h3⟩
  · simp only [List.mem_singleton] at hv
    subst hv
    refine ⟨hr, ?_⟩
    unfold start; rw [rd_set hr.1 hl hr.1, if_pos rfl]; omega
  · rcases List.mem_or_eq_of_mem_set hv with h6 | rfl
    · have := List.eq_of_mem_replicate h6; omega
    · omega
theorem Run.inv {w h : Int} {b s rest nx : List Int} {d : Int} {r : List Int} (R : Run w h b s rest nx d r) : Inv w h s rest nx d → ∃ d', Inv w h r [] [] d' := by
  induction R with
  | done s d => exact fun i => ⟨d, i⟩
  | level _ ih => exact fun i => ih i.level
  | node _ ih => exact fun i => ih i.node

theorem isRoot_ev (w h : Int) (b : List Int) (root : Int) (hb : b.length ≤ 1048576) : Ev (fun k => impl_isRoot.f k w h b root) (decide (meshOk w h b ∧ isN w h root)) := by
  refine Ev.bind (meshOk_ev w h b (by omega)) ?_
  by_cases h1 : meshOk w h b
  · refine Ev.ifp (by simpa using h1) ?_
    simp only [isNode_f, Option.bind_some]
    rw [decide_eq_decide.2 (show isN w h root ↔ meshOk w h b ∧ isN w h root from ⟨fun e => ⟨h1, e⟩, fun e => e.2⟩)]; exact Ev.now _
  · refine Ev.ifn (by simpa using h1) ?_
    rw [decide_eq_false (fun e => h1 e.1)]; exact Ev.now _
theorem l31Ok_ev (w h : Int) (b : List Int) (root : Int) (hb : b.length ≤ 1048576) : Ev (fun k => spec_l31Ok.f k w h b root) (decide (meshOk w h b ∧ isN w h root)) := by
  refine Ev.bind (specMeshOk_ev w h b (by omega)) ?_
  by_cases h1 : meshOk w h b
  · refine Ev.ifp (by simpa using h1) ?_
    simp only [specHas_eq, isNode_f, Option.bind_some]
    rw [decide_eq_decide.2 (show isN w h root ↔ meshOk w h b ∧ isN w h root from ⟨fun e => ⟨h1, e⟩, fun e => e.2⟩)]; exact Ev.now _
  · refine Ev.ifn (by simpa using h1) ?_
    rw [decide_eq_false (fun e => h1 e.1)]; exact Ev.now _

theorem treeDepths_no {w h : Int} {b : List Int} {root : Int} (hb : b.length ≤ 1048576) (hn : ¬ (meshOk w h b ∧ isN w h root)) : Ev (fun k => impl_TreeDepths.f k w h b root) [] :=
  Ev.bind (isRoot_ev w h b root hb) (Ev.ifn (by simpa using hn) (Ev.now _))
theorem specTreeDepths_no {w h : Int} {b : List Int} {root : Int} (hb : b.length ≤ 1048576) (hn : ¬ (meshOk w h b ∧ isN w h root)) : Ev (fun k => spec_TreeDepths.f k w h b root) [] :=
  Ev.bind (l31Ok_ev w h b root hb) (Ev.ifn (by simpa using hn) (Ev.now _))
theorem treeDepths_ev {w h : Int} {b : List Int} {root : Int} (hb : b.length ≤ 1048576) (hm : meshOk w h b) (hr : isN w h root) {r : List Int} (R : Run w h b (start w h root) [root] [] 1 r) : Ev (fun k => impl_TreeDepths.f k w h b root) r := by
  have hc := cnt_range w h
  obtain ⟨i, hq⟩ := start_inv hr
  have hr1 := hr.2
  have hr0 := hr.1
  have key := implBfs_ev hm hb R [] i (by simp; omega)
  refine Ev.bind (isRoot_ev w h b root hb) (Ev.ifp (by simp [hm, hr]) ?_)
  have e1 : slices_Repeat_int_int.f [-1] (cnt w h) = some (List.replicate (cnt w h).toNat (-1)) := by
    unfold slices_Repeat_int_int.f
    rw [if_pos (by simp), if_pos (by omega), if_pos (by omega)]; rfl
  simp only [nodeCount_f, e1, Option.bind_some]
  exact Ev.ifp (by omega) (Ev.ifp (by simp; omega) (by simpa [start] using key))
theorem specL31Depths_ev {w h : Int} {b : List Int} {root : Int} (hb : b.length ≤ 1048576) (hm : meshOk w h b) (hr : isN w h root) {r : List Int} (R : Run w h b (start w h root) [root] [] 1 r) : Ev (fun k => spec_l31Depths.f k w h b root) r := by
  have hc := cnt_range w h
  obtain ⟨i, hq⟩ := start_inv hr
  have hr1 := hr.2
  have hr0 := hr.1
  have key := specBfs_ev hm hb R [] i (by simp)
  unfold spec_l31Depths.f
  have hrep : (List.range (cnt w h).toNat).foldl (fun (s : List Int) _ => s ++ [-1]) [] = List.replicate (cnt w h).toNat (-1) := by
    rw [foldl_map (fun _ => (-1 : Int)), List.nil_append]; simp [List.map_const']
  refine ev_run (g := fun k s i => spec_l31Depths.l0 k root s i w h b) (cnt w h).toNat (fun s _ => s ++ [-1]) (fun j s => s.length = j) r (fun j s hj hs => ⟨by simp [hs], fun hr => ?_⟩) [] rfl (fun _ => ?_)
  · exact Ev.step (fun k => by
      simp only [spec_l31Depths.l0, specNodeCount_eq, nodeCount_f, Option.bind_some]
      rw [if_pos (by omega), if_pos (by omega), w64 (by omega) (by omega)]; rfl) hr
  · rw [hrep]
    refine Ev.step (fun k => by
      simp only [spec_l31Depths.l0, specNodeCount_eq, nodeCount_f, Option.bind_some]
      rw [if_neg (by omega), if_pos (by omega), if_pos (by simp; omega)]) ?_
    exact Ev.step (fun k => by simp only [spec_l31Depths.l1]; rw [if_pos (by simp)]) (by simpa [start] using key)
theorem specTreeDepths_ev {w h : Int} {b : List Int} {root : Int} (hb : b.length ≤ 1048576) (hm : meshOk w h b) (hr : isN w h root) {r : List Int} (R : Run w h b (start w h root) [root] [] 1 r) : Ev (fun k => spec_TreeDepths.f k w h b root) r :=
  Ev.bind (l31Ok_ev w h b root hb) (Ev.ifp (by simp [hm, hr]) (Ev.bind (specL31Depths_ev hb hm hr R) (Ev.now _)))
end Go.Proofs.Ytkkoenbmokbglaa.Pure
end
