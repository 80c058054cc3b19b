/- Parts of a proof that the law FnAncestors holds for every input: contracts of the program's functions and plain laws on what they compute. -/
import Derived.Test.YtkkoenbmokbglaaQFnAncestors12
import Derived.Test.YtkkoenbmokbglaaQFnAncestors19
section
namespace Go.Proofs.Ytkkoenbmokbglaa.F
open Go.RowKit Go.Proofs.YtkkoenbmokbglaaW.PrintWords Go.Proofs.YtkkoenbmokbglaaW.PrintLast Go.Proofs.YtkkoenbmokbglaaW.PrintMore
set_option linter.unusedVariables false
set_option linter.unusedSimpArgs false
def spec_WithBroken.l0 : Nat → Int → Int → Int → Int → List Int → Int → Int → List Int → Option (Int × Int × List Int × Bool)
  | 0, _, _, _, _, _, _, _, _ => none
  | k + 1, x1, x7, x102000, x102001, x102002, x109000, x109001, x109002 => if x7 < (x102002.length : Int) then (if 0 ≤ x7 then (if (rd x102002 x7) < x1 then (if x109002.length < 17592186044416 then (spec_WithBroken.l0 k x1 (wrap64 (x7 + 1)) x102000 x102001 x102002 x109000 x109001 (x109002 ++ [rd x102002 x7])) else (none)) else (if x109002.length < 17592186044416 then ((some (x109002 ++ [x1] : List Int)).bind fun y118 => (if 0 ≤ (x109002.length : Int) then (if (x109002.length : Int) ≤ (x102002.length : Int) then (if y118.length + (x102002.drop ((x109002.length : Int) : Int).toNat).length < 17592186044416 then (some (x109000, x109001, (y118 ++ (x102002.drop ((x109002.length : Int) : Int).toNat)), true)) else (none)) else (none)) else (none))) else (none))) else (none)) else (if x109002.length < 17592186044416 then ((some (x109002 ++ [x1] : List Int)).bind fun y125 => (if 0 ≤ (x109002.length : Int) then (if (x109002.length : Int) ≤ (x102002.length : Int) then (if y125.length + (x102002.drop ((x109002.length : Int) : Int).toNat).length < 17592186044416 then (some (x109000, x109001, (y125 ++ (x102002.drop ((x109002.length : Int) : Int).toNat)), true)) else (none)) else (none)) else (none))) else (none))
def spec_WithBroken.f (k : Nat) (a0_0 : Int) (a0_1 : Int) (l0_2 : List Int) (a1 : Int) : Option (Int × Int × List Int × Bool) := (spec_l15Mesh.f a0_0 a0_1 l0_2).bind fun bt103 => ((spec_HasChannel.f k a0_0 a0_1 l0_2 a1).bind fun t109 => (if t109 = true then (spec_WithBroken.l0 k a1 0 a0_0 a0_1 l0_2 bt103.1 bt103.2.1 (([] : List Int))) else (some (bt103.1, bt103.2.1, bt103.2.2, false))))
def spec_WithBroken.T8 : Bool × List (List Nat × List Nat) := (true, [([], []), ([0], [0]), ([], []), ([2], [2]), ([], []), ([3, 4], [3, 4]), ([5], [5]), ([6], [6]), ([1, 7], [1, 7]), ([0, 1, 2, 3, 4, 5, 6, 7, 8], []), ([9, 8, 8, 0, 1, 2, 3, 4, 5, 6, 7, 8], [8, 9])])
def spec_WithBroken.B8 : List Nat := [0, 1, 0, 4, 0, 28, 60, 124, 255, 511, 1023]
theorem spec_WithBroken.tab8 : rtab .any (opsOf Try.f124 8) = spec_WithBroken.T8 := by kernel_rfl
theorem spec_WithBroken.bits8 : waitsOk spec_WithBroken.T8.2 spec_WithBroken.B8 = true := by kernel_rfl
def spec_WithBroken.T11 : Bool × List (List Nat × List Nat) := (true, [([], []), ([0], [0]), ([], []), ([2], [2]), ([], []), ([3, 4], [3, 4]), ([1, 5], [1, 5]), ([0, 1, 2, 3, 4, 5, 6], []), ([7, 6, 6, 0, 1, 2, 3, 4, 5, 6], [6, 7])])
def spec_WithBroken.B11 : List Nat := [0, 1, 0, 4, 0, 28, 63, 127, 255]
theorem spec_WithBroken.tab11 : rtab .any (opsOf Try.f124 11) = spec_WithBroken.T11 := by kernel_rfl
theorem spec_WithBroken.bits11 : waitsOk spec_WithBroken.T11.2 spec_WithBroken.B11 = true := by kernel_rfl
set_option maxHeartbeats 8000000 in
set_option maxRecDepth 100000 in
theorem spec_WithBroken.calls (k : Nat) (a0_0 : Int) (a0_1 : Int) (A0_2 : Option Addr) (c0_2 : Nat) (l0_2 : List Int) (a1 : Int) (r1 : Int) (r2 : Int) (r3 : List Int) (r4 : Bool) (w : World) (hr0_2 : Kd.C (Kd.int .i64) w A0_2 l0_2.length l0_2) (hc0_2 : l0_2.length ≤ c0_2) (h : spec_WithBroken.f k a0_0 a0_1 l0_2 a1 = some (r1, r2, r3, r4)) :
    Calls Try.prog 124 #[.agg #[.int .i64 a0_0, .int .i64 a0_1, .slice A0_2 l0_2.length c0_2], .int .i64 a1] w fun e w' => ∃ v2_ : Value, e = .returned (.tuple #[.agg #[.int .i64 r1, .int .i64 r2, v2_], .bool r4]) ∧ Kd.R (Kd.int .i64) 3 w' w.heap.size (fun _ => True) v2_ r3 ∧ Below w.heap.size w w' := by
 have z1_ := Try.underlying34
 have z2_ := Aside0.mk hr0_2
 have z3_ := Aside0.mk hc0_2
 clear hr0_2 hc0_2
 have HB := Aside0.mk (Below.refl w.heap.size w)
 have H : ((spec_l15Mesh.f a0_0 a0_1 l0_2).bind fun bt103 => ((spec_HasChannel.f k a0_0 a0_1 l0_2 a1).bind fun t109 => (if t109 = true then (spec_WithBroken.l0 k a1 0 a0_0 a0_1 l0_2 bt103.1 bt103.2.1 (([] : List Int))) else (some (bt103.1, bt103.2.1, bt103.2.2, false))))) = some (r1, r2, r3, r4) := h
 clear h
 replace H := Option.bind_eq_some_iff.mp H
 obtain ⟨⟨z4_, z5_, z6_⟩, z7_, H⟩ := H
 replace H : ((spec_HasChannel.f k a0_0 a0_1 l0_2 a1).bind fun t109 => (if t109 = true then (spec_WithBroken.l0 k a1 0 a0_0 a0_1 l0_2 z4_ z5_ (([] : List Int))) else (some (z4_, z5_, z6_, false)))) = some (r1, r2, r3, r4) := H
 have z8_ := Aside0.mk z7_
 clear z7_
 replace H := Option.bind_eq_some_iff.mp H
 obtain ⟨z9_, z10_, H⟩ := H
 replace H : (if z9_ = true then (spec_WithBroken.l0 k a1 0 a0_0 a0_1 l0_2 z4_ z5_ (([] : List Int))) else (some (z4_, z5_, z6_, false))) = some (r1, r2, r3, r4) := H
 have z11_ := Aside0.mk z10_
 clear z10_
 by_cases z12_ : z9_ = true
 · subst z12_
   have z13_ : (spec_WithBroken.l0 k a1 0 a0_0 a0_1 l0_2 z4_ z5_ (([] : List Int))) = some (r1, r2, r3, r4) := by rw [if_pos rfl] at H; exact H
   clear H
   have H := z13_
   clear z13_
   obtain ⟨z14_, z15_⟩ : ∃ y_ : List Int, y_ = (([] : List Int)) := ⟨_, rfl⟩
   replace H : (spec_WithBroken.l0 k a1 0 a0_0 a0_1 l0_2 z4_ z5_ z14_) = some (r1, r2, r3, r4) := by first | (rw [z15_]; with_reducible exact H) | (have z16_ := (Option.bind_some _ _).symm.trans H; rw [z15_]; with_reducible exact z16_) | (have z16_ := (Option.bind_some _ _).symm.trans H; with_reducible exact z16_) | with_reducible exact H | (rw [z15_]; exact H) | exact H
   have z17_ := Aside0.mk z15_
   clear z15_
   have H' := Aside0.mk H
   clear H
   go_enter Try.func124, Try.ntmps124
   go_wp2_with (first | ((with_reducible refine gate_dst (N := 2) rfl ?_); refine box_event ?hg (N := 2) ?hd (cs := #[.int .i64 a0_0, .int .i64 a0_1, .slice A0_2 l0_2.length c0_2]) (t := 34) ?hr ?_; (case hd => rfl); (case hg => rfl); (case hr => first | (go_simp; done) | (go_simp; rfl)); intro y1_ hg y2_ hbox hb; have y3_ := Aside0.mk (below_step (by repeat (first | (with_reducible first | exact HB.out | apply below_alloc | apply pw_below_drewN | apply below_drew1) | exact HB.out)) hb); have y4_ := Aside0.mk (hbox); have y5_ := Aside0.mk ((by rw [hg]; exact (below_size (by repeat (first | (with_reducible first | exact HB.out | apply below_alloc | apply pw_below_drewN | apply below_drew1) | exact HB.out))) : w.heap.size ≤ y1_)); have y6_ := Aside0.mk ((by rw [hg]; exact (below_size (by repeat (first | (with_reducible first | exact HB.out | apply below_alloc | apply pw_below_drewN | apply below_drew1) | exact HB.out))) : w.heap.size ≤ y1_)); clear HB; have HB := y3_; have y7_ := y4_; have y8_ := y5_; have y9_ := y6_; clear y3_ y4_ y5_ y6_; clear hb hbox hg) | ((with_reducible refine gate_dst (N := 4) rfl ?_); refine box_event ?hg (N := 4) ?hd (cs := #[.int .i64 0, .int .i64 0, .slice none 0 0]) (t := 34) ?hr ?_; (case hd => rfl); (case hg => rfl); (case hr => first | (go_simp; done) | (go_simp; rfl)); intro y10_ hg y11_ hbox hb; have y3_ := Aside0.mk (blk_below (g := y1_) (o := .cells #[.int .i64 a0_0, .int .i64 a0_1, .slice A0_2 l0_2.length c0_2] 34 (0, 0)) (by (with_reducible repeat (first | refine blk_drewN ?_ _ | refine blk_drew ?_ | refine blk_alloc ?_ _)); exact y7_.out) hb); have y4_ := Aside0.mk (below_step (by repeat (first | (with_reducible first | exact HB.out | apply below_alloc | apply pw_below_drewN | apply below_drew1 | refine below_set ?_ y9_.out) | exact HB.out)) hb); have y5_ := Aside0.mk (hbox); have y6_ := Aside0.mk ((by rw [hg]; exact (below_size (by repeat (first | (with_reducible first | exact HB.out | apply below_alloc | apply pw_below_drewN | apply below_drew1 | refine below_set ?_ y9_.out) | exact HB.out))) : w.heap.size ≤ y10_)); have y12_ := Aside0.mk ((by rw [hg]; exact (below_size (by repeat (first | (with_reducible first | exact HB.out | apply below_alloc | apply pw_below_drewN | apply below_drew1 | refine below_set ?_ y9_.out) | exact HB.out))) : w.heap.size ≤ y10_)); have y13_ := Aside0.mk ((by rw [hg]; exact Nat.ne_of_lt (blk_lt (g := y1_) (o := .cells #[.int .i64 a0_0, .int .i64 a0_1, .slice A0_2 l0_2.length c0_2] 34 (0, 0)) (by (with_reducible repeat (first | refine blk_drewN ?_ _ | refine blk_drew ?_ | refine blk_alloc ?_ _)); exact y7_.out)) : y1_ ≠ y10_)); have y14_ := Aside0.mk ((by rw [hg]; exact Nat.ne_of_gt (blk_lt (g := y1_) (o := .cells #[.int .i64 a0_0, .int .i64 a0_1, .slice A0_2 l0_2.length c0_2] 34 (0, 0)) (by (with_reducible repeat (first | refine blk_drewN ?_ _ | refine blk_drew ?_ | refine blk_alloc ?_ _)); exact y7_.out)) : y10_ ≠ y1_)); clear y7_; clear HB; have y7_ := y3_; have HB := y4_; have y15_ := y5_; have y16_ := y6_; have y17_ := y12_; have y18_ := y13_; have y19_ := y14_; clear y3_ y4_ y5_ y6_ y12_ y13_ y14_; clear hb hbox hg; have y20_ := y18_.out; have y21_ := y19_.out; have y22_ : y11_.cell? ⟨y1_, 0, none⟩ = some (.int .i64 a0_0) := (blk_cell y7_.out 0).trans rfl; have y23_ : y11_.cell? ⟨y1_, 1, none⟩ = some (.int .i64 a0_1) := (blk_cell y7_.out 1).trans rfl; have y24_ : y11_.cell? ⟨y1_, 2, none⟩ = some (.slice A0_2 l0_2.length c0_2) := (blk_cell y7_.out 2).trans rfl; have y25_ := blk_frozen y7_.out 0; have y26_ := blk_frozen y7_.out 1; have y27_ := blk_frozen y7_.out 2) | ((with_reducible refine gate_callee (f := 151) rfl ?_); refine goesL_ (some 10) rfl rfl Try.func151 (by kernel_rfl) rfl #[.agg #[.int .i64 a0_0, .int .i64 a0_1, .slice A0_2 l0_2.length c0_2]] rfl (by (try simp only [List.map_toArray, List.map_cons, List.map_nil]); first | done | rfl | (simp only [List.length_drop, List.length_take]; rfl)) ?_; (with_reducible refine (spec_l15Mesh.calls _ _ _ _ _ _ _ _ _ ?side1 ?side2 z8_.out).mono ?_); (case side1 => repeat (first | exact (Kd.C_below z2_.out HB.out) | (with_reducible refine Kd.C_alloc ?_ _) | (with_reducible refine Kd.C_drewN ?_ _) | (with_reducible refine Kd.C_drew ?_))); (case side2 => exact z3_.out); rintro e y28_ ⟨y29_, rfl, y30_, hb⟩; refine ⟨_, rfl, ?_⟩; have y3_ := Aside0.mk (Kd.R_lower y30_ (below_size (by repeat (first | (with_reducible first | exact HB.out | apply below_alloc | apply pw_below_drewN | apply below_drew1 | refine below_set ?_ y9_.out | refine below_set ?_ y17_.out) | exact HB.out)))); have y4_ := Aside0.mk (blk_below (g := y1_) (o := .cells #[.int .i64 a0_0, .int .i64 a0_1, .slice A0_2 l0_2.length c0_2] 34 (0, 0)) (by (with_reducible repeat (first | refine blk_drewN ?_ _ | refine blk_drew ?_ | refine blk_alloc ?_ _)); exact y7_.out) hb); have y5_ := Aside0.mk (blk_below (g := y10_) (o := .cells #[.int .i64 0, .int .i64 0, .slice none 0 0] 34 (0, 0)) (by (with_reducible repeat (first | refine blk_drewN ?_ _ | refine blk_drew ?_ | refine blk_alloc ?_ _)); exact y15_.out) hb); have y6_ := Aside0.mk (below_step (by repeat (first | (with_reducible first | exact HB.out | apply below_alloc | apply pw_below_drewN | apply below_drew1 | refine below_set ?_ y9_.out | refine below_set ?_ y17_.out) | exact HB.out)) hb); clear y7_; clear y15_; clear HB; have y31_ := y3_; have y7_ := y4_; have y15_ := y5_; have HB := y6_; clear y3_ y4_ y5_ y6_; (try clear hb); (try clear hb2); (try clear hk); (try clear hi); (try clear y30_)) | ((with_reducible refine gate_dst (N := 6) rfl ?_); refine box_event ?hg (N := 6) ?hd (cs := #[.int .i64 0, .int .i64 0, .slice none 0 0]) (t := 34) ?hr ?_; (case hd => rfl); (case hg => rfl); (case hr => first | (go_simp; done) | (go_simp; rfl)); intro y32_ hg y33_ hbox hb; have y3_ := Aside0.mk (Kd.R_below (by (with_reducible repeat (first | apply Kd.R_alloc | apply Kd.R_drewN | apply Kd.R_drew)); exact y31_.out) hb); have y4_ := Aside0.mk (blk_below (g := y1_) (o := .cells #[.int .i64 a0_0, .int .i64 a0_1, .slice A0_2 l0_2.length c0_2] 34 (0, 0)) (by (with_reducible repeat (first | refine blk_drewN ?_ _ | refine blk_drew ?_ | refine blk_alloc ?_ _)); exact y7_.out) hb); have y5_ := Aside0.mk (blk_below (g := y10_) (o := .cells #[.int .i64 0, .int .i64 0, .slice none 0 0] 34 (0, 0)) (by (with_reducible repeat (first | refine blk_drewN ?_ _ | refine blk_drew ?_ | refine blk_alloc ?_ _)); exact y15_.out) hb); have y6_ := Aside0.mk (below_step (by repeat (first | (with_reducible first | exact HB.out | apply below_alloc | apply pw_below_drewN | apply below_drew1 | refine below_set ?_ y9_.out | refine below_set ?_ y17_.out) | exact HB.out)) hb); have y12_ := Aside0.mk (hbox); have y13_ := Aside0.mk ((by rw [hg]; exact (below_size (by repeat (first | (with_reducible first | exact HB.out | apply below_alloc | apply pw_below_drewN | apply below_drew1 | refine below_set ?_ y9_.out | refine below_set ?_ y17_.out) | exact HB.out))) : w.heap.size ≤ y32_)); have y14_ := Aside0.mk ((by rw [hg]; exact (below_size (by repeat (first | (with_reducible first | exact HB.out | apply below_alloc | apply pw_below_drewN | apply below_drew1 | refine below_set ?_ y9_.out | refine below_set ?_ y17_.out) | exact HB.out))) : w.heap.size ≤ y32_)); have y34_ := Aside0.mk ((by rw [hg]; exact Nat.ne_of_lt (blk_lt (g := y1_) (o := .cells #[.int .i64 a0_0, .int .i64 a0_1, .slice A0_2 l0_2.length c0_2] 34 (0, 0)) (by (with_reducible repeat (first | refine blk_drewN ?_ _ | refine blk_drew ?_ | refine blk_alloc ?_ _)); exact y7_.out)) : y1_ ≠ y32_)); have y35_ := Aside0.mk ((by rw [hg]; exact Nat.ne_of_gt (blk_lt (g := y1_) (o := .cells #[.int .i64 a0_0, .int .i64 a0_1, .slice A0_2 l0_2.length c0_2] 34 (0, 0)) (by (with_reducible repeat (first | refine blk_drewN ?_ _ | refine blk_drew ?_ | refine blk_alloc ?_ _)); exact y7_.out)) : y32_ ≠ y1_)); have y36_ := Aside0.mk ((by rw [hg]; exact Nat.ne_of_lt (blk_lt (g := y10_) (o := .cells #[.int .i64 0, .int .i64 0, .slice none 0 0] 34 (0, 0)) (by (with_reducible repeat (first | refine blk_drewN ?_ _ | refine blk_drew ?_ | refine blk_alloc ?_ _)); exact y15_.out)) : y10_ ≠ y32_)); have y37_ := Aside0.mk ((by rw [hg]; exact Nat.ne_of_gt (blk_lt (g := y10_) (o := .cells #[.int .i64 0, .int .i64 0, .slice none 0 0] 34 (0, 0)) (by (with_reducible repeat (first | refine blk_drewN ?_ _ | refine blk_drew ?_ | refine blk_alloc ?_ _)); exact y15_.out)) : y32_ ≠ y10_)); clear y31_; clear y7_; clear y15_; clear HB; have y31_ := y3_; have y7_ := y4_; have y15_ := y5_; have HB := y6_; have y38_ := y12_; have y39_ := y13_; have y40_ := y14_; have y41_ := y34_; have y42_ := y35_; have y43_ := y36_; have y44_ := y37_; clear y3_ y4_ y5_ y6_ y12_ y13_ y14_ y34_ y35_ y36_ y37_; clear hb hbox hg; have y45_ := y42_.out; have y46_ := y41_.out; have y47_ := y44_.out; have y48_ := y43_.out; have y49_ : y33_.cell? ⟨y32_, 0, none⟩ = some (.int .i64 0) := (blk_cell y38_.out 0).trans rfl; have y50_ : y33_.cell? ⟨y32_, 1, none⟩ = some (.int .i64 0) := (blk_cell y38_.out 1).trans rfl; have y51_ : y33_.cell? ⟨y32_, 2, none⟩ = some (.slice none 0 0) := (blk_cell y38_.out 2).trans rfl; have y52_ := blk_frozen y38_.out 0; have y53_ := blk_frozen y38_.out 1; have y54_ := blk_frozen y38_.out 2; obtain ⟨y55_, y56_, y57_⟩ := Kd.R_slice y31_.out; subst y57_; have y58_ : y33_.cell? ⟨y1_, 0, none⟩ = some (.int .i64 a0_0) := (blk_cell y7_.out 0).trans rfl; have y59_ : y33_.cell? ⟨y1_, 1, none⟩ = some (.int .i64 a0_1) := (blk_cell y7_.out 1).trans rfl; have y60_ : y33_.cell? ⟨y1_, 2, none⟩ = some (.slice A0_2 l0_2.length c0_2) := (blk_cell y7_.out 2).trans rfl; have y61_ := blk_frozen y7_.out 0; have y62_ := blk_frozen y7_.out 1; have y63_ := blk_frozen y7_.out 2) | ((with_reducible refine gate_callee (f := 152) rfl ?_); refine goesL_ (some 13) rfl rfl Try.func152 (by kernel_rfl) rfl #[.agg #[.int .i64 a0_0, .int .i64 a0_1, .slice A0_2 l0_2.length c0_2], .int .i64 a1] rfl (by (try simp only [List.map_toArray, List.map_cons, List.map_nil]); first | done | rfl | (simp only [List.length_drop, List.length_take]; rfl)) ?_; (with_reducible refine (spec_HasChannel.calls _ _ _ _ _ _ _ _ _ ?side1 ?side2 z11_.out).mono ?_); (case side1 => exact Kd.C_below z2_.out (by repeat (first | (with_reducible first | exact HB.out | apply below_alloc | apply pw_below_drewN | apply below_drew1 | refine below_set ?_ y9_.out | refine below_set ?_ y17_.out | refine below_set ?_ y40_.out) | exact HB.out))); (case side2 => exact z3_.out); rintro e y64_ ⟨rfl, hb⟩; refine ⟨_, rfl, ?_⟩; have y3_ := Aside0.mk (Kd.R_below (by (with_reducible repeat (first | apply Kd.R_alloc | apply Kd.R_drewN | apply Kd.R_drew)); exact (Kd.R_mono (Kd.R_far (p := ⟨y32_, 2, none⟩) (Kd.R_far (p := ⟨y32_, 1, none⟩) (Kd.R_far (p := ⟨y32_, 0, none⟩) (Kd.R_types y31_.out y38_.out (by decide)) (fun _ hk => hk.2) (.int .i64 z4_)) (fun _ hk => hk.2) (.int .i64 z5_)) (fun _ hk => hk.2) (.slice y55_ z6_.length y56_)) (fun _ h_ => h_.1))) hb); have y4_ := Aside0.mk (blk_below (g := y1_) (o := .cells #[.int .i64 a0_0, .int .i64 a0_1, .slice A0_2 l0_2.length c0_2] 34 (0, 0)) (by (with_reducible repeat (first | refine blk_drewN ?_ _ | refine blk_drew ?_ | refine blk_alloc ?_ _)); refine blk_far ?_ y41_.out _; (with_reducible repeat (first | refine blk_drewN ?_ _ | refine blk_drew ?_ | refine blk_alloc ?_ _)); refine blk_far ?_ y41_.out _; (with_reducible repeat (first | refine blk_drewN ?_ _ | refine blk_drew ?_ | refine blk_alloc ?_ _)); refine blk_far ?_ y41_.out _; (with_reducible repeat (first | refine blk_drewN ?_ _ | refine blk_drew ?_ | refine blk_alloc ?_ _)); exact y7_.out) hb); have y5_ := Aside0.mk (blk_below (g := y10_) (o := .cells #[.int .i64 0, .int .i64 0, .slice none 0 0] 34 (0, 0)) (by (with_reducible repeat (first | refine blk_drewN ?_ _ | refine blk_drew ?_ | refine blk_alloc ?_ _)); refine blk_far ?_ y43_.out _; (with_reducible repeat (first | refine blk_drewN ?_ _ | refine blk_drew ?_ | refine blk_alloc ?_ _)); refine blk_far ?_ y43_.out _; (with_reducible repeat (first | refine blk_drewN ?_ _ | refine blk_drew ?_ | refine blk_alloc ?_ _)); refine blk_far ?_ y43_.out _; (with_reducible repeat (first | refine blk_drewN ?_ _ | refine blk_drew ?_ | refine blk_alloc ?_ _)); exact y15_.out) hb); have y6_ := Aside0.mk (blk_below (g := y32_) (o := .cells #[.int .i64 z4_, .int .i64 z5_, .slice y55_ z6_.length y56_] 34 (0, 0)) (by (with_reducible repeat (first | refine blk_drewN ?_ _ | refine blk_drew ?_ | refine blk_alloc ?_ _)); refine blk_put (cs := #[.int .i64 z4_, .int .i64 z5_, .slice none 0 0]) ?_ 2 _ rfl; (with_reducible repeat (first | refine blk_drewN ?_ _ | refine blk_drew ?_ | refine blk_alloc ?_ _)); refine blk_put (cs := #[.int .i64 z4_, .int .i64 0, .slice none 0 0]) ?_ 1 _ rfl; (with_reducible repeat (first | refine blk_drewN ?_ _ | refine blk_drew ?_ | refine blk_alloc ?_ _)); refine blk_put (cs := #[.int .i64 0, .int .i64 0, .slice none 0 0]) ?_ 0 _ rfl; (with_reducible repeat (first | refine blk_drewN ?_ _ | refine blk_drew ?_ | refine blk_alloc ?_ _)); exact y38_.out) hb); have y12_ := Aside0.mk (below_step (by repeat (first | (with_reducible first | exact HB.out | apply below_alloc | apply pw_below_drewN | apply below_drew1 | refine below_set ?_ y9_.out | refine below_set ?_ y17_.out | refine below_set ?_ y40_.out) | exact HB.out)) hb); clear y31_; clear y7_; clear y15_; clear y38_; clear HB; have y31_ := y3_; have y7_ := y4_; have y15_ := y5_; have y38_ := y6_; have HB := y12_; clear y3_ y4_ y5_ y6_ y12_; (try clear hb); (try clear hb2); (try clear hk); (try clear hi)) | ((with_reducible refine gate_dst (N := 16) rfl ?_); refine Kd.R_lit (Kd.int .i64) _ 3 ?hg (N := 16) ?hd (xs := ([] : List Int)) (inner := []) (ok := fun _ => True) (okp := fun _ => True) ?hr ?hp (fun _ hk => hk) trivial (Below.refl _ _) (Nat.le_refl _) (by simp) ?_; (case hd => rfl); (case hg => rfl); (case hr => first | (go_simp; done) | (go_simp; rfl)); (case hp => exact (Reps.none _ _)); intro y65_ y66_ y67_ hb hg_ hnew_; clear hg_ hnew_; (first | rw [← z17_.out] at y67_ | (simp only [Int.reduceToNat] at y67_; rw [← z17_.out] at y67_)); have y3_ := Aside0.mk (Kd.R_elder' (by (with_reducible repeat (first | apply Kd.R_alloc | apply Kd.R_drewN | apply Kd.R_drew)); exact y31_.out) (Kd.R_base y67_) hb); have y4_ := Aside0.mk (Kd.R_lower (Kd.R_new' y67_ (Kd.R_lt (by (with_reducible repeat (first | apply Kd.R_alloc | apply Kd.R_drewN | apply Kd.R_drew)); exact y31_.out))) (below_size (by repeat (first | (with_reducible first | exact HB.out | apply below_alloc | apply pw_below_drewN | apply below_drew1 | refine below_set ?_ y9_.out | refine below_set ?_ y17_.out | refine below_set ?_ y40_.out) | exact HB.out)))); have y5_ := Aside0.mk (blk_below (g := y1_) (o := .cells #[.int .i64 a0_0, .int .i64 a0_1, .slice A0_2 l0_2.length c0_2] 34 (0, 0)) (by (with_reducible repeat (first | refine blk_drewN ?_ _ | refine blk_drew ?_ | refine blk_alloc ?_ _)); exact y7_.out) hb); have y6_ := Aside0.mk (blk_below (g := y10_) (o := .cells #[.int .i64 0, .int .i64 0, .slice none 0 0] 34 (0, 0)) (by (with_reducible repeat (first | refine blk_drewN ?_ _ | refine blk_drew ?_ | refine blk_alloc ?_ _)); exact y15_.out) hb); have y12_ := Aside0.mk (blk_below (g := y32_) (o := .cells #[.int .i64 z4_, .int .i64 z5_, .slice y55_ z6_.length y56_] 34 (0, 0)) (by (with_reducible repeat (first | refine blk_drewN ?_ _ | refine blk_drew ?_ | refine blk_alloc ?_ _)); exact y38_.out) hb); have y13_ := Aside0.mk (below_step (by repeat (first | (with_reducible first | exact HB.out | apply below_alloc | apply pw_below_drewN | apply below_drew1 | refine below_set ?_ y9_.out | refine below_set ?_ y17_.out | refine below_set ?_ y40_.out) | exact HB.out)) hb); clear y31_; clear y7_; clear y15_; clear y38_; clear HB; have y31_ := y3_; have y68_ := y4_; have y7_ := y5_; have y15_ := y6_; have y38_ := y12_; have HB := y13_; clear y3_ y4_ y5_ y6_ y12_ y13_; clear hb y67_; obtain ⟨y69_, y70_, y71_⟩ := Kd.R_slice y68_.out; subst y71_; have y72_ : y66_.cell? ⟨y32_, 0, none⟩ = some (.int .i64 z4_) := (blk_cell y38_.out 0).trans rfl; have y73_ : y66_.cell? ⟨y32_, 1, none⟩ = some (.int .i64 z5_) := (blk_cell y38_.out 1).trans rfl; have y74_ : y66_.cell? ⟨y32_, 2, none⟩ = some (.slice y55_ z6_.length y56_) := (blk_cell y38_.out 2).trans rfl; have y75_ := blk_frozen y38_.out 0; have y76_ := blk_frozen y38_.out 1; have y77_ := blk_frozen y38_.out 2))
   go_loopg [7] k (fun kq v7 w' => ∃ (x7_1 : Int) (x109002_1 : List Int) (u109002 : Value), v7 = .int .i64 x7_1 ∧ Aside0 (spec_WithBroken.l0 kq a1 x7_1 a0_0 a0_1 l0_2 z4_ z5_ x109002_1 = some (r1, r2, r3, r4)) ∧ Aside0 (kq ≤ k) ∧ Aside0 (Kd.R (Kd.int .i64) 3 w' w.heap.size (fun _ => True) u109002 x109002_1) ∧ Aside0 (w'.heap[y1_]? = some (.cells #[.int .i64 a0_0, .int .i64 a0_1, (.slice A0_2 l0_2.length c0_2)] 34 (0, 0))) ∧ Aside0 (w'.heap[y10_]? = some (.cells #[.int .i64 0, .int .i64 0, (.slice none 0 0)] 34 (0, 0))) ∧ Aside0 (w'.heap[y32_]? = some (.cells #[.int .i64 z4_, .int .i64 z5_, u109002] 34 (0, 0))) ∧ Aside0 (Below w.heap.size w w'))
   case atStart => exact ⟨(0), (z14_), (.slice y69_ z14_.length y70_), (by first | rfl | (simp; done) | (simp [*]; done)), H', ⟨Nat.le_refl _⟩, ⟨by (with_reducible repeat (first | apply Kd.R_alloc | apply Kd.R_drewN | apply Kd.R_drew)); exact Kd.R_mono (Kd.R_far (p := ⟨y32_, 2, none⟩) (Kd.R_types y68_.out y38_.out (by decide)) (fun _ hk => hk.2) (.slice y69_ z14_.length y70_)) (fun _ hk => trivial)⟩, ⟨by (with_reducible repeat (first | refine blk_drewN ?_ _ | refine blk_drew ?_ | refine blk_alloc ?_ _)); refine blk_far ?_ y41_.out _; (with_reducible repeat (first | refine blk_drewN ?_ _ | refine blk_drew ?_ | refine blk_alloc ?_ _)); exact y7_.out⟩, ⟨by (with_reducible repeat (first | refine blk_drewN ?_ _ | refine blk_drew ?_ | refine blk_alloc ?_ _)); refine blk_far ?_ y43_.out _; (with_reducible repeat (first | refine blk_drewN ?_ _ | refine blk_drew ?_ | refine blk_alloc ?_ _)); exact y15_.out⟩, ⟨by (with_reducible repeat (first | refine blk_drewN ?_ _ | refine blk_drew ?_ | refine blk_alloc ?_ _)); refine blk_put (cs := #[.int .i64 z4_, .int .i64 z5_, .slice y55_ z6_.length y56_]) ?_ 2 _ rfl; (with_reducible repeat (first | refine blk_drewN ?_ _ | refine blk_drew ?_ | refine blk_alloc ?_ _)); exact y38_.out⟩, ⟨by repeat (first | (with_reducible first | exact HB.out | apply below_alloc | apply pw_below_drewN | apply below_drew1 | refine below_set ?_ y9_.out | refine below_set ?_ y17_.out | refine below_set ?_ y40_.out) | exact HB.out)⟩⟩
   case round =>
     clear H'
     try clear c1
     try clear p2
     try clear z12_
     try clear c8
     try clear c12
     try clear c13
     try clear c15
     try clear y49_
     try clear y50_
     try clear y51_
     try clear y58_
     try clear y59_
     try clear y60_
     try clear y72_
     try clear y73_
     try clear y74_
     try clear y22_
     try clear y23_
     try clear y24_
     try clear y52_
     try clear y53_
     try clear y54_
     try clear y61_
     try clear y62_
     try clear y63_
     try clear y75_
     try clear y76_
     try clear y77_
     try clear y25_
     try clear y26_
     try clear y27_
     obtain ⟨y78_, y79_, y80_, rfl, HA, y81_, y82_, y7_, y15_, y38_, HB⟩ := hrel
     cases gk with
     | zero => exact absurd HA.out (by simp [spec_WithBroken.l0])
     | succ y83_ =>
       have H := HA.out
       clear HA
       simp only [spec_WithBroken.l0] at H
       by_cases y84_ : y78_ < (l0_2.length : Int)
       · rw [if_pos y84_] at H
         have y85_ : decide (y78_ < (l0_2.length : Int)) = true := decide_eq_true y84_
         clear y84_
         by_cases y86_ : 0 ≤ y78_
         · rw [if_pos y86_] at H
           have y87_ : decide (0 ≤ y78_) = true := decide_eq_true y86_
           clear y86_
           by_cases y88_ : (rd l0_2 y78_) < a1
           · rw [if_pos y88_] at H
             have y89_ : decide ((rd l0_2 y78_) < a1) = true := decide_eq_true y88_
             clear y88_
             by_cases y90_ : y79_.length < 17592186044416
             · rw [if_pos y90_] at H
               have y91_ := Aside0.mk y90_
               clear y90_
               obtain ⟨y92_, y93_⟩ : ∃ y_ : List Int, y_ = (y79_ ++ [rd l0_2 y78_]) := ⟨_, rfl⟩
               replace H : (spec_WithBroken.l0 y83_ a1 (wrap64 (y78_ + 1)) a0_0 a0_1 l0_2 z4_ z5_ y92_) = some (r1, r2, r3, r4) := by first | (rw [y93_]; with_reducible exact H) | (have z16_ := (Option.bind_some _ _).symm.trans H; rw [y93_]; with_reducible exact z16_) | (have z16_ := (Option.bind_some _ _).symm.trans H; with_reducible exact z16_) | with_reducible exact H | (rw [y93_]; exact H) | exact H
               have y94_ := Aside0.mk y93_
               clear y93_
               have H' := Aside0.mk H
               clear H
               have x1_ := y18_.out
               have x2_ := y19_.out
               have x3_ := y41_.out
               have x4_ := y42_.out
               have x5_ : wr.cell? ⟨y1_, 0, none⟩ = some (.int .i64 a0_0) := (blk_cell y7_.out 0).trans rfl
               have x6_ : wr.cell? ⟨y1_, 1, none⟩ = some (.int .i64 a0_1) := (blk_cell y7_.out 1).trans rfl
               have x7_ : wr.cell? ⟨y1_, 2, none⟩ = some (.slice A0_2 l0_2.length c0_2) := (blk_cell y7_.out 2).trans rfl
               have x8_ := blk_frozen y7_.out 0
               have x9_ := blk_frozen y7_.out 1
               have x10_ := blk_frozen y7_.out 2
               have x11_ : 0 ≤ (y78_ : Int) := of_decide_eq_true (by first | (with_reducible assumption) | assumption)
               have x12_ : y78_ < (l0_2.length : Int) := of_decide_eq_true (by first | (with_reducible assumption) | assumption)
               obtain ⟨x13_, x14_, x15_⟩ := Kd.at_int z2_.out y78_ x11_ x12_
               cases x14_
               replace x15_ := (HB.out.cell (World.block_lt_of_cell? w _ x15_)).trans x15_
               replace x11_ := eq_true x11_
               replace x12_ := eq_true x12_
               try go_wp2
               have y3_ := Aside0.mk (Kd.R_drew y82_.out)
               have y4_ := Aside0.mk (blk_drew y7_.out)
               have y5_ := Aside0.mk (blk_drew y15_.out)
               have y6_ := Aside0.mk (blk_drew y38_.out)
               have y12_ := Aside0.mk (below_drew1 HB.out)
               clear y82_
               clear y7_
               clear y15_
               clear y38_
               clear HB
               have y82_ := y3_
               have y7_ := y4_
               have y15_ := y5_
               have y38_ := y6_
               have HB := y12_
               clear y3_ y4_ y5_ y6_ y12_
               have x16_ : 0 ≤ (y78_ : Int) := of_decide_eq_true (by first | (with_reducible assumption) | assumption)
               have x17_ : y78_ < (l0_2.length : Int) := of_decide_eq_true (by first | (with_reducible assumption) | assumption)
               obtain ⟨x18_, x19_, x20_⟩ := Kd.at_int z2_.out y78_ x16_ x17_
               have x21_ := x20_
               obtain rfl : x13_ = x18_ := (by injection x19_)
               replace x20_ := (HB.out.cell (World.block_lt_of_cell? w _ x20_)).trans x20_
               replace x16_ := eq_true x16_
               replace x17_ := eq_true x17_
               refine start_ (n := 11) (S := fun w' => w'.cell? ⟨y32_, 0, none⟩ = some (.int .i64 z4_) ∧ w'.cell? ⟨y32_, 1, none⟩ = some (.int .i64 z5_) ∧ w'.cell? ⟨y32_, 2, none⟩ = some (y80_) ∧ w'.cell? ⟨y1_, 0, none⟩ = some (.int .i64 a0_0) ∧ w'.cell? ⟨y1_, 1, none⟩ = some (.int .i64 a0_1) ∧ w'.cell? ⟨y1_, 2, none⟩ = some (.slice (some x13_) l0_2.length c0_2) ∧ w'.cell? (x13_.add (y78_).toNat) = some (.int .i64 (rd l0_2 y78_))) (ds := [10]) #[false, false, false, false, false, false, false, false, false, false, false] (by kernel_rfl) rfl rfl ⟨(blk_cell y38_.out 0).trans rfl, (blk_cell y38_.out 1).trans rfl, (blk_cell y38_.out 2).trans rfl, (blk_cell y7_.out 0).trans rfl, (blk_cell y7_.out 1).trans rfl, (blk_cell y7_.out 2).trans rfl, ((HB.out.cell (World.block_lt_of_cell? w _ x21_)).trans x21_)⟩ (fun hHeld => ?_); refine with_tabW spec_WithBroken.tab8 spec_WithBroken.bits8 (fun HT_ HW_ => ?_)
               generalize wr.drew = x22_ at y82_ y7_ y15_ y38_ HB x20_ hHeld ⊢
               refine pure_ (i := 0) (N := some 34) (v := ?_) (a' := ?_) #[true, false, false, false, false, false, false, false, false, false, false] rfl rfl (any_of HT_.out (by kernel_rfl)) (fun _ _ _ h => h) (Or.inl ⟨by rfl, ?_⟩) ?_ ?_
               rotate_left
               · intro w'
                 go_simp
                 with_reducible rfl
               rotate_left
               · simp only [Act.put, List.setIfInBounds_toArray, List.set_cons_zero, List.set_cons_succ, i64_w, i32_w]
                 rfl
               refine pure_ (i := 2) (N := some 36) (v := ?_) (a' := ?_) #[true, false, true, false, false, false, false, false, false, false, false] rfl rfl (any_of HT_.out (by kernel_rfl)) (fun _ _ _ h => h) (Or.inl ⟨by rfl, ?_⟩) ?_ ?_
               rotate_left
               · intro w'
                 go_simp
                 with_reducible rfl
               rotate_left
               · simp only [Act.put, List.setIfInBounds_toArray, List.set_cons_zero, List.set_cons_succ, i64_w, i32_w]
                 rfl
               refine pure_ (i := 4) (N := some 38) (v := ?_) (a' := ?_) #[true, false, true, false, true, false, false, false, false, false, false] rfl rfl (any_of HT_.out (by kernel_rfl)) (fun _ _ _ h => h) (Or.inl ⟨by rfl, ?_⟩) ?_ ?_
               rotate_left
               · intro w'
                 go_simp
                 with_reducible rfl
               rotate_left
               · simp only [Act.put, List.setIfInBounds_toArray, List.set_cons_zero, List.set_cons_succ, i64_w, i32_w]
                 rfl
               refine take_ (i := 1) (N := some 35) (v := ?_) (a' := ?_) #[true, true, true, false, true, false, false, false, false, false, false] rfl rfl (take_ofW HT_.out HW_.out (by kernel_rfl)) (fun _ _ _ h => h) (Or.inl ⟨by rfl, ?_⟩) hHeld ?_ ?_
               rotate_left
               · rintro w' ⟨x23_, x24_, x25_, x26_, x27_, x28_, x29_⟩
                 go_simp
                 with_reducible rfl
               rotate_left
               · simp only [Act.put, List.setIfInBounds_toArray, List.set_cons_zero, List.set_cons_succ, i64_w, i32_w]
                 rfl
               refine take_ (i := 3) (N := some 37) (v := ?_) (a' := ?_) #[true, true, true, true, true, false, false, false, false, false, false] rfl rfl (take_ofW HT_.out HW_.out (by kernel_rfl)) (fun _ _ _ h => h) (Or.inl ⟨by rfl, ?_⟩) hHeld ?_ ?_
               rotate_left
               · rintro w' ⟨x23_, x24_, x25_, x26_, x27_, x28_, x29_⟩
                 go_simp
                 with_reducible rfl
               rotate_left
               · simp only [Act.put, List.setIfInBounds_toArray, List.set_cons_zero, List.set_cons_succ, i64_w, i32_w]
                 rfl
               refine pure_ (i := 5) (N := some 39) (v := ?_) (a' := ?_) #[true, true, true, true, true, true, false, false, false, false, false] rfl rfl (any_of HT_.out (by kernel_rfl)) (fun _ _ _ h => h) (Or.inl ⟨by rfl, ?_⟩) ?_ ?_
               rotate_left
               · intro w'
                 go_simp
                 with_reducible rfl
               rotate_left
               · simp only [Act.put, List.setIfInBounds_toArray, List.set_cons_zero, List.set_cons_succ, i64_w, i32_w]
                 rfl
               refine take_ (i := 6) (N := some 40) (v := ?_) (a' := ?_) #[true, true, true, true, true, true, true, false, false, false, false] rfl rfl (take_ofW HT_.out HW_.out (by kernel_rfl)) (fun _ _ _ h => h) (Or.inl ⟨by rfl, ?_⟩) hHeld ?_ ?_
               rotate_left
               · rintro w' ⟨x23_, x24_, x25_, x26_, x27_, x28_, x29_⟩
                 go_simp
                 with_reducible rfl
               rotate_left
               · simp only [Act.put, List.setIfInBounds_toArray, List.set_cons_zero, List.set_cons_succ, i64_w, i32_w]
                 rfl
               refine one_ (i := 7) (N := some 41) #[true, true, true, true, true, true, true, true, false, false, false] rfl rfl (one_of HT_.out (by kernel_rfl)) (by decide) (fun K hK => ?_)
               refine value_ (w1 := ?_) (v := ?_) (by rfl) rfl ?_ ?_
               rotate_left 2
               · go_simp
                 constructor
                 · rfl
                 · rfl
               refine hK.out _ _ ⟨(blk_cell (blk_alloc y38_.out _) 0).trans rfl, (blk_cell (blk_alloc y38_.out _) 1).trans rfl, (blk_cell (blk_alloc y38_.out _) 2).trans rfl, (blk_cell (blk_alloc y7_.out _) 0).trans rfl, (blk_cell (blk_alloc y7_.out _) 1).trans rfl, (blk_cell (blk_alloc y7_.out _) 2).trans rfl, (World.cell?_alloc_lt _ _ _ (World.block_lt_of_cell? _ _ (((HB.out.cell (World.block_lt_of_cell? w _ x21_)).trans x21_)))).trans (((HB.out.cell (World.block_lt_of_cell? w _ x21_)).trans x21_))⟩ (fun hHeld => ?_)
               clear hK K
               refine norm_ (a' := ?_) ?_ ?_
               rotate_left
               · show Act.put _ (some 41) _ = _
                 simp only [Act.put, List.setIfInBounds_toArray, List.set_cons_zero, List.set_cons_succ, i64_w, i32_w]
                 rfl
               refine one_ (i := 8) (N := some 42) #[true, true, true, true, true, true, true, true, true, false, false] rfl rfl (one_of HT_.out (by kernel_rfl)) (by decide) (fun K hK => ?_)
               refine Kd.R_append_step (Kd.int .i64) (w0 := w) w.heap.size (by rfl) (.tmp 35) (.tmp 41) 24 3 (.int .i64 0) 8 rfl Try.underlying24 info3 rfl (by decide) (by omega) y80_ y79_ (rd l0_2 y78_) [.int .i64 (rd l0_2 y78_)] (fun _ => True) (fun _ => False) rfl rfl ?aP (fun _ hk => hk.elim) ?aF ?aO ?aB ?aS ?aL ?_
               (case aP => exact rfl)
               (case aB => exact (by repeat (first | (with_reducible first | exact HB.out | apply below_alloc | apply pw_below_drewN | apply below_drew1 | refine below_set ?_ y9_.out | refine below_set ?_ y17_.out | refine below_set ?_ y40_.out) | exact HB.out)))
               (case aF => exact (fun _ _ => trivial))
               (case aO => exact (by (with_reducible repeat (first | apply Kd.R_alloc | apply Kd.R_drewN | apply Kd.R_drew)); exact y82_.out))
               (case aS => exact (below_size (by repeat (first | (with_reducible first | exact HB.out | apply below_alloc | apply pw_below_drewN | apply below_drew1 | refine below_set ?_ y9_.out | refine below_set ?_ y17_.out | refine below_set ?_ y40_.out) | exact HB.out))))
               (case aL => have := y91_.out; omega)
               intro x30_ x31_ ho hb hg hat
               rw [← y94_.out] at ho
               have y3_ := Aside0.mk (blk_grown (g := y1_) (o := .cells #[.int .i64 a0_0, .int .i64 a0_1, .slice (some x13_) l0_2.length c0_2] 34 (0, 0)) (by (with_reducible repeat (first | refine blk_drewN ?_ _ | refine blk_drew ?_ | refine blk_alloc ?_ _)); exact y7_.out) hg (Kd.R_ne y82_.out y7_.out (by decide)))
               have y4_ := Aside0.mk (blk_grown (g := y10_) (o := .cells #[.int .i64 0, .int .i64 0, .slice none 0 0] 34 (0, 0)) (by (with_reducible repeat (first | refine blk_drewN ?_ _ | refine blk_drew ?_ | refine blk_alloc ?_ _)); exact y15_.out) hg (Kd.R_ne y82_.out y15_.out (by decide)))
               have y5_ := Aside0.mk (blk_grown (g := y32_) (o := .cells #[.int .i64 z4_, .int .i64 z5_, y80_] 34 (0, 0)) (by (with_reducible repeat (first | refine blk_drewN ?_ _ | refine blk_drew ?_ | refine blk_alloc ?_ _)); exact y38_.out) hg (Kd.R_ne y82_.out y38_.out (by decide)))
               have y6_ := Aside0.mk (hb)
               have y12_ := Aside0.mk (ho)
               clear y7_
               clear y15_
               clear y38_
               clear HB
               clear y82_
               have y7_ := y3_
               have y15_ := y4_
               have y38_ := y5_
               have HB := y6_
               have x32_ := y12_
               clear y3_ y4_ y5_ y6_ y12_
               clear ho hb hg hat
               obtain ⟨x33_, x34_, x35_⟩ := Kd.R_slice x32_.out
               (first | subst x35_ | (injection x35_ with f1_ f2_ f3_; have x36_ := f1_.symm; have x37_ := f3_.symm; clear f1_ f2_ f3_; subst x36_; subst x37_))
               refine hK.out _ _ ⟨(blk_cell y38_.out 0).trans rfl, (blk_cell y38_.out 1).trans rfl, (blk_cell y38_.out 2).trans rfl, (blk_cell y7_.out 0).trans rfl, (blk_cell y7_.out 1).trans rfl, (blk_cell y7_.out 2).trans rfl, ((HB.out.cell (World.block_lt_of_cell? w _ x21_)).trans x21_)⟩ (fun hHeld => ?_)
               clear hK K
               refine norm_ (a' := ?_) ?_ ?_
               rotate_left
               · show Act.put _ (some 42) _ = _
                 simp only [Act.put, List.setIfInBounds_toArray, List.set_cons_zero, List.set_cons_succ, i64_w, i32_w]
                 rfl
               refine pure_ (i := 9) (N := some 43) (v := ?_) (a' := ?_) #[true, true, true, true, true, true, true, true, true, true, false] rfl rfl (any_of HT_.out (by kernel_rfl)) (fun _ _ _ h => h) (Or.inl ⟨by rfl, ?_⟩) ?_ ?_
               rotate_left
               · intro w'
                 go_simp
                 with_reducible rfl
               rotate_left
               · simp only [Act.put, List.setIfInBounds_toArray, List.set_cons_zero, List.set_cons_succ, i64_w, i32_w]
                 rfl
               refine last_ (i := 10) (N := none) #[true, true, true, true, true, true, true, true, true, true, true] rfl rfl (one_of HT_.out (by kernel_rfl)) (by decide) (fun K hK => ?_)
               have x38_ : x31_.cell? ⟨y32_, 2, none⟩ = some (y80_) := (blk_cell y38_.out 2).trans rfl
               have x39_ := blk_frozen y38_.out 2
               have x40_ := y41_.out
               have x41_ := y43_.out
               have x42_ := y42_.out
               have x43_ := y44_.out
               refine skip_ (w1 := ?_) (by rfl) rfl ?_ ?_
               rotate_left
               · go_simp
                 rfl
               refine hK.out _ _ ?_
               clear hK K
               refine done_ (done_of HT_.out (by kernel_rfl)) ?_
               try go_wp2
               go_roundg y83_
               case measure => have := y81_.out; omega
               case rel => exact ⟨(wrap64 (y78_ + 1)), (y92_), (.slice x33_ y92_.length x34_), (by first | rfl | (simp; done) | (simp [*]; done)), H', ⟨by have := y81_.out; omega⟩, ⟨by (with_reducible repeat (first | apply Kd.R_alloc | apply Kd.R_drewN | apply Kd.R_drew)); exact Kd.R_mono (Kd.R_far (p := ⟨y32_, 2, none⟩) (Kd.R_types x32_.out y38_.out (by decide)) (fun _ hk => hk.2) (.slice x33_ y92_.length x34_)) (fun _ hk => trivial)⟩, ⟨by (with_reducible repeat (first | refine blk_drewN ?_ _ | refine blk_drew ?_ | refine blk_alloc ?_ _)); refine blk_far ?_ y41_.out _; (with_reducible repeat (first | refine blk_drewN ?_ _ | refine blk_drew ?_ | refine blk_alloc ?_ _)); exact y7_.out⟩, ⟨by (with_reducible repeat (first | refine blk_drewN ?_ _ | refine blk_drew ?_ | refine blk_alloc ?_ _)); refine blk_far ?_ y43_.out _; (with_reducible repeat (first | refine blk_drewN ?_ _ | refine blk_drew ?_ | refine blk_alloc ?_ _)); exact y15_.out⟩, ⟨by (with_reducible repeat (first | refine blk_drewN ?_ _ | refine blk_drew ?_ | refine blk_alloc ?_ _)); refine blk_put (cs := #[.int .i64 z4_, .int .i64 z5_, y80_]) ?_ 2 _ rfl; (with_reducible repeat (first | refine blk_drewN ?_ _ | refine blk_drew ?_ | refine blk_alloc ?_ _)); exact y38_.out⟩, ⟨by repeat (first | (with_reducible first | exact HB.out | apply below_alloc | apply pw_below_drewN | apply below_drew1 | refine below_set ?_ y9_.out | refine below_set ?_ y17_.out | refine below_set ?_ y40_.out) | exact HB.out)⟩⟩
             · rw [if_neg y90_] at H
               exact absurd H (by simp)
           · rw [if_neg y88_] at H
             have y89_ : decide ((rd l0_2 y78_) < a1) = false := decide_eq_false y88_
             clear y88_
             by_cases y90_ : y79_.length < 17592186044416
             · rw [if_pos y90_] at H
               have y91_ := Aside0.mk y90_
               clear y90_
               obtain ⟨y92_, y93_⟩ : ∃ y_ : List Int, y_ = (y79_ ++ [a1]) := ⟨_, rfl⟩
               replace H : (if 0 ≤ (y79_.length : Int) then (if (y79_.length : Int) ≤ (l0_2.length : Int) then (if y92_.length + (l0_2.drop ((y79_.length : Int) : Int).toNat).length < 17592186044416 then (some (z4_, z5_, (y92_ ++ (l0_2.drop ((y79_.length : Int) : Int).toNat)), true)) else (none)) else (none)) else (none)) = some (r1, r2, r3, r4) := by first | (rw [y93_]; with_reducible exact H) | (have z16_ := (Option.bind_some _ _).symm.trans H; rw [y93_]; with_reducible exact z16_) | (have z16_ := (Option.bind_some _ _).symm.trans H; with_reducible exact z16_) | with_reducible exact H | (rw [y93_]; exact H) | exact H
               have y94_ := Aside0.mk y93_
               clear y93_
               by_cases y95_ : 0 ≤ (y79_.length : Int)
               · rw [if_pos y95_] at H
                 have y96_ := eq_true y95_
                 have y97_ : decide (0 ≤ (y79_.length : Int)) = true := decide_eq_true y95_
                 clear y95_
                 by_cases y98_ : (y79_.length : Int) ≤ (l0_2.length : Int)
                 · rw [if_pos y98_] at H
                   have y99_ := eq_true y98_
                   have y100_ : decide ((y79_.length : Int) ≤ (l0_2.length : Int)) = true := decide_eq_true y98_
                   clear y98_
                   by_cases y101_ : y92_.length + (l0_2.drop ((y79_.length : Int) : Int).toNat).length < 17592186044416
                   · rw [if_pos y101_] at H
                     have y102_ := Aside0.mk y101_
                     clear y101_
                     obtain ⟨y103_, y104_⟩ : ∃ y_ : List Int, y_ = (y92_ ++ (l0_2.drop ((y79_.length : Int) : Int).toNat)) := ⟨_, rfl⟩
                     replace H : (some (z4_, z5_, y103_, true)) = some (r1, r2, r3, r4) := by first | (rw [y104_]; with_reducible exact H) | (have z16_ := (Option.bind_some _ _).symm.trans H; rw [y104_]; with_reducible exact z16_) | (have z16_ := (Option.bind_some _ _).symm.trans H; with_reducible exact z16_) | with_reducible exact H | (rw [y104_]; exact H) | exact H
                     have y105_ := Aside0.mk y104_
                     clear y104_
                     simp only [Option.some.injEq, Prod.mk.injEq] at H
                     obtain ⟨rfl, rfl, rfl, rfl⟩ := H
                     have x1_ := y18_.out
                     have x2_ := y19_.out
                     have x3_ := y41_.out
                     have x4_ := y42_.out
                     have x5_ : wr.cell? ⟨y1_, 0, none⟩ = some (.int .i64 a0_0) := (blk_cell y7_.out 0).trans rfl
                     have x6_ : wr.cell? ⟨y1_, 1, none⟩ = some (.int .i64 a0_1) := (blk_cell y7_.out 1).trans rfl
                     have x7_ : wr.cell? ⟨y1_, 2, none⟩ = some (.slice A0_2 l0_2.length c0_2) := (blk_cell y7_.out 2).trans rfl
                     have x8_ := blk_frozen y7_.out 0
                     have x9_ := blk_frozen y7_.out 1
                     have x10_ := blk_frozen y7_.out 2
                     have x11_ : 0 ≤ (y78_ : Int) := of_decide_eq_true (by first | (with_reducible assumption) | assumption)
                     have x12_ : y78_ < (l0_2.length : Int) := of_decide_eq_true (by first | (with_reducible assumption) | assumption)
                     obtain ⟨x13_, x14_, x15_⟩ := Kd.at_int z2_.out y78_ x11_ x12_
                     cases x14_
                     replace x15_ := (HB.out.cell (World.block_lt_of_cell? w _ x15_)).trans x15_
                     replace x11_ := eq_true x11_
                     replace x12_ := eq_true x12_
                     have x16_ := y44_.out
                     have x17_ := y43_.out
                     have x18_ : wr.cell? ⟨y32_, 0, none⟩ = some (.int .i64 z4_) := (blk_cell y38_.out 0).trans rfl
                     have x19_ : wr.cell? ⟨y32_, 1, none⟩ = some (.int .i64 z5_) := (blk_cell y38_.out 1).trans rfl
                     have x20_ : wr.cell? ⟨y32_, 2, none⟩ = some (y80_) := (blk_cell y38_.out 2).trans rfl
                     have x21_ := blk_frozen y38_.out 0
                     have x22_ := blk_frozen y38_.out 1
                     have x23_ := blk_frozen y38_.out 2
                     obtain ⟨x24_, x25_, x26_⟩ := Kd.R_slice y82_.out
                     subst x26_
                     try go_wp2_with (first | ((with_reducible refine gate_builtin (b := .append) (xs := #[.tmp 48, .tmp 50]) rfl ?_); at_builtin; refine Kd.R_append (Kd.int .i64) (w0 := w) w.heap.size rfl (.tmp 48) (.tmp 50) 24 3 (.int .i64 0) 8 rfl Try.underlying24 info3 rfl (by decide) (by omega) (.slice x24_ y79_.length x25_) y79_ a1 [.int .i64 a1] (fun _ => True) (fun _ => False) rfl rfl ?aP (fun _ hk => hk.elim) ?aF ?aO ?aB ?aS ?aL ?_; (case aP => exact rfl); (case aB => exact (by repeat (first | (with_reducible first | exact HB.out | apply below_alloc | apply pw_below_drewN | apply below_drew1 | refine below_set ?_ y9_.out | refine below_set ?_ y17_.out | refine below_set ?_ y40_.out) | exact HB.out))); (case aF => exact (fun _ _ => trivial)); (case aO => exact (by (with_reducible repeat (first | apply Kd.R_alloc | apply Kd.R_drewN | apply Kd.R_drew)); exact y82_.out)); (case aS => exact (below_size (by repeat (first | (with_reducible first | exact HB.out | apply below_alloc | apply pw_below_drewN | apply below_drew1 | refine below_set ?_ y9_.out | refine below_set ?_ y17_.out | refine below_set ?_ y40_.out) | exact HB.out)))); (case aL => have := y91_.out; omega); intro x27_ x28_ ho hb hg hat; rw [← y94_.out] at ho; have y3_ := Aside0.mk (blk_grown (g := y1_) (o := .cells #[.int .i64 a0_0, .int .i64 a0_1, .slice (some x13_) l0_2.length c0_2] 34 (0, 0)) (by (with_reducible repeat (first | refine blk_drewN ?_ _ | refine blk_drew ?_ | refine blk_alloc ?_ _)); exact y7_.out) hg (Kd.R_ne y82_.out y7_.out (by decide))); have y4_ := Aside0.mk (blk_grown (g := y10_) (o := .cells #[.int .i64 0, .int .i64 0, .slice none 0 0] 34 (0, 0)) (by (with_reducible repeat (first | refine blk_drewN ?_ _ | refine blk_drew ?_ | refine blk_alloc ?_ _)); exact y15_.out) hg (Kd.R_ne y82_.out y15_.out (by decide))); have y5_ := Aside0.mk (blk_grown (g := y32_) (o := .cells #[.int .i64 z4_, .int .i64 z5_, .slice x24_ y79_.length x25_] 34 (0, 0)) (by (with_reducible repeat (first | refine blk_drewN ?_ _ | refine blk_drew ?_ | refine blk_alloc ?_ _)); exact y38_.out) hg (Kd.R_ne y82_.out y38_.out (by decide))); have y6_ := Aside0.mk (hb); have y12_ := Aside0.mk (ho); clear y7_; clear y15_; clear y38_; clear HB; clear y82_; have y7_ := y3_; have y15_ := y4_; have y38_ := y5_; have HB := y6_; have x29_ := y12_; clear y3_ y4_ y5_ y6_ y12_; clear ho hb hg hat; obtain ⟨x30_, x31_, x32_⟩ := Kd.R_slice x29_.out; subst x32_; have x33_ : x28_.cell? ⟨y32_, 0, none⟩ = some (.int .i64 z4_) := (blk_cell y38_.out 0).trans rfl; have x34_ : x28_.cell? ⟨y32_, 1, none⟩ = some (.int .i64 z5_) := (blk_cell y38_.out 1).trans rfl; have x35_ : x28_.cell? ⟨y32_, 2, none⟩ = some (.slice x24_ y79_.length x25_) := (blk_cell y38_.out 2).trans rfl; have x36_ := blk_frozen y38_.out 0; have x37_ := blk_frozen y38_.out 1; have x38_ := blk_frozen y38_.out 2))
                     have y3_ : Aside0 (Kd.R (Kd.int .i64) 3 (x28_.setCell ⟨y32_, 2, none⟩ (.slice x30_ y92_.length x31_)) w.heap.size (fun _ => True) (.slice x30_ y92_.length x31_) y92_) := ⟨by (with_reducible repeat (first | apply Kd.R_alloc | apply Kd.R_drewN | apply Kd.R_drew)); exact Kd.R_mono (Kd.R_far (p := ⟨y32_, 2, none⟩) (Kd.R_types x29_.out y38_.out (by decide)) (fun _ hk => hk.2) (.slice x30_ y92_.length x31_)) (fun _ hk => trivial)⟩
                     have y4_ : Aside0 ((x28_.setCell ⟨y32_, 2, none⟩ (.slice x30_ y92_.length x31_)).heap[y1_]? = some (.cells #[.int .i64 a0_0, .int .i64 a0_1, .slice (some x13_) l0_2.length c0_2] 34 (0, 0))) := ⟨by (with_reducible repeat (first | refine blk_drewN ?_ _ | refine blk_drew ?_ | refine blk_alloc ?_ _)); refine blk_far ?_ y41_.out _; (with_reducible repeat (first | refine blk_drewN ?_ _ | refine blk_drew ?_ | refine blk_alloc ?_ _)); exact y7_.out⟩
                     have y5_ : Aside0 ((x28_.setCell ⟨y32_, 2, none⟩ (.slice x30_ y92_.length x31_)).heap[y10_]? = some (.cells #[.int .i64 0, .int .i64 0, .slice none 0 0] 34 (0, 0))) := ⟨by (with_reducible repeat (first | refine blk_drewN ?_ _ | refine blk_drew ?_ | refine blk_alloc ?_ _)); refine blk_far ?_ y43_.out _; (with_reducible repeat (first | refine blk_drewN ?_ _ | refine blk_drew ?_ | refine blk_alloc ?_ _)); exact y15_.out⟩
                     have y6_ : Aside0 ((x28_.setCell ⟨y32_, 2, none⟩ (.slice x30_ y92_.length x31_)).heap[y32_]? = some (.cells #[.int .i64 z4_, .int .i64 z5_, .slice x30_ y92_.length x31_] 34 (0, 0))) := ⟨by (with_reducible repeat (first | refine blk_drewN ?_ _ | refine blk_drew ?_ | refine blk_alloc ?_ _)); refine blk_put (cs := #[.int .i64 z4_, .int .i64 z5_, .slice x24_ y79_.length x25_]) ?_ 2 _ rfl; (with_reducible repeat (first | refine blk_drewN ?_ _ | refine blk_drew ?_ | refine blk_alloc ?_ _)); exact y38_.out⟩
                     have y12_ : Aside0 (Below w.heap.size w (x28_.setCell ⟨y32_, 2, none⟩ (.slice x30_ y92_.length x31_))) := ⟨by repeat (first | (with_reducible first | exact HB.out | apply below_alloc | apply pw_below_drewN | apply below_drew1 | refine below_set ?_ y9_.out | refine below_set ?_ y17_.out | refine below_set ?_ y40_.out) | exact HB.out)⟩
                     (try clear x29_)
                     (try clear y7_)
                     (try clear y15_)
                     (try clear y38_)
                     (try clear HB)
                     generalize (x28_.setCell ⟨y32_, 2, none⟩ (.slice x30_ y92_.length x31_)) = x39_ at y3_ y4_ y5_ y6_ y12_ ⊢
                     have x29_ := y3_
                     have y7_ := y4_
                     have y15_ := y5_
                     have y38_ := y6_
                     have HB := y12_
                     clear y3_ y4_ y5_ y6_ y12_
                     have y3_ := Aside0.mk (Kd.R_drew x29_.out)
                     have y4_ := Aside0.mk (blk_drew y7_.out)
                     have y5_ := Aside0.mk (blk_drew y15_.out)
                     have y6_ := Aside0.mk (blk_drew y38_.out)
                     have y12_ := Aside0.mk (below_drew1 HB.out)
                     clear x29_
                     clear y7_
                     clear y15_
                     clear y38_
                     clear HB
                     have x29_ := y3_
                     have y7_ := y4_
                     have y15_ := y5_
                     have y38_ := y6_
                     have HB := y12_
                     clear y3_ y4_ y5_ y6_ y12_
                     obtain ⟨x40_, x41_, _, x42_, _⟩ := info_parts info3
                     obtain ⟨x43_, x44_, x45_, x46_⟩ := print_drop_of (P := Try.prog) (Value.int .i64) 0 24 3 .i64 Try.underlying24 x41_ x42_ (some x13_) c0_2 l0_2 (y79_.length : Int) (of_decide_eq_true (by first | (with_reducible assumption) | assumption)) (of_decide_eq_true (by first | (with_reducible assumption) | assumption)) z3_.out
                     have x47_ := Aside0.mk (Kd.C_of_reads (h1 := fun _ => rfl) (x45_ _ (Kd.reads_of_C z2_.out)))
                     have x48_ := Aside0.mk x46_
                     clear x45_ x46_ x41_ x42_
                     refine start_ (n := 9) (S := fun w' => w'.cell? ⟨y32_, 0, none⟩ = some (.int .i64 z4_) ∧ w'.cell? ⟨y32_, 1, none⟩ = some (.int .i64 z5_) ∧ w'.cell? ⟨y32_, 2, none⟩ = some (.slice x30_ y92_.length x31_) ∧ w'.cell? ⟨y1_, 0, none⟩ = some (.int .i64 a0_0) ∧ w'.cell? ⟨y1_, 1, none⟩ = some (.int .i64 a0_1) ∧ w'.cell? ⟨y1_, 2, none⟩ = some (.slice (some x13_) l0_2.length c0_2)) (ds := [8]) #[false, false, false, false, false, false, false, false, false] (by kernel_rfl) rfl rfl ⟨(blk_cell y38_.out 0).trans rfl, (blk_cell y38_.out 1).trans rfl, (blk_cell y38_.out 2).trans rfl, (blk_cell y7_.out 0).trans rfl, (blk_cell y7_.out 1).trans rfl, (blk_cell y7_.out 2).trans rfl⟩ (fun hHeld => ?_); refine with_tabW spec_WithBroken.tab11 spec_WithBroken.bits11 (fun HT_ HW_ => ?_)
                     generalize x39_.drew = x49_ at x29_ y7_ y15_ y38_ HB x47_ hHeld ⊢
                     refine pure_ (i := 0) (N := some 53) (v := ?_) (a' := ?_) #[true, false, false, false, false, false, false, false, false] rfl rfl (any_of HT_.out (by kernel_rfl)) (fun _ _ _ h => h) (Or.inl ⟨by rfl, ?_⟩) ?_ ?_
                     rotate_left
                     · intro w'
                       go_simp
                       with_reducible rfl
                     rotate_left
                     · simp only [Act.put, List.setIfInBounds_toArray, List.set_cons_zero, List.set_cons_succ, i64_w, i32_w]
                       rfl
                     refine pure_ (i := 2) (N := some 55) (v := ?_) (a' := ?_) #[true, false, true, false, false, false, false, false, false] rfl rfl (any_of HT_.out (by kernel_rfl)) (fun _ _ _ h => h) (Or.inl ⟨by rfl, ?_⟩) ?_ ?_
                     rotate_left
                     · intro w'
                       go_simp
                       with_reducible rfl
                     rotate_left
                     · simp only [Act.put, List.setIfInBounds_toArray, List.set_cons_zero, List.set_cons_succ, i64_w, i32_w]
                       rfl
                     refine pure_ (i := 4) (N := some 57) (v := ?_) (a' := ?_) #[true, false, true, false, true, false, false, false, false] rfl rfl (any_of HT_.out (by kernel_rfl)) (fun _ _ _ h => h) (Or.inl ⟨by rfl, ?_⟩) ?_ ?_
                     rotate_left
                     · intro w'
                       go_simp
                       with_reducible rfl
                     rotate_left
                     · simp only [Act.put, List.setIfInBounds_toArray, List.set_cons_zero, List.set_cons_succ, i64_w, i32_w]
                       rfl
                     refine take_ (i := 1) (N := some 54) (v := ?_) (a' := ?_) #[true, true, true, false, true, false, false, false, false] rfl rfl (take_ofW HT_.out HW_.out (by kernel_rfl)) (fun _ _ _ h => h) (Or.inl ⟨by rfl, ?_⟩) hHeld ?_ ?_
                     rotate_left
                     · rintro w' ⟨x50_, x51_, x52_, x53_, x54_, x55_⟩
                       go_simp
                       with_reducible rfl
                     rotate_left
                     · simp only [Act.put, List.setIfInBounds_toArray, List.set_cons_zero, List.set_cons_succ, i64_w, i32_w]
                       rfl
                     refine take_ (i := 3) (N := some 56) (v := ?_) (a' := ?_) #[true, true, true, true, true, false, false, false, false] rfl rfl (take_ofW HT_.out HW_.out (by kernel_rfl)) (fun _ _ _ h => h) (Or.inl ⟨by rfl, ?_⟩) hHeld ?_ ?_
                     rotate_left
                     · rintro w' ⟨x50_, x51_, x52_, x53_, x54_, x55_⟩
                       go_simp
                       with_reducible rfl
                     rotate_left
                     · simp only [Act.put, List.setIfInBounds_toArray, List.set_cons_zero, List.set_cons_succ, i64_w, i32_w]
                       rfl
                     refine pure_ (i := 5) (N := some 58) (v := ?_) (a' := ?_) #[true, true, true, true, true, true, false, false, false] rfl rfl (any_of HT_.out (by kernel_rfl)) (fun _ _ _ h => h) (Or.inl ⟨by rfl, ?_⟩) ?_ ?_
                     rotate_left
                     · intro w'
                       go_simp
                       with_reducible rfl
                     rotate_left
                     · simp only [Act.put, List.setIfInBounds_toArray, List.set_cons_zero, List.set_cons_succ, i64_w, i32_w]
                       rfl
                     refine one_ (i := 6) (N := some 59) #[true, true, true, true, true, true, true, false, false] rfl rfl (one_of HT_.out (by kernel_rfl)) (by decide) (fun K hK => ?_)
                     refine Kd.R_append_rows_step (Kd.int .i64) (w0 := w) w.heap.size (by rfl) (.tmp 54) (.tmp 58) 24 3 (.int .i64 0) 8 rfl Try.underlying24 info3 rfl (by decide) (by omega) (.slice x30_ y92_.length x31_) y92_ (l0_2.drop ((y79_.length : Int) : Int).toNat) _ _ _ (fun _ => True) (fun _ => False) rfl rfl ?aO ?aR (fun _ _ h => h) (fun _ h => h.elim) ?aF ?aB ?aS ?aL ?_
                     (case aR => first | ((first | rw [← show (l0_2.drop ((y79_.length : Int) : Int).toNat).length = (l0_2.length - (y79_.length : Int).toNat) from List.length_drop] | rw [← show (l0_2.drop ((y79_.length : Int) : Int).toNat).length = (l0_2.length - y79_.length) from (by simp)]); repeat (first | exact (Kd.C_below x47_.out HB.out) | (with_reducible refine Kd.C_alloc ?_ _) | (with_reducible refine Kd.C_drewN ?_ _) | (with_reducible refine Kd.C_drew ?_))) | (repeat (first | exact (Kd.C_below x47_.out HB.out) | (with_reducible refine Kd.C_alloc ?_ _) | (with_reducible refine Kd.C_drewN ?_ _) | (with_reducible refine Kd.C_drew ?_))))
                     (case aB => exact (by repeat (first | (with_reducible first | exact HB.out | apply below_alloc | apply pw_below_drewN | apply below_drew1 | refine below_set ?_ y9_.out | refine below_set ?_ y17_.out | refine below_set ?_ y40_.out) | exact HB.out)))
                     (case aF => exact (fun _ _ => trivial))
                     (case aO => exact (by (with_reducible repeat (first | apply Kd.R_alloc | apply Kd.R_drewN | apply Kd.R_drew)); exact x29_.out))
                     (case aS => exact (below_size (by repeat (first | (with_reducible first | exact HB.out | apply below_alloc | apply pw_below_drewN | apply below_drew1 | refine below_set ?_ y9_.out | refine below_set ?_ y17_.out | refine below_set ?_ y40_.out) | exact HB.out))))
                     (case aL => have := y102_.out; have hlx_ := (show (l0_2.drop ((y79_.length : Int) : Int).toNat).length = (l0_2.length - (y79_.length : Int).toNat) from List.length_drop); omega)
                     intro x56_ x57_ ho hb hg hat
                     rw [← y105_.out] at ho
                     have y3_ := Aside0.mk (blk_grown (g := y1_) (o := .cells #[.int .i64 a0_0, .int .i64 a0_1, .slice (some x13_) l0_2.length c0_2] 34 (0, 0)) (by (with_reducible repeat (first | refine blk_drewN ?_ _ | refine blk_drew ?_ | refine blk_alloc ?_ _)); exact y7_.out) hg (Kd.R_ne x29_.out y7_.out (by decide)))
                     have y4_ := Aside0.mk (blk_grown (g := y10_) (o := .cells #[.int .i64 0, .int .i64 0, .slice none 0 0] 34 (0, 0)) (by (with_reducible repeat (first | refine blk_drewN ?_ _ | refine blk_drew ?_ | refine blk_alloc ?_ _)); exact y15_.out) hg (Kd.R_ne x29_.out y15_.out (by decide)))
                     have y5_ := Aside0.mk (blk_grown (g := y32_) (o := .cells #[.int .i64 z4_, .int .i64 z5_, .slice x30_ y92_.length x31_] 34 (0, 0)) (by (with_reducible repeat (first | refine blk_drewN ?_ _ | refine blk_drew ?_ | refine blk_alloc ?_ _)); exact y38_.out) hg (Kd.R_ne x29_.out y38_.out (by decide)))
                     have y6_ := Aside0.mk (hb)
                     have y12_ := Aside0.mk (ho)
                     clear y7_
                     clear y15_
                     clear y38_
                     clear HB
                     clear x29_
                     have y7_ := y3_
                     have y15_ := y4_
                     have y38_ := y5_
                     have HB := y6_
                     have x58_ := y12_
                     clear y3_ y4_ y5_ y6_ y12_
                     clear ho hb hg hat
                     obtain ⟨x59_, x60_, x61_⟩ := Kd.R_slice x58_.out
                     (first | subst x61_ | (injection x61_ with f1_ f2_ f3_; have x62_ := f1_.symm; have x63_ := f3_.symm; clear f1_ f2_ f3_; subst x62_; subst x63_))
                     refine hK.out _ _ ⟨(blk_cell y38_.out 0).trans rfl, (blk_cell y38_.out 1).trans rfl, (blk_cell y38_.out 2).trans rfl, (blk_cell y7_.out 0).trans rfl, (blk_cell y7_.out 1).trans rfl, (blk_cell y7_.out 2).trans rfl⟩ (fun hHeld => ?_)
                     clear hK K
                     refine norm_ (a' := ?_) ?_ ?_
                     rotate_left
                     · show Act.put _ (some 59) _ = _
                       simp only [Act.put, List.setIfInBounds_toArray, List.set_cons_zero, List.set_cons_succ, i64_w, i32_w]
                       rfl
                     refine pure_ (i := 7) (N := some 60) (v := ?_) (a' := ?_) #[true, true, true, true, true, true, true, true, false] rfl rfl (any_of HT_.out (by kernel_rfl)) (fun _ _ _ h => h) (Or.inl ⟨by rfl, ?_⟩) ?_ ?_
                     rotate_left
                     · intro w'
                       go_simp
                       with_reducible rfl
                     rotate_left
                     · simp only [Act.put, List.setIfInBounds_toArray, List.set_cons_zero, List.set_cons_succ, i64_w, i32_w]
                       rfl
                     refine last_ (i := 8) (N := none) #[true, true, true, true, true, true, true, true, true] rfl rfl (one_of HT_.out (by kernel_rfl)) (by decide) (fun K hK => ?_)
                     have x64_ : x57_.cell? ⟨y32_, 2, none⟩ = some (.slice x30_ y92_.length x31_) := (blk_cell y38_.out 2).trans rfl
                     have x65_ := blk_frozen y38_.out 2
                     have x66_ := y41_.out
                     have x67_ := y43_.out
                     have x68_ := y42_.out
                     have x69_ := y44_.out
                     refine skip_ (w1 := ?_) (by rfl) rfl ?_ ?_
                     rotate_left
                     · go_simp
                       rfl
                     refine hK.out _ _ ?_
                     clear hK K
                     refine done_ (done_of HT_.out (by kernel_rfl)) ?_
                     have x70_ : x57_.cell? ⟨y32_, 0, none⟩ = some (.int .i64 z4_) := (blk_cell y38_.out 0).trans rfl
                     have x71_ : x57_.cell? ⟨y32_, 1, none⟩ = some (.int .i64 z5_) := (blk_cell y38_.out 1).trans rfl
                     have x72_ : x57_.cell? ⟨y32_, 2, none⟩ = some (.slice x30_ y92_.length x31_) := (blk_cell y38_.out 2).trans rfl
                     have x73_ := blk_frozen y38_.out 0
                     have x74_ := blk_frozen y38_.out 1
                     have x75_ := blk_frozen y38_.out 2
                     have x76_ : x57_.cell? ⟨y10_, 0, none⟩ = some (.int .i64 0) := (blk_cell y15_.out 0).trans rfl
                     have x77_ : x57_.cell? ⟨y10_, 1, none⟩ = some (.int .i64 0) := (blk_cell y15_.out 1).trans rfl
                     have x78_ : x57_.cell? ⟨y10_, 2, none⟩ = some (.slice none 0 0) := (blk_cell y15_.out 2).trans rfl
                     have x79_ := blk_frozen y15_.out 0
                     have x80_ := blk_frozen y15_.out 1
                     have x81_ := blk_frozen y15_.out 2
                     try go_wp2
                     refine bodyPost_ret (results_ct rfl _ _ y10_ 34 #[.int .i64 z4_, .int .i64 z5_, .slice x59_ y103_.length x60_] (0, 0) _ rfl (by (with_reducible repeat (first | refine blk_drewN ?_ _ | refine blk_drew ?_ | refine blk_alloc ?_ _)); refine blk_put (cs := #[.int .i64 z4_, .int .i64 z5_, .slice none 0 0]) ?_ 2 _ rfl; (with_reducible repeat (first | refine blk_drewN ?_ _ | refine blk_drew ?_ | refine blk_alloc ?_ _)); refine blk_put (cs := #[.int .i64 z4_, .int .i64 0, .slice none 0 0]) ?_ 1 _ rfl; (with_reducible repeat (first | refine blk_drewN ?_ _ | refine blk_drew ?_ | refine blk_alloc ?_ _)); refine blk_put (cs := #[.int .i64 0, .int .i64 0, .slice none 0 0]) ?_ 0 _ rfl; (with_reducible repeat (first | refine blk_drewN ?_ _ | refine blk_drew ?_ | refine blk_alloc ?_ _)); refine blk_far ?_ y43_.out _; (with_reducible repeat (first | refine blk_drewN ?_ _ | refine blk_drew ?_ | refine blk_alloc ?_ _)); exact y15_.out) Try.underlying34 rfl (by kernel_rfl)) rfl ?_
                     exact ⟨_, by first | rfl | (simp [errW_none, errW_some] <;> rfl) | (simp [*, errW_none, errW_some] <;> rfl), by (with_reducible repeat (first | apply Kd.R_alloc | apply Kd.R_drewN | apply Kd.R_drew)); exact Kd.R_mono (Kd.R_far (p := ⟨y10_, 2, none⟩) (Kd.R_far (p := ⟨y10_, 1, none⟩) (Kd.R_far (p := ⟨y10_, 0, none⟩) (Kd.R_far (p := ⟨y32_, 2, none⟩) (Kd.R_types (Kd.R_types x58_.out y38_.out (by decide)) y15_.out (by decide)) (fun _ hk => hk.1.2) (.slice x59_ y103_.length x60_)) (fun _ hk => hk.2) (.int .i64 z4_)) (fun _ hk => hk.2) (.int .i64 z5_)) (fun _ hk => hk.2) (.slice x59_ y103_.length x60_)) (fun _ hk => trivial), by repeat (first | (with_reducible first | exact HB.out | apply below_alloc | apply pw_below_drewN | apply below_drew1 | refine below_set ?_ y9_.out | refine below_set ?_ y17_.out | refine below_set ?_ y40_.out) | exact HB.out)⟩
                   · rw [if_neg y101_] at H
                     exact absurd H (by simp)
                 · rw [if_neg y98_] at H
                   exact absurd H (by simp)
               · rw [if_neg y95_] at H
                 exact absurd H (by simp)
             · rw [if_neg y90_] at H
               exact absurd H (by simp)
         · rw [if_neg y86_] at H
           exact absurd H (by simp)
       · rw [if_neg y84_] at H
         have y85_ : decide (y78_ < (l0_2.length : Int)) = false := decide_eq_false y84_
         clear y84_
         by_cases y86_ : y79_.length < 17592186044416
         · rw [if_pos y86_] at H
           have y87_ := Aside0.mk y86_
           clear y86_
           obtain ⟨y88_, y89_⟩ : ∃ y_ : List Int, y_ = (y79_ ++ [a1]) := ⟨_, rfl⟩
           replace H : (if 0 ≤ (y79_.length : Int) then (if (y79_.length : Int) ≤ (l0_2.length : Int) then (if y88_.length + (l0_2.drop ((y79_.length : Int) : Int).toNat).length < 17592186044416 then (some (z4_, z5_, (y88_ ++ (l0_2.drop ((y79_.length : Int) : Int).toNat)), true)) else (none)) else (none)) else (none)) = some (r1, r2, r3, r4) := by first | (rw [y89_]; with_reducible exact H) | (have z16_ := (Option.bind_some _ _).symm.trans H; rw [y89_]; with_reducible exact z16_) | (have z16_ := (Option.bind_some _ _).symm.trans H; with_reducible exact z16_) | with_reducible exact H | (rw [y89_]; exact H) | exact H
           have y90_ := Aside0.mk y89_
           clear y89_
           by_cases y91_ : 0 ≤ (y79_.length : Int)
           · rw [if_pos y91_] at H
             have y92_ := eq_true y91_
             have y93_ : decide (0 ≤ (y79_.length : Int)) = true := decide_eq_true y91_
             clear y91_
             by_cases y94_ : (y79_.length : Int) ≤ (l0_2.length : Int)
             · rw [if_pos y94_] at H
               have y95_ := eq_true y94_
               have y96_ : decide ((y79_.length : Int) ≤ (l0_2.length : Int)) = true := decide_eq_true y94_
               clear y94_
               by_cases y97_ : y88_.length + (l0_2.drop ((y79_.length : Int) : Int).toNat).length < 17592186044416
               · rw [if_pos y97_] at H
                 have y98_ := Aside0.mk y97_
                 clear y97_
                 obtain ⟨y99_, y100_⟩ : ∃ y_ : List Int, y_ = (y88_ ++ (l0_2.drop ((y79_.length : Int) : Int).toNat)) := ⟨_, rfl⟩
                 replace H : (some (z4_, z5_, y99_, true)) = some (r1, r2, r3, r4) := by first | (rw [y100_]; with_reducible exact H) | (have z16_ := (Option.bind_some _ _).symm.trans H; rw [y100_]; with_reducible exact z16_) | (have z16_ := (Option.bind_some _ _).symm.trans H; with_reducible exact z16_) | with_reducible exact H | (rw [y100_]; exact H) | exact H
                 have y101_ := Aside0.mk y100_
                 clear y100_
                 simp only [Option.some.injEq, Prod.mk.injEq] at H
                 obtain ⟨rfl, rfl, rfl, rfl⟩ := H
                 have x1_ := y18_.out
                 have x2_ := y19_.out
                 have x3_ := y41_.out
                 have x4_ := y42_.out
                 have x5_ : wr.cell? ⟨y1_, 0, none⟩ = some (.int .i64 a0_0) := (blk_cell y7_.out 0).trans rfl
                 have x6_ : wr.cell? ⟨y1_, 1, none⟩ = some (.int .i64 a0_1) := (blk_cell y7_.out 1).trans rfl
                 have x7_ : wr.cell? ⟨y1_, 2, none⟩ = some (.slice A0_2 l0_2.length c0_2) := (blk_cell y7_.out 2).trans rfl
                 have x8_ := blk_frozen y7_.out 0
                 have x9_ := blk_frozen y7_.out 1
                 have x10_ := blk_frozen y7_.out 2
                 have x11_ := y44_.out
                 have x12_ := y43_.out
                 have x13_ : wr.cell? ⟨y32_, 0, none⟩ = some (.int .i64 z4_) := (blk_cell y38_.out 0).trans rfl
                 have x14_ : wr.cell? ⟨y32_, 1, none⟩ = some (.int .i64 z5_) := (blk_cell y38_.out 1).trans rfl
                 have x15_ : wr.cell? ⟨y32_, 2, none⟩ = some (y80_) := (blk_cell y38_.out 2).trans rfl
                 have x16_ := blk_frozen y38_.out 0
                 have x17_ := blk_frozen y38_.out 1
                 have x18_ := blk_frozen y38_.out 2
                 obtain ⟨x19_, x20_, x21_⟩ := Kd.R_slice y82_.out
                 subst x21_
                 try go_wp2_with (first | ((with_reducible refine gate_builtin (b := .append) (xs := #[.tmp 48, .tmp 50]) rfl ?_); at_builtin; refine Kd.R_append (Kd.int .i64) (w0 := w) w.heap.size rfl (.tmp 48) (.tmp 50) 24 3 (.int .i64 0) 8 rfl Try.underlying24 info3 rfl (by decide) (by omega) (.slice x19_ y79_.length x20_) y79_ a1 [.int .i64 a1] (fun _ => True) (fun _ => False) rfl rfl ?aP (fun _ hk => hk.elim) ?aF ?aO ?aB ?aS ?aL ?_; (case aP => exact rfl); (case aB => exact (by repeat (first | (with_reducible first | exact HB.out | apply below_alloc | apply pw_below_drewN | apply below_drew1 | refine below_set ?_ y9_.out | refine below_set ?_ y17_.out | refine below_set ?_ y40_.out) | exact HB.out))); (case aF => exact (fun _ _ => trivial)); (case aO => exact (by (with_reducible repeat (first | apply Kd.R_alloc | apply Kd.R_drewN | apply Kd.R_drew)); exact y82_.out)); (case aS => exact (below_size (by repeat (first | (with_reducible first | exact HB.out | apply below_alloc | apply pw_below_drewN | apply below_drew1 | refine below_set ?_ y9_.out | refine below_set ?_ y17_.out | refine below_set ?_ y40_.out) | exact HB.out)))); (case aL => have := y87_.out; omega); intro x22_ x23_ ho hb hg hat; rw [← y90_.out] at ho; have y3_ := Aside0.mk (blk_grown (g := y1_) (o := .cells #[.int .i64 a0_0, .int .i64 a0_1, .slice A0_2 l0_2.length c0_2] 34 (0, 0)) (by (with_reducible repeat (first | refine blk_drewN ?_ _ | refine blk_drew ?_ | refine blk_alloc ?_ _)); exact y7_.out) hg (Kd.R_ne y82_.out y7_.out (by decide))); have y4_ := Aside0.mk (blk_grown (g := y10_) (o := .cells #[.int .i64 0, .int .i64 0, .slice none 0 0] 34 (0, 0)) (by (with_reducible repeat (first | refine blk_drewN ?_ _ | refine blk_drew ?_ | refine blk_alloc ?_ _)); exact y15_.out) hg (Kd.R_ne y82_.out y15_.out (by decide))); have y5_ := Aside0.mk (blk_grown (g := y32_) (o := .cells #[.int .i64 z4_, .int .i64 z5_, .slice x19_ y79_.length x20_] 34 (0, 0)) (by (with_reducible repeat (first | refine blk_drewN ?_ _ | refine blk_drew ?_ | refine blk_alloc ?_ _)); exact y38_.out) hg (Kd.R_ne y82_.out y38_.out (by decide))); have y6_ := Aside0.mk (hb); have y12_ := Aside0.mk (ho); clear y7_; clear y15_; clear y38_; clear HB; clear y82_; have y7_ := y3_; have y15_ := y4_; have y38_ := y5_; have HB := y6_; have x24_ := y12_; clear y3_ y4_ y5_ y6_ y12_; clear ho hb hg hat; obtain ⟨x25_, x26_, x27_⟩ := Kd.R_slice x24_.out; subst x27_; have x28_ : x23_.cell? ⟨y32_, 0, none⟩ = some (.int .i64 z4_) := (blk_cell y38_.out 0).trans rfl; have x29_ : x23_.cell? ⟨y32_, 1, none⟩ = some (.int .i64 z5_) := (blk_cell y38_.out 1).trans rfl; have x30_ : x23_.cell? ⟨y32_, 2, none⟩ = some (.slice x19_ y79_.length x20_) := (blk_cell y38_.out 2).trans rfl; have x31_ := blk_frozen y38_.out 0; have x32_ := blk_frozen y38_.out 1; have x33_ := blk_frozen y38_.out 2))
                 have y3_ : Aside0 (Kd.R (Kd.int .i64) 3 (x23_.setCell ⟨y32_, 2, none⟩ (.slice x25_ y88_.length x26_)) w.heap.size (fun _ => True) (.slice x25_ y88_.length x26_) y88_) := ⟨by (with_reducible repeat (first | apply Kd.R_alloc | apply Kd.R_drewN | apply Kd.R_drew)); exact Kd.R_mono (Kd.R_far (p := ⟨y32_, 2, none⟩) (Kd.R_types x24_.out y38_.out (by decide)) (fun _ hk => hk.2) (.slice x25_ y88_.length x26_)) (fun _ hk => trivial)⟩
                 have y4_ : Aside0 ((x23_.setCell ⟨y32_, 2, none⟩ (.slice x25_ y88_.length x26_)).heap[y1_]? = some (.cells #[.int .i64 a0_0, .int .i64 a0_1, .slice A0_2 l0_2.length c0_2] 34 (0, 0))) := ⟨by (with_reducible repeat (first | refine blk_drewN ?_ _ | refine blk_drew ?_ | refine blk_alloc ?_ _)); refine blk_far ?_ y41_.out _; (with_reducible repeat (first | refine blk_drewN ?_ _ | refine blk_drew ?_ | refine blk_alloc ?_ _)); exact y7_.out⟩
                 have y5_ : Aside0 ((x23_.setCell ⟨y32_, 2, none⟩ (.slice x25_ y88_.length x26_)).heap[y10_]? = some (.cells #[.int .i64 0, .int .i64 0, .slice none 0 0] 34 (0, 0))) := ⟨by (with_reducible repeat (first | refine blk_drewN ?_ _ | refine blk_drew ?_ | refine blk_alloc ?_ _)); refine blk_far ?_ y43_.out _; (with_reducible repeat (first | refine blk_drewN ?_ _ | refine blk_drew ?_ | refine blk_alloc ?_ _)); exact y15_.out⟩
                 have y6_ : Aside0 ((x23_.setCell ⟨y32_, 2, none⟩ (.slice x25_ y88_.length x26_)).heap[y32_]? = some (.cells #[.int .i64 z4_, .int .i64 z5_, .slice x25_ y88_.length x26_] 34 (0, 0))) := ⟨by (with_reducible repeat (first | refine blk_drewN ?_ _ | refine blk_drew ?_ | refine blk_alloc ?_ _)); refine blk_put (cs := #[.int .i64 z4_, .int .i64 z5_, .slice x19_ y79_.length x20_]) ?_ 2 _ rfl; (with_reducible repeat (first | refine blk_drewN ?_ _ | refine blk_drew ?_ | refine blk_alloc ?_ _)); exact y38_.out⟩
                 have y12_ : Aside0 (Below w.heap.size w (x23_.setCell ⟨y32_, 2, none⟩ (.slice x25_ y88_.length x26_))) := ⟨by repeat (first | (with_reducible first | exact HB.out | apply below_alloc | apply pw_below_drewN | apply below_drew1 | refine below_set ?_ y9_.out | refine below_set ?_ y17_.out | refine below_set ?_ y40_.out) | exact HB.out)⟩
                 (try clear x24_)
                 (try clear y7_)
                 (try clear y15_)
                 (try clear y38_)
                 (try clear HB)
                 generalize (x23_.setCell ⟨y32_, 2, none⟩ (.slice x25_ y88_.length x26_)) = x34_ at y3_ y4_ y5_ y6_ y12_ ⊢
                 have x24_ := y3_
                 have y7_ := y4_
                 have y15_ := y5_
                 have y38_ := y6_
                 have HB := y12_
                 clear y3_ y4_ y5_ y6_ y12_
                 have y3_ := Aside0.mk (Kd.R_drew x24_.out)
                 have y4_ := Aside0.mk (blk_drew y7_.out)
                 have y5_ := Aside0.mk (blk_drew y15_.out)
                 have y6_ := Aside0.mk (blk_drew y38_.out)
                 have y12_ := Aside0.mk (below_drew1 HB.out)
                 clear x24_
                 clear y7_
                 clear y15_
                 clear y38_
                 clear HB
                 have x24_ := y3_
                 have y7_ := y4_
                 have y15_ := y5_
                 have y38_ := y6_
                 have HB := y12_
                 clear y3_ y4_ y5_ y6_ y12_
                 obtain ⟨x35_, x36_, _, x37_, _⟩ := info_parts info3
                 obtain ⟨x38_, x39_, x40_, x41_⟩ := print_drop_of (P := Try.prog) (Value.int .i64) 0 24 3 .i64 Try.underlying24 x36_ x37_ A0_2 c0_2 l0_2 (y79_.length : Int) (of_decide_eq_true (by first | (with_reducible assumption) | assumption)) (of_decide_eq_true (by first | (with_reducible assumption) | assumption)) z3_.out
                 have x42_ := Aside0.mk (Kd.C_of_reads (h1 := fun _ => rfl) (x40_ _ (Kd.reads_of_C z2_.out)))
                 have x43_ := Aside0.mk x41_
                 clear x40_ x41_ x36_ x37_
                 refine start_ (n := 9) (S := fun w' => w'.cell? ⟨y32_, 0, none⟩ = some (.int .i64 z4_) ∧ w'.cell? ⟨y32_, 1, none⟩ = some (.int .i64 z5_) ∧ w'.cell? ⟨y32_, 2, none⟩ = some (.slice x25_ y88_.length x26_) ∧ w'.cell? ⟨y1_, 0, none⟩ = some (.int .i64 a0_0) ∧ w'.cell? ⟨y1_, 1, none⟩ = some (.int .i64 a0_1) ∧ w'.cell? ⟨y1_, 2, none⟩ = some (.slice A0_2 l0_2.length c0_2)) (ds := [8]) #[false, false, false, false, false, false, false, false, false] (by kernel_rfl) rfl rfl ⟨(blk_cell y38_.out 0).trans rfl, (blk_cell y38_.out 1).trans rfl, (blk_cell y38_.out 2).trans rfl, (blk_cell y7_.out 0).trans rfl, (blk_cell y7_.out 1).trans rfl, (blk_cell y7_.out 2).trans rfl⟩ (fun hHeld => ?_); refine with_tabW spec_WithBroken.tab11 spec_WithBroken.bits11 (fun HT_ HW_ => ?_)
                 generalize x34_.drew = x44_ at x24_ y7_ y15_ y38_ HB x42_ hHeld ⊢
                 refine pure_ (i := 0) (N := some 53) (v := ?_) (a' := ?_) #[true, false, false, false, false, false, false, false, false] rfl rfl (any_of HT_.out (by kernel_rfl)) (fun _ _ _ h => h) (Or.inl ⟨by rfl, ?_⟩) ?_ ?_
                 rotate_left
                 · intro w'
                   go_simp
                   with_reducible rfl
                 rotate_left
                 · simp only [Act.put, List.setIfInBounds_toArray, List.set_cons_zero, List.set_cons_succ, i64_w, i32_w]
                   rfl
                 refine pure_ (i := 2) (N := some 55) (v := ?_) (a' := ?_) #[true, false, true, false, false, false, false, false, false] rfl rfl (any_of HT_.out (by kernel_rfl)) (fun _ _ _ h => h) (Or.inl ⟨by rfl, ?_⟩) ?_ ?_
                 rotate_left
                 · intro w'
                   go_simp
                   with_reducible rfl
                 rotate_left
                 · simp only [Act.put, List.setIfInBounds_toArray, List.set_cons_zero, List.set_cons_succ, i64_w, i32_w]
                   rfl
                 refine pure_ (i := 4) (N := some 57) (v := ?_) (a' := ?_) #[true, false, true, false, true, false, false, false, false] rfl rfl (any_of HT_.out (by kernel_rfl)) (fun _ _ _ h => h) (Or.inl ⟨by rfl, ?_⟩) ?_ ?_
                 rotate_left
                 · intro w'
                   go_simp
                   with_reducible rfl
                 rotate_left
                 · simp only [Act.put, List.setIfInBounds_toArray, List.set_cons_zero, List.set_cons_succ, i64_w, i32_w]
                   rfl
                 refine take_ (i := 1) (N := some 54) (v := ?_) (a' := ?_) #[true, true, true, false, true, false, false, false, false] rfl rfl (take_ofW HT_.out HW_.out (by kernel_rfl)) (fun _ _ _ h => h) (Or.inl ⟨by rfl, ?_⟩) hHeld ?_ ?_
                 rotate_left
                 · rintro w' ⟨x45_, x46_, x47_, x48_, x49_, x50_⟩
                   go_simp
                   with_reducible rfl
                 rotate_left
                 · simp only [Act.put, List.setIfInBounds_toArray, List.set_cons_zero, List.set_cons_succ, i64_w, i32_w]
                   rfl
                 refine take_ (i := 3) (N := some 56) (v := ?_) (a' := ?_) #[true, true, true, true, true, false, false, false, false] rfl rfl (take_ofW HT_.out HW_.out (by kernel_rfl)) (fun _ _ _ h => h) (Or.inl ⟨by rfl, ?_⟩) hHeld ?_ ?_
                 rotate_left
                 · rintro w' ⟨x45_, x46_, x47_, x48_, x49_, x50_⟩
                   go_simp
                   with_reducible rfl
                 rotate_left
                 · simp only [Act.put, List.setIfInBounds_toArray, List.set_cons_zero, List.set_cons_succ, i64_w, i32_w]
                   rfl
                 refine pure_ (i := 5) (N := some 58) (v := ?_) (a' := ?_) #[true, true, true, true, true, true, false, false, false] rfl rfl (any_of HT_.out (by kernel_rfl)) (fun _ _ _ h => h) (Or.inl ⟨by rfl, ?_⟩) ?_ ?_
                 rotate_left
                 · intro w'
                   go_simp
                   with_reducible rfl
                 rotate_left
                 · simp only [Act.put, List.setIfInBounds_toArray, List.set_cons_zero, List.set_cons_succ, i64_w, i32_w]
                   rfl
                 refine one_ (i := 6) (N := some 59) #[true, true, true, true, true, true, true, false, false] rfl rfl (one_of HT_.out (by kernel_rfl)) (by decide) (fun K hK => ?_)
                 refine Kd.R_append_rows_step (Kd.int .i64) (w0 := w) w.heap.size (by rfl) (.tmp 54) (.tmp 58) 24 3 (.int .i64 0) 8 rfl Try.underlying24 info3 rfl (by decide) (by omega) (.slice x25_ y88_.length x26_) y88_ (l0_2.drop ((y79_.length : Int) : Int).toNat) _ _ _ (fun _ => True) (fun _ => False) rfl rfl ?aO ?aR (fun _ _ h => h) (fun _ h => h.elim) ?aF ?aB ?aS ?aL ?_
                 (case aR => first | ((first | rw [← show (l0_2.drop ((y79_.length : Int) : Int).toNat).length = (l0_2.length - (y79_.length : Int).toNat) from List.length_drop] | rw [← show (l0_2.drop ((y79_.length : Int) : Int).toNat).length = (l0_2.length - y79_.length) from (by simp)]); repeat (first | exact (Kd.C_below x42_.out HB.out) | (with_reducible refine Kd.C_alloc ?_ _) | (with_reducible refine Kd.C_drewN ?_ _) | (with_reducible refine Kd.C_drew ?_))) | (repeat (first | exact (Kd.C_below x42_.out HB.out) | (with_reducible refine Kd.C_alloc ?_ _) | (with_reducible refine Kd.C_drewN ?_ _) | (with_reducible refine Kd.C_drew ?_))))
                 (case aB => exact (by repeat (first | (with_reducible first | exact HB.out | apply below_alloc | apply pw_below_drewN | apply below_drew1 | refine below_set ?_ y9_.out | refine below_set ?_ y17_.out | refine below_set ?_ y40_.out) | exact HB.out)))
                 (case aF => exact (fun _ _ => trivial))
                 (case aO => exact (by (with_reducible repeat (first | apply Kd.R_alloc | apply Kd.R_drewN | apply Kd.R_drew)); exact x24_.out))
                 (case aS => exact (below_size (by repeat (first | (with_reducible first | exact HB.out | apply below_alloc | apply pw_below_drewN | apply below_drew1 | refine below_set ?_ y9_.out | refine below_set ?_ y17_.out | refine below_set ?_ y40_.out) | exact HB.out))))
                 (case aL => have := y98_.out; have hlx_ := (show (l0_2.drop ((y79_.length : Int) : Int).toNat).length = (l0_2.length - (y79_.length : Int).toNat) from List.length_drop); omega)
                 intro x51_ x52_ ho hb hg hat
                 rw [← y101_.out] at ho
                 have y3_ := Aside0.mk (blk_grown (g := y1_) (o := .cells #[.int .i64 a0_0, .int .i64 a0_1, .slice A0_2 l0_2.length c0_2] 34 (0, 0)) (by (with_reducible repeat (first | refine blk_drewN ?_ _ | refine blk_drew ?_ | refine blk_alloc ?_ _)); exact y7_.out) hg (Kd.R_ne x24_.out y7_.out (by decide)))
                 have y4_ := Aside0.mk (blk_grown (g := y10_) (o := .cells #[.int .i64 0, .int .i64 0, .slice none 0 0] 34 (0, 0)) (by (with_reducible repeat (first | refine blk_drewN ?_ _ | refine blk_drew ?_ | refine blk_alloc ?_ _)); exact y15_.out) hg (Kd.R_ne x24_.out y15_.out (by decide)))
                 have y5_ := Aside0.mk (blk_grown (g := y32_) (o := .cells #[.int .i64 z4_, .int .i64 z5_, .slice x25_ y88_.length x26_] 34 (0, 0)) (by (with_reducible repeat (first | refine blk_drewN ?_ _ | refine blk_drew ?_ | refine blk_alloc ?_ _)); exact y38_.out) hg (Kd.R_ne x24_.out y38_.out (by decide)))
                 have y6_ := Aside0.mk (hb)
                 have y12_ := Aside0.mk (ho)
                 clear y7_
                 clear y15_
                 clear y38_
                 clear HB
                 clear x24_
                 have y7_ := y3_
                 have y15_ := y4_
                 have y38_ := y5_
                 have HB := y6_
                 have x53_ := y12_
                 clear y3_ y4_ y5_ y6_ y12_
                 clear ho hb hg hat
                 obtain ⟨x54_, x55_, x56_⟩ := Kd.R_slice x53_.out
                 (first | subst x56_ | (injection x56_ with f1_ f2_ f3_; have x57_ := f1_.symm; have x58_ := f3_.symm; clear f1_ f2_ f3_; subst x57_; subst x58_))
                 refine hK.out _ _ ⟨(blk_cell y38_.out 0).trans rfl, (blk_cell y38_.out 1).trans rfl, (blk_cell y38_.out 2).trans rfl, (blk_cell y7_.out 0).trans rfl, (blk_cell y7_.out 1).trans rfl, (blk_cell y7_.out 2).trans rfl⟩ (fun hHeld => ?_)
                 clear hK K
                 refine norm_ (a' := ?_) ?_ ?_
                 rotate_left
                 · show Act.put _ (some 59) _ = _
                   simp only [Act.put, List.setIfInBounds_toArray, List.set_cons_zero, List.set_cons_succ, i64_w, i32_w]
                   rfl
                 refine pure_ (i := 7) (N := some 60) (v := ?_) (a' := ?_) #[true, true, true, true, true, true, true, true, false] rfl rfl (any_of HT_.out (by kernel_rfl)) (fun _ _ _ h => h) (Or.inl ⟨by rfl, ?_⟩) ?_ ?_
                 rotate_left
                 · intro w'
                   go_simp
                   with_reducible rfl
                 rotate_left
                 · simp only [Act.put, List.setIfInBounds_toArray, List.set_cons_zero, List.set_cons_succ, i64_w, i32_w]
                   rfl
                 refine last_ (i := 8) (N := none) #[true, true, true, true, true, true, true, true, true] rfl rfl (one_of HT_.out (by kernel_rfl)) (by decide) (fun K hK => ?_)
                 have x59_ : x52_.cell? ⟨y32_, 2, none⟩ = some (.slice x25_ y88_.length x26_) := (blk_cell y38_.out 2).trans rfl
                 have x60_ := blk_frozen y38_.out 2
                 have x61_ := y41_.out
                 have x62_ := y43_.out
                 have x63_ := y42_.out
                 have x64_ := y44_.out
                 refine skip_ (w1 := ?_) (by rfl) rfl ?_ ?_
                 rotate_left
                 · go_simp
                   rfl
                 refine hK.out _ _ ?_
                 clear hK K
                 refine done_ (done_of HT_.out (by kernel_rfl)) ?_
                 have x65_ : x52_.cell? ⟨y32_, 0, none⟩ = some (.int .i64 z4_) := (blk_cell y38_.out 0).trans rfl
                 have x66_ : x52_.cell? ⟨y32_, 1, none⟩ = some (.int .i64 z5_) := (blk_cell y38_.out 1).trans rfl
                 have x67_ : x52_.cell? ⟨y32_, 2, none⟩ = some (.slice x25_ y88_.length x26_) := (blk_cell y38_.out 2).trans rfl
                 have x68_ := blk_frozen y38_.out 0
                 have x69_ := blk_frozen y38_.out 1
                 have x70_ := blk_frozen y38_.out 2
                 have x71_ : x52_.cell? ⟨y10_, 0, none⟩ = some (.int .i64 0) := (blk_cell y15_.out 0).trans rfl
                 have x72_ : x52_.cell? ⟨y10_, 1, none⟩ = some (.int .i64 0) := (blk_cell y15_.out 1).trans rfl
                 have x73_ : x52_.cell? ⟨y10_, 2, none⟩ = some (.slice none 0 0) := (blk_cell y15_.out 2).trans rfl
                 have x74_ := blk_frozen y15_.out 0
                 have x75_ := blk_frozen y15_.out 1
                 have x76_ := blk_frozen y15_.out 2
                 try go_wp2
                 refine bodyPost_ret (results_ct rfl _ _ y10_ 34 #[.int .i64 z4_, .int .i64 z5_, .slice x54_ y99_.length x55_] (0, 0) _ rfl (by (with_reducible repeat (first | refine blk_drewN ?_ _ | refine blk_drew ?_ | refine blk_alloc ?_ _)); refine blk_put (cs := #[.int .i64 z4_, .int .i64 z5_, .slice none 0 0]) ?_ 2 _ rfl; (with_reducible repeat (first | refine blk_drewN ?_ _ | refine blk_drew ?_ | refine blk_alloc ?_ _)); refine blk_put (cs := #[.int .i64 z4_, .int .i64 0, .slice none 0 0]) ?_ 1 _ rfl; (with_reducible repeat (first | refine blk_drewN ?_ _ | refine blk_drew ?_ | refine blk_alloc ?_ _)); refine blk_put (cs := #[.int .i64 0, .int .i64 0, .slice none 0 0]) ?_ 0 _ rfl; (with_reducible repeat (first | refine blk_drewN ?_ _ | refine blk_drew ?_ | refine blk_alloc ?_ _)); refine blk_far ?_ y43_.out _; (with_reducible repeat (first | refine blk_drewN ?_ _ | refine blk_drew ?_ | refine blk_alloc ?_ _)); exact y15_.out) Try.underlying34 rfl (by kernel_rfl)) rfl ?_
                 exact ⟨_, by first | rfl | (simp [errW_none, errW_some] <;> rfl) | (simp [*, errW_none, errW_some] <;> rfl), by (with_reducible repeat (first | apply Kd.R_alloc | apply Kd.R_drewN | apply Kd.R_drew)); exact Kd.R_mono (Kd.R_far (p := ⟨y10_, 2, none⟩) (Kd.R_far (p := ⟨y10_, 1, none⟩) (Kd.R_far (p := ⟨y10_, 0, none⟩) (Kd.R_far (p := ⟨y32_, 2, none⟩) (Kd.R_types (Kd.R_types x53_.out y38_.out (by decide)) y15_.out (by decide)) (fun _ hk => hk.1.2) (.slice x54_ y99_.length x55_)) (fun _ hk => hk.2) (.int .i64 z4_)) (fun _ hk => hk.2) (.int .i64 z5_)) (fun _ hk => hk.2) (.slice x54_ y99_.length x55_)) (fun _ hk => trivial), by repeat (first | (with_reducible first | exact HB.out | apply below_alloc | apply pw_below_drewN | apply below_drew1 | refine below_set ?_ y9_.out | refine below_set ?_ y17_.out | refine below_set ?_ y40_.out) | exact HB.out)⟩
               · rw [if_neg y97_] at H
                 exact absurd H (by simp)
             · rw [if_neg y94_] at H
               exact absurd H (by simp)
           · rw [if_neg y91_] at H
             exact absurd H (by simp)
         · rw [if_neg y86_] at H
           exact absurd H (by simp)
 · replace z12_ := Bool.eq_false_iff.mpr z12_
   subst z12_
   have z13_ : (some (z4_, z5_, z6_, false)) = some (r1, r2, r3, r4) := by rw [if_neg (show ¬ (false = true) by decide)] at H; exact H
   clear H
   have H := z13_
   clear z13_
   simp only [Option.some.injEq, Prod.mk.injEq] at H
   obtain ⟨rfl, rfl, rfl, rfl⟩ := H
   go_enter Try.func124, Try.ntmps124
   go_wp2_with (first | ((with_reducible refine gate_dst (N := 2) rfl ?_); refine box_event ?hg (N := 2) ?hd (cs := #[.int .i64 a0_0, .int .i64 a0_1, .slice A0_2 l0_2.length c0_2]) (t := 34) ?hr ?_; (case hd => rfl); (case hg => rfl); (case hr => first | (go_simp; done) | (go_simp; rfl)); intro y1_ hg y2_ hbox hb; have y3_ := Aside0.mk (below_step (by repeat (first | (with_reducible first | exact HB.out | apply below_alloc | apply pw_below_drewN | apply below_drew1) | exact HB.out)) hb); have y4_ := Aside0.mk (hbox); have y5_ := Aside0.mk ((by rw [hg]; exact (below_size (by repeat (first | (with_reducible first | exact HB.out | apply below_alloc | apply pw_below_drewN | apply below_drew1) | exact HB.out))) : w.heap.size ≤ y1_)); have y6_ := Aside0.mk ((by rw [hg]; exact (below_size (by repeat (first | (with_reducible first | exact HB.out | apply below_alloc | apply pw_below_drewN | apply below_drew1) | exact HB.out))) : w.heap.size ≤ y1_)); clear HB; have HB := y3_; have y7_ := y4_; have y8_ := y5_; have y9_ := y6_; clear y3_ y4_ y5_ y6_; clear hb hbox hg) | ((with_reducible refine gate_dst (N := 4) rfl ?_); refine box_event ?hg (N := 4) ?hd (cs := #[.int .i64 0, .int .i64 0, .slice none 0 0]) (t := 34) ?hr ?_; (case hd => rfl); (case hg => rfl); (case hr => first | (go_simp; done) | (go_simp; rfl)); intro y10_ hg y11_ hbox hb; have y3_ := Aside0.mk (blk_below (g := y1_) (o := .cells #[.int .i64 a0_0, .int .i64 a0_1, .slice A0_2 l0_2.length c0_2] 34 (0, 0)) (by (with_reducible repeat (first | refine blk_drewN ?_ _ | refine blk_drew ?_ | refine blk_alloc ?_ _)); exact y7_.out) hb); have y4_ := Aside0.mk (below_step (by repeat (first | (with_reducible first | exact HB.out | apply below_alloc | apply pw_below_drewN | apply below_drew1 | refine below_set ?_ y9_.out) | exact HB.out)) hb); have y5_ := Aside0.mk (hbox); have y6_ := Aside0.mk ((by rw [hg]; exact (below_size (by repeat (first | (with_reducible first | exact HB.out | apply below_alloc | apply pw_below_drewN | apply below_drew1 | refine below_set ?_ y9_.out) | exact HB.out))) : w.heap.size ≤ y10_)); have y12_ := Aside0.mk ((by rw [hg]; exact (below_size (by repeat (first | (with_reducible first | exact HB.out | apply below_alloc | apply pw_below_drewN | apply below_drew1 | refine below_set ?_ y9_.out) | exact HB.out))) : w.heap.size ≤ y10_)); have y13_ := Aside0.mk ((by rw [hg]; exact Nat.ne_of_lt (blk_lt (g := y1_) (o := .cells #[.int .i64 a0_0, .int .i64 a0_1, .slice A0_2 l0_2.length c0_2] 34 (0, 0)) (by (with_reducible repeat (first | refine blk_drewN ?_ _ | refine blk_drew ?_ | refine blk_alloc ?_ _)); exact y7_.out)) : y1_ ≠ y10_)); have y14_ := Aside0.mk ((by rw [hg]; exact Nat.ne_of_gt (blk_lt (g := y1_) (o := .cells #[.int .i64 a0_0, .int .i64 a0_1, .slice A0_2 l0_2.length c0_2] 34 (0, 0)) (by (with_reducible repeat (first | refine blk_drewN ?_ _ | refine blk_drew ?_ | refine blk_alloc ?_ _)); exact y7_.out)) : y10_ ≠ y1_)); clear y7_; clear HB; have y7_ := y3_; have HB := y4_; have y15_ := y5_; have y16_ := y6_; have y17_ := y12_; have y18_ := y13_; have y19_ := y14_; clear y3_ y4_ y5_ y6_ y12_ y13_ y14_; clear hb hbox hg; have y20_ := y18_.out; have y21_ := y19_.out; have y22_ : y11_.cell? ⟨y1_, 0, none⟩ = some (.int .i64 a0_0) := (blk_cell y7_.out 0).trans rfl; have y23_ : y11_.cell? ⟨y1_, 1, none⟩ = some (.int .i64 a0_1) := (blk_cell y7_.out 1).trans rfl; have y24_ : y11_.cell? ⟨y1_, 2, none⟩ = some (.slice A0_2 l0_2.length c0_2) := (blk_cell y7_.out 2).trans rfl; have y25_ := blk_frozen y7_.out 0; have y26_ := blk_frozen y7_.out 1; have y27_ := blk_frozen y7_.out 2) | ((with_reducible refine gate_callee (f := 151) rfl ?_); refine goesL_ (some 10) rfl rfl Try.func151 (by kernel_rfl) rfl #[.agg #[.int .i64 a0_0, .int .i64 a0_1, .slice A0_2 l0_2.length c0_2]] rfl (by (try simp only [List.map_toArray, List.map_cons, List.map_nil]); first | done | rfl | (simp only [List.length_drop, List.length_take]; rfl)) ?_; (with_reducible refine (spec_l15Mesh.calls _ _ _ _ _ _ _ _ _ ?side1 ?side2 z8_.out).mono ?_); (case side1 => repeat (first | exact (Kd.C_below z2_.out HB.out) | (with_reducible refine Kd.C_alloc ?_ _) | (with_reducible refine Kd.C_drewN ?_ _) | (with_reducible refine Kd.C_drew ?_))); (case side2 => exact z3_.out); rintro e y28_ ⟨y29_, rfl, y30_, hb⟩; refine ⟨_, rfl, ?_⟩; have y3_ := Aside0.mk (Kd.R_lower y30_ (below_size (by repeat (first | (with_reducible first | exact HB.out | apply below_alloc | apply pw_below_drewN | apply below_drew1 | refine below_set ?_ y9_.out | refine below_set ?_ y17_.out) | exact HB.out)))); have y4_ := Aside0.mk (blk_below (g := y1_) (o := .cells #[.int .i64 a0_0, .int .i64 a0_1, .slice A0_2 l0_2.length c0_2] 34 (0, 0)) (by (with_reducible repeat (first | refine blk_drewN ?_ _ | refine blk_drew ?_ | refine blk_alloc ?_ _)); exact y7_.out) hb); have y5_ := Aside0.mk (blk_below (g := y10_) (o := .cells #[.int .i64 0, .int .i64 0, .slice none 0 0] 34 (0, 0)) (by (with_reducible repeat (first | refine blk_drewN ?_ _ | refine blk_drew ?_ | refine blk_alloc ?_ _)); exact y15_.out) hb); have y6_ := Aside0.mk (below_step (by repeat (first | (with_reducible first | exact HB.out | apply below_alloc | apply pw_below_drewN | apply below_drew1 | refine below_set ?_ y9_.out | refine below_set ?_ y17_.out) | exact HB.out)) hb); clear y7_; clear y15_; clear HB; have y31_ := y3_; have y7_ := y4_; have y15_ := y5_; have HB := y6_; clear y3_ y4_ y5_ y6_; (try clear hb); (try clear hb2); (try clear hk); (try clear hi); (try clear y30_)) | ((with_reducible refine gate_dst (N := 6) rfl ?_); refine box_event ?hg (N := 6) ?hd (cs := #[.int .i64 0, .int .i64 0, .slice none 0 0]) (t := 34) ?hr ?_; (case hd => rfl); (case hg => rfl); (case hr => first | (go_simp; done) | (go_simp; rfl)); intro y32_ hg y33_ hbox hb; have y3_ := Aside0.mk (Kd.R_below (by (with_reducible repeat (first | apply Kd.R_alloc | apply Kd.R_drewN | apply Kd.R_drew)); exact y31_.out) hb); have y4_ := Aside0.mk (blk_below (g := y1_) (o := .cells #[.int .i64 a0_0, .int .i64 a0_1, .slice A0_2 l0_2.length c0_2] 34 (0, 0)) (by (with_reducible repeat (first | refine blk_drewN ?_ _ | refine blk_drew ?_ | refine blk_alloc ?_ _)); exact y7_.out) hb); have y5_ := Aside0.mk (blk_below (g := y10_) (o := .cells #[.int .i64 0, .int .i64 0, .slice none 0 0] 34 (0, 0)) (by (with_reducible repeat (first | refine blk_drewN ?_ _ | refine blk_drew ?_ | refine blk_alloc ?_ _)); exact y15_.out) hb); have y6_ := Aside0.mk (below_step (by repeat (first | (with_reducible first | exact HB.out | apply below_alloc | apply pw_below_drewN | apply below_drew1 | refine below_set ?_ y9_.out | refine below_set ?_ y17_.out) | exact HB.out)) hb); have y12_ := Aside0.mk (hbox); have y13_ := Aside0.mk ((by rw [hg]; exact (below_size (by repeat (first | (with_reducible first | exact HB.out | apply below_alloc | apply pw_below_drewN | apply below_drew1 | refine below_set ?_ y9_.out | refine below_set ?_ y17_.out) | exact HB.out))) : w.heap.size ≤ y32_)); have y14_ := Aside0.mk ((by rw [hg]; exact (below_size (by repeat (first | (with_reducible first | exact HB.out | apply below_alloc | apply pw_below_drewN | apply below_drew1 | refine below_set ?_ y9_.out | refine below_set ?_ y17_.out) | exact HB.out))) : w.heap.size ≤ y32_)); have y34_ := Aside0.mk ((by rw [hg]; exact Nat.ne_of_lt (blk_lt (g := y1_) (o := .cells #[.int .i64 a0_0, .int .i64 a0_1, .slice A0_2 l0_2.length c0_2] 34 (0, 0)) (by (with_reducible repeat (first | refine blk_drewN ?_ _ | refine blk_drew ?_ | refine blk_alloc ?_ _)); exact y7_.out)) : y1_ ≠ y32_)); have y35_ := Aside0.mk ((by rw [hg]; exact Nat.ne_of_gt (blk_lt (g := y1_) (o := .cells #[.int .i64 a0_0, .int .i64 a0_1, .slice A0_2 l0_2.length c0_2] 34 (0, 0)) (by (with_reducible repeat (first | refine blk_drewN ?_ _ | refine blk_drew ?_ | refine blk_alloc ?_ _)); exact y7_.out)) : y32_ ≠ y1_)); have y36_ := Aside0.mk ((by rw [hg]; exact Nat.ne_of_lt (blk_lt (g := y10_) (o := .cells #[.int .i64 0, .int .i64 0, .slice none 0 0] 34 (0, 0)) (by (with_reducible repeat (first | refine blk_drewN ?_ _ | refine blk_drew ?_ | refine blk_alloc ?_ _)); exact y15_.out)) : y10_ ≠ y32_)); have y37_ := Aside0.mk ((by rw [hg]; exact Nat.ne_of_gt (blk_lt (g := y10_) (o := .cells #[.int .i64 0, .int .i64 0, .slice none 0 0] 34 (0, 0)) (by (with_reducible repeat (first | refine blk_drewN ?_ _ | refine blk_drew ?_ | refine blk_alloc ?_ _)); exact y15_.out)) : y32_ ≠ y10_)); clear y31_; clear y7_; clear y15_; clear HB; have y31_ := y3_; have y7_ := y4_; have y15_ := y5_; have HB := y6_; have y38_ := y12_; have y39_ := y13_; have y40_ := y14_; have y41_ := y34_; have y42_ := y35_; have y43_ := y36_; have y44_ := y37_; clear y3_ y4_ y5_ y6_ y12_ y13_ y14_ y34_ y35_ y36_ y37_; clear hb hbox hg; have y45_ := y42_.out; have y46_ := y41_.out; have y47_ := y44_.out; have y48_ := y43_.out; have y49_ : y33_.cell? ⟨y32_, 0, none⟩ = some (.int .i64 0) := (blk_cell y38_.out 0).trans rfl; have y50_ : y33_.cell? ⟨y32_, 1, none⟩ = some (.int .i64 0) := (blk_cell y38_.out 1).trans rfl; have y51_ : y33_.cell? ⟨y32_, 2, none⟩ = some (.slice none 0 0) := (blk_cell y38_.out 2).trans rfl; have y52_ := blk_frozen y38_.out 0; have y53_ := blk_frozen y38_.out 1; have y54_ := blk_frozen y38_.out 2; obtain ⟨y55_, y56_, y57_⟩ := Kd.R_slice y31_.out; subst y57_; have y58_ : y33_.cell? ⟨y1_, 0, none⟩ = some (.int .i64 a0_0) := (blk_cell y7_.out 0).trans rfl; have y59_ : y33_.cell? ⟨y1_, 1, none⟩ = some (.int .i64 a0_1) := (blk_cell y7_.out 1).trans rfl; have y60_ : y33_.cell? ⟨y1_, 2, none⟩ = some (.slice A0_2 l0_2.length c0_2) := (blk_cell y7_.out 2).trans rfl; have y61_ := blk_frozen y7_.out 0; have y62_ := blk_frozen y7_.out 1; have y63_ := blk_frozen y7_.out 2) | ((with_reducible refine gate_callee (f := 152) rfl ?_); refine goesL_ (some 13) rfl rfl Try.func152 (by kernel_rfl) rfl #[.agg #[.int .i64 a0_0, .int .i64 a0_1, .slice A0_2 l0_2.length c0_2], .int .i64 a1] rfl (by (try simp only [List.map_toArray, List.map_cons, List.map_nil]); first | done | rfl | (simp only [List.length_drop, List.length_take]; rfl)) ?_; (with_reducible refine (spec_HasChannel.calls _ _ _ _ _ _ _ _ _ ?side1 ?side2 z11_.out).mono ?_); (case side1 => exact Kd.C_below z2_.out (by repeat (first | (with_reducible first | exact HB.out | apply below_alloc | apply pw_below_drewN | apply below_drew1 | refine below_set ?_ y9_.out | refine below_set ?_ y17_.out | refine below_set ?_ y40_.out) | exact HB.out))); (case side2 => exact z3_.out); rintro e y64_ ⟨rfl, hb⟩; refine ⟨_, rfl, ?_⟩; have y3_ := Aside0.mk (Kd.R_below (by (with_reducible repeat (first | apply Kd.R_alloc | apply Kd.R_drewN | apply Kd.R_drew)); exact (Kd.R_mono (Kd.R_far (p := ⟨y32_, 2, none⟩) (Kd.R_far (p := ⟨y32_, 1, none⟩) (Kd.R_far (p := ⟨y32_, 0, none⟩) (Kd.R_types y31_.out y38_.out (by decide)) (fun _ hk => hk.2) (.int .i64 z4_)) (fun _ hk => hk.2) (.int .i64 z5_)) (fun _ hk => hk.2) (.slice y55_ z6_.length y56_)) (fun _ h_ => h_.1))) hb); have y4_ := Aside0.mk (blk_below (g := y1_) (o := .cells #[.int .i64 a0_0, .int .i64 a0_1, .slice A0_2 l0_2.length c0_2] 34 (0, 0)) (by (with_reducible repeat (first | refine blk_drewN ?_ _ | refine blk_drew ?_ | refine blk_alloc ?_ _)); refine blk_far ?_ y41_.out _; (with_reducible repeat (first | refine blk_drewN ?_ _ | refine blk_drew ?_ | refine blk_alloc ?_ _)); refine blk_far ?_ y41_.out _; (with_reducible repeat (first | refine blk_drewN ?_ _ | refine blk_drew ?_ | refine blk_alloc ?_ _)); refine blk_far ?_ y41_.out _; (with_reducible repeat (first | refine blk_drewN ?_ _ | refine blk_drew ?_ | refine blk_alloc ?_ _)); exact y7_.out) hb); have y5_ := Aside0.mk (blk_below (g := y10_) (o := .cells #[.int .i64 0, .int .i64 0, .slice none 0 0] 34 (0, 0)) (by (with_reducible repeat (first | refine blk_drewN ?_ _ | refine blk_drew ?_ | refine blk_alloc ?_ _)); refine blk_far ?_ y43_.out _; (with_reducible repeat (first | refine blk_drewN ?_ _ | refine blk_drew ?_ | refine blk_alloc ?_ _)); refine blk_far ?_ y43_.out _; (with_reducible repeat (first | refine blk_drewN ?_ _ | refine blk_drew ?_ | refine blk_alloc ?_ _)); refine blk_far ?_ y43_.out _; (with_reducible repeat (first | refine blk_drewN ?_ _ | refine blk_drew ?_ | refine blk_alloc ?_ _)); exact y15_.out) hb); have y6_ := Aside0.mk (blk_below (g := y32_) (o := .cells #[.int .i64 z4_, .int .i64 z5_, .slice y55_ z6_.length y56_] 34 (0, 0)) (by (with_reducible repeat (first | refine blk_drewN ?_ _ | refine blk_drew ?_ | refine blk_alloc ?_ _)); refine blk_put (cs := #[.int .i64 z4_, .int .i64 z5_, .slice none 0 0]) ?_ 2 _ rfl; (with_reducible repeat (first | refine blk_drewN ?_ _ | refine blk_drew ?_ | refine blk_alloc ?_ _)); refine blk_put (cs := #[.int .i64 z4_, .int .i64 0, .slice none 0 0]) ?_ 1 _ rfl; (with_reducible repeat (first | refine blk_drewN ?_ _ | refine blk_drew ?_ | refine blk_alloc ?_ _)); refine blk_put (cs := #[.int .i64 0, .int .i64 0, .slice none 0 0]) ?_ 0 _ rfl; (with_reducible repeat (first | refine blk_drewN ?_ _ | refine blk_drew ?_ | refine blk_alloc ?_ _)); exact y38_.out) hb); have y12_ := Aside0.mk (below_step (by repeat (first | (with_reducible first | exact HB.out | apply below_alloc | apply pw_below_drewN | apply below_drew1 | refine below_set ?_ y9_.out | refine below_set ?_ y17_.out | refine below_set ?_ y40_.out) | exact HB.out)) hb); clear y31_; clear y7_; clear y15_; clear y38_; clear HB; have y31_ := y3_; have y7_ := y4_; have y15_ := y5_; have y38_ := y6_; have HB := y12_; clear y3_ y4_ y5_ y6_ y12_; (try clear hb); (try clear hb2); (try clear hk); (try clear hi); have y65_ : y64_.cell? ⟨y32_, 0, none⟩ = some (.int .i64 z4_) := (blk_cell y38_.out 0).trans rfl; have y66_ : y64_.cell? ⟨y32_, 1, none⟩ = some (.int .i64 z5_) := (blk_cell y38_.out 1).trans rfl; have y67_ : y64_.cell? ⟨y32_, 2, none⟩ = some (.slice y55_ z6_.length y56_) := (blk_cell y38_.out 2).trans rfl; have y68_ := blk_frozen y38_.out 0; have y69_ := blk_frozen y38_.out 1; have y70_ := blk_frozen y38_.out 2; have y71_ : y64_.cell? ⟨y10_, 0, none⟩ = some (.int .i64 0) := (blk_cell y15_.out 0).trans rfl; have y72_ : y64_.cell? ⟨y10_, 1, none⟩ = some (.int .i64 0) := (blk_cell y15_.out 1).trans rfl; have y73_ : y64_.cell? ⟨y10_, 2, none⟩ = some (.slice none 0 0) := (blk_cell y15_.out 2).trans rfl; have y74_ := blk_frozen y15_.out 0; have y75_ := blk_frozen y15_.out 1; have y76_ := blk_frozen y15_.out 2))
   refine bodyPost_ret (results_ct rfl _ _ y10_ 34 #[.int .i64 z4_, .int .i64 z5_, .slice y55_ z6_.length y56_] (0, 0) _ rfl (by (with_reducible repeat (first | refine blk_drewN ?_ _ | refine blk_drew ?_ | refine blk_alloc ?_ _)); refine blk_put (cs := #[.int .i64 z4_, .int .i64 z5_, .slice none 0 0]) ?_ 2 _ rfl; (with_reducible repeat (first | refine blk_drewN ?_ _ | refine blk_drew ?_ | refine blk_alloc ?_ _)); refine blk_put (cs := #[.int .i64 z4_, .int .i64 0, .slice none 0 0]) ?_ 1 _ rfl; (with_reducible repeat (first | refine blk_drewN ?_ _ | refine blk_drew ?_ | refine blk_alloc ?_ _)); refine blk_put (cs := #[.int .i64 0, .int .i64 0, .slice none 0 0]) ?_ 0 _ rfl; (with_reducible repeat (first | refine blk_drewN ?_ _ | refine blk_drew ?_ | refine blk_alloc ?_ _)); exact y15_.out) Try.underlying34 rfl (by kernel_rfl)) rfl ?_
   exact ⟨_, by first | rfl | (simp [errW_none, errW_some] <;> rfl) | (simp [*, errW_none, errW_some] <;> rfl), by (with_reducible repeat (first | apply Kd.R_alloc | apply Kd.R_drewN | apply Kd.R_drew)); exact Kd.R_mono (Kd.R_far (p := ⟨y10_, 2, none⟩) (Kd.R_far (p := ⟨y10_, 1, none⟩) (Kd.R_far (p := ⟨y10_, 0, none⟩) (Kd.R_types y31_.out y15_.out (by decide)) (fun _ hk => hk.2) (.int .i64 z4_)) (fun _ hk => hk.2) (.int .i64 z5_)) (fun _ hk => hk.2) (.slice y55_ z6_.length y56_)) (fun _ hk => trivial), by repeat (first | (with_reducible first | exact HB.out | apply below_alloc | apply pw_below_drewN | apply below_drew1 | refine below_set ?_ y9_.out | refine below_set ?_ y17_.out | refine below_set ?_ y40_.out) | exact HB.out)⟩
end Go.Proofs.Ytkkoenbmokbglaa.F
end
