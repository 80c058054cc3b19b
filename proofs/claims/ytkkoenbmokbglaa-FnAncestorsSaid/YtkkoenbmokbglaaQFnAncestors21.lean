/- Parts of a proof that the law FnAncestors holds for every input: contracts of the program's functions and plain laws on what they compute. -/
import Derived.Test.YtkkoenbmokbglaaQFnAncestors12
import Derived.Test.YtkkoenbmokbglaaQFnAncestors15
import Derived.Test.YtkkoenbmokbglaaQFnAncestors19
import Derived.Test.YtkkoenbmokbglaaQFnAncestors20
section
namespace Go.Proofs.Ytkkoenbmokbglaa.F
open Go.RowKit Go.Proofs.YtkkoenbmokbglaaW.PrintWords Go.Proofs.YtkkoenbmokbglaaW.PrintLast Go.Proofs.YtkkoenbmokbglaaW.PrintMore
set_option linter.unusedVariables false
set_option linter.unusedSimpArgs false
def spec_l33Mesh.l0 : Nat → Int → List Int → Int → Int → Int → Int → List Int → Option (Int × Int × List Int × Int × Int)
  | 0, _, _, _, _, _, _, _ => none
  | k + 1, x4, x1000, x1001, x1002, x107000, x107001, x107002 => (spec_l01Below.f x1000 x1001 x1002 5).bind fun bt107 => (if x4 < bt107.1 then ((spec_NodeCount.f x107000 x107001).bind fun t110 => ((spec_l01Below.f x1000 bt107.2.1 bt107.2.2 (wrap64 (4 * t110))).bind fun bt111 => ((spec_WithBroken.f k x107000 x107001 x107002 bt111.1).bind fun bt114 => ((spec_IsConnected.f k bt114.1 bt114.2.1 bt114.2.2.1).bind fun t121 => (if t121 = true then (spec_l33Mesh.l0 k (wrap64 (x4 + 1)) x1000 bt111.2.1 bt111.2.2 bt114.1 bt114.2.1 bt114.2.2.1) else ((spec_l01Once.f x1000 bt111.2.1 bt111.2.2 8).bind fun bt122 => (if bt122.1 = true then (spec_l33Mesh.l0 k (wrap64 (x4 + 1)) x1000 bt122.2.1 bt122.2.2 bt114.1 bt114.2.1 bt114.2.2.1) else (spec_l33Mesh.l0 k (wrap64 (x4 + 1)) x1000 bt122.2.1 bt122.2.2 x107000 x107001 x107002)))))))) else (some (x107000, x107001, x107002, bt107.2.1, bt107.2.2)))
def spec_l33Mesh.f (k : Nat) (s0_0 : List Int) (s0_1 : Int) (s0_2 : Int) : Option (Int × Int × List Int × Int × Int) := (spec_l14Grid.f s0_0 s0_1 s0_2).bind fun bt102 => (spec_l33Mesh.l0 k 0 s0_0 bt102.2.2.1 bt102.2.2.2 bt102.1 bt102.2.1 ([] : List Int))
def spec_l33Mesh.T5 : Bool × List (List Nat × List Nat) := (true, [([], []), ([], []), ([], []), ([2], [2]), ([3], [3]), ([4], [4]), ([1, 5, 4], [1, 5]), ([0, 6, 6], [0, 6]), ([7], [7]), ([8], [8]), ([8], [8]), ([], []), ([11, 9, 7, 0, 1, 2, 3, 4, 5, 6, 7, 8, 9, 11], [9, 11]), ([10, 12, 0, 1, 2, 3, 4, 5, 6, 7, 8, 9, 10, 11, 12], [10])])
def spec_l33Mesh.B5 : List Nat := [0, 0, 0, 4, 12, 28, 62, 127, 255, 511, 511, 0, 3071, 8191]
theorem spec_l33Mesh.tab5 : rtab .any (opsOf Try.f85 5) = spec_l33Mesh.T5 := by kernel_rfl
theorem spec_l33Mesh.bits5 : waitsOk spec_l33Mesh.T5.2 spec_l33Mesh.B5 = true := by kernel_rfl
set_option maxHeartbeats 8000000 in
set_option maxRecDepth 100000 in
theorem spec_l33Mesh.calls (k : Nat) (g : Nat) (s0_0 : List Int) (s0_1 : Int) (s0_2 : Int) (r1 : Int) (r2 : Int) (r3 : List Int) (r4 : Int) (r5 : Int) (w0 w : World) (hI : IsS124 w0 w g s0_0 s0_1 s0_2) (hB : Below w0.heap.size w0 w) (h : spec_l33Mesh.f k s0_0 s0_1 s0_2 = some (r1, r2, r3, r4, r5)) :
    Calls Try.prog 85 #[.pointer (some ⟨g, 0, none⟩)] w fun e w' => ∃ v2_ : Value, e = .returned (.agg #[.int .i64 r1, .int .i64 r2, v2_]) ∧ Kd.R (Kd.int .i64) 3 w' w.heap.size (fun _ => True) v2_ r3 ∧ IsS124 w0 w' g s0_0 r4 r5 ∧ Below w0.heap.size w0 w' ∧ KeepBut w w' g none := by
 have z1_ := Try.underlying34
 have z2_ := Try.underlying32
 have z3_ := Aside0.mk hI
 have HK := Aside0.mk (KeepBut.refl w g none)
 have HL := Aside0.mk hB.size
 clear hI
 have z4_ := Aside0.mk hB.size
 have HB := Aside0.mk hB
 clear hB
 have H : ((spec_l14Grid.f s0_0 s0_1 s0_2).bind fun bt102 => (spec_l33Mesh.l0 k 0 s0_0 bt102.2.2.1 bt102.2.2.2 bt102.1 bt102.2.1 ([] : List Int))) = some (r1, r2, r3, r4, r5) := h
 clear h
 replace H := Option.bind_eq_some_iff.mp H
 obtain ⟨⟨z5_, z6_, z7_, z8_⟩, z9_, H⟩ := H
 replace H : (spec_l33Mesh.l0 k 0 s0_0 z7_ z8_ z5_ z6_ ([] : List Int)) = some (r1, r2, r3, r4, r5) := H
 have z10_ := Aside0.mk z9_
 clear z9_
 have H' := Aside0.mk H
 clear H
 go_enter Try.func85, Try.ntmps85
 go_wp2_with (first | ((with_reducible refine gate_dst (N := 2) rfl ?_); refine box_event ?hg (N := 2) ?hd (cs := #[.int .i64 0, .int .i64 0, .slice none 0 0]) (t := 34) ?hr ?_; (case hd => rfl); (case hg => rfl); (case hr => first | (go_simp; done) | (go_simp; rfl)); intro z11_ hg z12_ hbox hb; have z13_ := Aside0.mk (IsS124.below (by repeat (first | (with_reducible first | exact z3_.out | apply IsS124.alloc | apply IsS124.drewN | apply IsS124.drew | apply IsS124.set_1 | apply IsS124.set_2) | exact z3_.out)) hb); have z14_ := Aside0.mk (KeepBut.trans (by repeat (first | (with_reducible first | exact HK.out | apply KeepBut.set_ | apply keep_drewN | apply keep_drew | apply keep_alloc) | exact HK.out)) (KeepBut.of_below hb g none) (.inl rfl)); have z15_ := Aside0.mk (below_step (by repeat (first | (with_reducible first | exact HB.out | apply below_alloc | apply pw_below_drewN | apply below_drew1 | refine below_set ?_ (IsS124.ge z3_.out)) | exact HB.out)) hb); have z16_ := Aside0.mk (hbox); have z17_ := Aside0.mk ((by rw [hg]; exact (keep_size (w := w) (g := g) (row := none) (by repeat (first | (with_reducible first | exact HK.out | apply KeepBut.set_ | apply keep_drewN | apply keep_drew | apply keep_alloc) | exact HK.out))) : w.heap.size ≤ z11_)); have z18_ := Aside0.mk ((Nat.le_trans z4_.out (by rw [hg]; exact (keep_size (w := w) (g := g) (row := none) (by repeat (first | (with_reducible first | exact HK.out | apply KeepBut.set_ | apply keep_drewN | apply keep_drew | apply keep_alloc) | exact HK.out))) : w.heap.size ≤ z11_) : w0.heap.size ≤ z11_)); have z19_ := Aside0.mk ((by rw [hg]; exact Nat.ne_of_lt (IsS124.lt (show IsS124 w0 _ g s0_0 s0_1 s0_2 from by repeat (first | (with_reducible first | exact z3_.out | apply IsS124.alloc | apply IsS124.drewN | apply IsS124.drew | apply IsS124.set_1 | apply IsS124.set_2) | exact z3_.out))) : g ≠ z11_)); have z20_ := Aside0.mk ((by rw [hg]; exact Nat.ne_of_gt (IsS124.lt (show IsS124 w0 _ g s0_0 s0_1 s0_2 from by repeat (first | (with_reducible first | exact z3_.out | apply IsS124.alloc | apply IsS124.drewN | apply IsS124.drew | apply IsS124.set_1 | apply IsS124.set_2) | exact z3_.out))) : z11_ ≠ g)); clear z3_; clear HK; clear HB; have z3_ := z13_; have HK := z14_; have HB := z15_; have z21_ := z16_; have z22_ := z17_; have z23_ := z18_; have z24_ := z19_; have z25_ := z20_; clear z13_ z14_ z15_ z16_ z17_ z18_ z19_ z20_; clear hb hbox hg) | ((with_reducible refine gate_callee (f := 123) rfl ?_); refine goesL_ (some 8) rfl rfl Try.func123 (by kernel_rfl) rfl #[.pointer (some ⟨g, 0, none⟩)] rfl (by (try simp only [List.map_toArray, List.map_cons, List.map_nil]); first | done | rfl | (simp only [List.length_drop, List.length_take]; rfl)) ?_; (with_reducible refine (spec_l14Grid.calls _ _ _ _ _ _ _ _ w0 _ ?side1 ?side2 z10_.out).mono ?_); (case side1 => repeat (first | (with_reducible first | exact z3_.out | apply IsS124.alloc | apply IsS124.drewN | apply IsS124.drew | apply IsS124.set_1 | apply IsS124.set_2 | refine IsS124.far ?_ z24_.out _) | exact z3_.out)); (case side2 => repeat (first | (with_reducible first | exact HB.out | apply below_alloc | apply pw_below_drewN | apply below_drew1 | refine below_set ?_ (IsS124.ge z3_.out) | refine below_set ?_ z23_.out) | exact HB.out)); rintro e z26_ ⟨rfl, hi, hb, hk⟩; refine ⟨_, rfl, ?_⟩; have z13_ := Aside0.mk (KeepBut.blk hk (g' := z11_) (o := .cells #[.int .i64 0, .int .i64 0, .slice none 0 0] 34 (0, 0)) (by (with_reducible repeat (first | refine blk_drewN ?_ _ | refine blk_drew ?_ | refine blk_alloc ?_ _)); exact z21_.out) z25_.out (by simp)); have z14_ := Aside0.mk (KeepBut.trans (by repeat (first | (with_reducible first | exact HK.out | apply KeepBut.set_ | apply keep_drewN | apply keep_drew | apply keep_alloc | refine keep_far ?_ z22_.out _) | exact HK.out)) hk (.inl rfl)); have z15_ := Aside0.mk (hb); have z16_ := Aside0.mk (hi); clear z21_; clear HK; clear HB; clear z3_; have z21_ := z13_; have HK := z14_; have HB := z15_; have z3_ := z16_; clear z13_ z14_ z15_ z16_; (try clear hb); (try clear hb2); (try clear hk); (try clear hi)) | ((with_reducible refine gate_dst (N := 3) rfl ?_); refine box_event ?hg (N := 3) ?hd (cs := #[.int .i64 0, .int .i64 0, .slice none 0 0]) (t := 34) ?hr ?_; (case hd => rfl); (case hg => rfl); (case hr => first | (go_simp; done) | (go_simp; rfl)); intro z27_ hg z28_ hbox hb; have z13_ := Aside0.mk (IsS124.below (by repeat (first | (with_reducible first | exact z3_.out | apply IsS124.alloc | apply IsS124.drewN | apply IsS124.drew | apply IsS124.set_1 | apply IsS124.set_2 | refine IsS124.far ?_ z24_.out _) | exact z3_.out)) hb); have z14_ := Aside0.mk (blk_below (g := z11_) (o := .cells #[.int .i64 0, .int .i64 0, .slice none 0 0] 34 (0, 0)) (by (with_reducible repeat (first | refine blk_drewN ?_ _ | refine blk_drew ?_ | refine blk_alloc ?_ _)); exact z21_.out) hb); have z15_ := Aside0.mk (KeepBut.trans (by repeat (first | (with_reducible first | exact HK.out | apply KeepBut.set_ | apply keep_drewN | apply keep_drew | apply keep_alloc | refine keep_far ?_ z22_.out _) | exact HK.out)) (KeepBut.of_below hb g none) (.inl rfl)); have z16_ := Aside0.mk (below_step (by repeat (first | (with_reducible first | exact HB.out | apply below_alloc | apply pw_below_drewN | apply below_drew1 | refine below_set ?_ (IsS124.ge z3_.out) | refine below_set ?_ z23_.out) | exact HB.out)) hb); have z17_ := Aside0.mk (hbox); have z18_ := Aside0.mk ((by rw [hg]; exact (keep_size (w := w) (g := g) (row := none) (by repeat (first | (with_reducible first | exact HK.out | apply KeepBut.set_ | apply keep_drewN | apply keep_drew | apply keep_alloc | refine keep_far ?_ z22_.out _) | exact HK.out))) : w.heap.size ≤ z27_)); have z19_ := Aside0.mk ((Nat.le_trans z4_.out (by rw [hg]; exact (keep_size (w := w) (g := g) (row := none) (by repeat (first | (with_reducible first | exact HK.out | apply KeepBut.set_ | apply keep_drewN | apply keep_drew | apply keep_alloc | refine keep_far ?_ z22_.out _) | exact HK.out))) : w.heap.size ≤ z27_) : w0.heap.size ≤ z27_)); have z20_ := Aside0.mk ((by rw [hg]; exact Nat.ne_of_lt (blk_lt (g := z11_) (o := .cells #[.int .i64 0, .int .i64 0, .slice none 0 0] 34 (0, 0)) (by (with_reducible repeat (first | refine blk_drewN ?_ _ | refine blk_drew ?_ | refine blk_alloc ?_ _)); exact z21_.out)) : z11_ ≠ z27_)); have z29_ := Aside0.mk ((by rw [hg]; exact Nat.ne_of_gt (blk_lt (g := z11_) (o := .cells #[.int .i64 0, .int .i64 0, .slice none 0 0] 34 (0, 0)) (by (with_reducible repeat (first | refine blk_drewN ?_ _ | refine blk_drew ?_ | refine blk_alloc ?_ _)); exact z21_.out)) : z27_ ≠ z11_)); have z30_ := Aside0.mk ((by rw [hg]; exact Nat.ne_of_lt (IsS124.lt (show IsS124 w0 _ g s0_0 z7_ z8_ from by repeat (first | (with_reducible first | exact z3_.out | apply IsS124.alloc | apply IsS124.drewN | apply IsS124.drew | apply IsS124.set_1 | apply IsS124.set_2 | refine IsS124.far ?_ z24_.out _) | exact z3_.out))) : g ≠ z27_)); have z31_ := Aside0.mk ((by rw [hg]; exact Nat.ne_of_gt (IsS124.lt (show IsS124 w0 _ g s0_0 z7_ z8_ from by repeat (first | (with_reducible first | exact z3_.out | apply IsS124.alloc | apply IsS124.drewN | apply IsS124.drew | apply IsS124.set_1 | apply IsS124.set_2 | refine IsS124.far ?_ z24_.out _) | exact z3_.out))) : z27_ ≠ g)); clear z3_; clear z21_; clear HK; clear HB; have z3_ := z13_; have z21_ := z14_; have HK := z15_; have HB := z16_; have z32_ := z17_; have z33_ := z18_; have z34_ := z19_; have z35_ := z20_; have z36_ := z29_; have z37_ := z30_; have z38_ := z31_; clear z13_ z14_ z15_ z16_ z17_ z18_ z19_ z20_ z29_ z30_ z31_; clear hb hbox hg; have z39_ := z36_.out; have z40_ := z35_.out; have z41_ := z38_.out; have z42_ := z37_.out; have z43_ : z28_.cell? ⟨z27_, 0, none⟩ = some (.int .i64 0) := (blk_cell z32_.out 0).trans rfl; have z44_ : z28_.cell? ⟨z27_, 1, none⟩ = some (.int .i64 0) := (blk_cell z32_.out 1).trans rfl; have z45_ : z28_.cell? ⟨z27_, 2, none⟩ = some (.slice none 0 0) := (blk_cell z32_.out 2).trans rfl; have z46_ := blk_frozen z32_.out 0; have z47_ := blk_frozen z32_.out 1; have z48_ := blk_frozen z32_.out 2))
 go_loopg [4] k (fun kq v4 w' => ∃ (x4_1 : Int) (x1001_1 : Int) (x1002_1 : Int) (x107000_1 : Int) (x107001_1 : Int) (x107002_1 : List Int) (u107002 : Value), v4 = .int .i64 x4_1 ∧ Aside0 (spec_l33Mesh.l0 kq x4_1 s0_0 x1001_1 x1002_1 x107000_1 x107001_1 x107002_1 = some (r1, r2, r3, r4, r5)) ∧ Aside0 (kq ≤ k) ∧ Aside0 (Kd.R (Kd.int .i64) 3 w' w.heap.size (fun _ => True) u107002 x107002_1) ∧ Aside0 (w'.heap[z11_]? = some (.cells #[.int .i64 0, .int .i64 0, (.slice none 0 0)] 34 (0, 0))) ∧ Aside0 (w'.heap[z27_]? = some (.cells #[.int .i64 x107000_1, .int .i64 x107001_1, u107002] 34 (0, 0))) ∧ Aside0 (IsS124 w0 w' g s0_0 x1001_1 x1002_1) ∧ Aside0 (KeepBut w w' g none) ∧ Aside0 (Below w0.heap.size w0 w'))
 case atStart => exact ⟨(0), (z7_), (z8_), (z5_), (z6_), (([] : List Int)), (.slice none 0 0), (by first | rfl | (simp; done) | (simp [*]; done)), H', ⟨Nat.le_refl _⟩, ⟨by first | exact Kd.R_nil _ _ _ _ _ | exact Kd.N_nil _ _ _ _ _ | exact Kd.V_nil _ _ _ _ _ | exact Kd.Q_nil _ _ _ _ _ | exact Kd.S_nil _ _ _ _ _⟩, ⟨by (with_reducible repeat (first | refine blk_drewN ?_ _ | refine blk_drew ?_ | refine blk_alloc ?_ _)); refine blk_far ?_ z35_.out _; (with_reducible repeat (first | refine blk_drewN ?_ _ | refine blk_drew ?_ | refine blk_alloc ?_ _)); refine blk_far ?_ z35_.out _; (with_reducible repeat (first | refine blk_drewN ?_ _ | refine blk_drew ?_ | refine blk_alloc ?_ _)); refine blk_far ?_ z35_.out _; (with_reducible repeat (first | refine blk_drewN ?_ _ | refine blk_drew ?_ | refine blk_alloc ?_ _)); exact z21_.out⟩, ⟨by (with_reducible repeat (first | refine blk_drewN ?_ _ | refine blk_drew ?_ | refine blk_alloc ?_ _)); refine blk_put (cs := #[.int .i64 z5_, .int .i64 z6_, .slice none 0 0]) ?_ 2 _ rfl; (with_reducible repeat (first | refine blk_drewN ?_ _ | refine blk_drew ?_ | refine blk_alloc ?_ _)); refine blk_put (cs := #[.int .i64 z5_, .int .i64 0, .slice none 0 0]) ?_ 1 _ rfl; (with_reducible repeat (first | refine blk_drewN ?_ _ | refine blk_drew ?_ | refine blk_alloc ?_ _)); refine blk_put (cs := #[.int .i64 0, .int .i64 0, .slice none 0 0]) ?_ 0 _ rfl; (with_reducible repeat (first | refine blk_drewN ?_ _ | refine blk_drew ?_ | refine blk_alloc ?_ _)); exact z32_.out⟩, ⟨by repeat (first | (with_reducible first | exact z3_.out | apply IsS124.alloc | apply IsS124.drewN | apply IsS124.drew | apply IsS124.set_1 | apply IsS124.set_2 | refine IsS124.far ?_ z24_.out _ | refine IsS124.far ?_ z37_.out _) | exact z3_.out)⟩, ⟨by repeat (first | (with_reducible first | exact HK.out | apply KeepBut.set_ | apply keep_drewN | apply keep_drew | apply keep_alloc | refine keep_far ?_ z22_.out _ | refine keep_far ?_ z33_.out _) | exact HK.out)⟩, ⟨by repeat (first | (with_reducible first | exact HB.out | apply below_alloc | apply pw_below_drewN | apply below_drew1 | refine below_set ?_ (IsS124.ge z3_.out) | refine below_set ?_ z23_.out | refine below_set ?_ z34_.out) | exact HB.out)⟩⟩
 case round =>
   clear H'
   try clear c1
   try clear p2
   try clear c6
   try clear c7
   try clear c8
   try clear z43_
   try clear z44_
   try clear z45_
   try clear z46_
   try clear z47_
   try clear z48_
   obtain ⟨z49_, z50_, z51_, z52_, z53_, z54_, z55_, rfl, HA, z56_, z57_, z21_, z32_, z3_, HK, HB⟩ := hrel
   cases gk with
   | zero => exact absurd HA.out (by simp [spec_l33Mesh.l0])
   | succ z58_ =>
     have H := HA.out
     clear HA
     simp only [spec_l33Mesh.l0] at H
     replace H := Option.bind_eq_some_iff.mp H
     obtain ⟨⟨z59_, z60_, z61_⟩, z62_, H⟩ := H
     replace H : (if z49_ < z59_ then ((spec_NodeCount.f z52_ z53_).bind fun t110 => ((spec_l01Below.f s0_0 z60_ z61_ (wrap64 (4 * t110))).bind fun bt111 => ((spec_WithBroken.f z58_ z52_ z53_ z54_ bt111.1).bind fun bt114 => ((spec_IsConnected.f z58_ bt114.1 bt114.2.1 bt114.2.2.1).bind fun t121 => (if t121 = true then (spec_l33Mesh.l0 z58_ (wrap64 (z49_ + 1)) s0_0 bt111.2.1 bt111.2.2 bt114.1 bt114.2.1 bt114.2.2.1) else ((spec_l01Once.f s0_0 bt111.2.1 bt111.2.2 8).bind fun bt122 => (if bt122.1 = true then (spec_l33Mesh.l0 z58_ (wrap64 (z49_ + 1)) s0_0 bt122.2.1 bt122.2.2 bt114.1 bt114.2.1 bt114.2.2.1) else (spec_l33Mesh.l0 z58_ (wrap64 (z49_ + 1)) s0_0 bt122.2.1 bt122.2.2 z52_ z53_ z54_)))))))) else (some (z52_, z53_, z54_, z60_, z61_))) = some (r1, r2, r3, r4, r5) := H
     have z63_ := Aside0.mk z62_
     clear z62_
     by_cases z64_ : z49_ < z59_
     focus
       rw [if_pos z64_] at H
       have z65_ : decide (z49_ < z59_) = true := decide_eq_true z64_
       clear z64_
       replace H := Option.bind_eq_some_iff.mp H
       obtain ⟨z66_, z67_, H⟩ := H
       replace H : ((spec_l01Below.f s0_0 z60_ z61_ (wrap64 (4 * z66_))).bind fun bt111 => ((spec_WithBroken.f z58_ z52_ z53_ z54_ bt111.1).bind fun bt114 => ((spec_IsConnected.f z58_ bt114.1 bt114.2.1 bt114.2.2.1).bind fun t121 => (if t121 = true then (spec_l33Mesh.l0 z58_ (wrap64 (z49_ + 1)) s0_0 bt111.2.1 bt111.2.2 bt114.1 bt114.2.1 bt114.2.2.1) else ((spec_l01Once.f s0_0 bt111.2.1 bt111.2.2 8).bind fun bt122 => (if bt122.1 = true then (spec_l33Mesh.l0 z58_ (wrap64 (z49_ + 1)) s0_0 bt122.2.1 bt122.2.2 bt114.1 bt114.2.1 bt114.2.2.1) else (spec_l33Mesh.l0 z58_ (wrap64 (z49_ + 1)) s0_0 bt122.2.1 bt122.2.2 z52_ z53_ z54_))))))) = some (r1, r2, r3, r4, r5) := H
       have z68_ := Aside0.mk z67_
       clear z67_
       replace H := Option.bind_eq_some_iff.mp H
       obtain ⟨⟨z69_, z70_, z71_⟩, z72_, H⟩ := H
       replace H : ((spec_WithBroken.f z58_ z52_ z53_ z54_ z69_).bind fun bt114 => ((spec_IsConnected.f z58_ bt114.1 bt114.2.1 bt114.2.2.1).bind fun t121 => (if t121 = true then (spec_l33Mesh.l0 z58_ (wrap64 (z49_ + 1)) s0_0 z70_ z71_ bt114.1 bt114.2.1 bt114.2.2.1) else ((spec_l01Once.f s0_0 z70_ z71_ 8).bind fun bt122 => (if bt122.1 = true then (spec_l33Mesh.l0 z58_ (wrap64 (z49_ + 1)) s0_0 bt122.2.1 bt122.2.2 bt114.1 bt114.2.1 bt114.2.2.1) else (spec_l33Mesh.l0 z58_ (wrap64 (z49_ + 1)) s0_0 bt122.2.1 bt122.2.2 z52_ z53_ z54_)))))) = some (r1, r2, r3, r4, r5) := H
       have z73_ := Aside0.mk z72_
       clear z72_
       replace H := Option.bind_eq_some_iff.mp H
       obtain ⟨⟨z74_, z75_, z76_, z77_⟩, z78_, H⟩ := H
       replace H : ((spec_IsConnected.f z58_ z74_ z75_ z76_).bind fun t121 => (if t121 = true then (spec_l33Mesh.l0 z58_ (wrap64 (z49_ + 1)) s0_0 z70_ z71_ z74_ z75_ z76_) else ((spec_l01Once.f s0_0 z70_ z71_ 8).bind fun bt122 => (if bt122.1 = true then (spec_l33Mesh.l0 z58_ (wrap64 (z49_ + 1)) s0_0 bt122.2.1 bt122.2.2 z74_ z75_ z76_) else (spec_l33Mesh.l0 z58_ (wrap64 (z49_ + 1)) s0_0 bt122.2.1 bt122.2.2 z52_ z53_ z54_))))) = some (r1, r2, r3, r4, r5) := H
       have z79_ := Aside0.mk z78_
       clear z78_
       replace H := Option.bind_eq_some_iff.mp H
       obtain ⟨z80_, z81_, H⟩ := H
       replace H : (if z80_ = true then (spec_l33Mesh.l0 z58_ (wrap64 (z49_ + 1)) s0_0 z70_ z71_ z74_ z75_ z76_) else ((spec_l01Once.f s0_0 z70_ z71_ 8).bind fun bt122 => (if bt122.1 = true then (spec_l33Mesh.l0 z58_ (wrap64 (z49_ + 1)) s0_0 bt122.2.1 bt122.2.2 z74_ z75_ z76_) else (spec_l33Mesh.l0 z58_ (wrap64 (z49_ + 1)) s0_0 bt122.2.1 bt122.2.2 z52_ z53_ z54_)))) = some (r1, r2, r3, r4, r5) := H
       have z82_ := Aside0.mk z81_
       clear z81_
       by_cases z83_ : z80_ = true
       focus
         subst z83_
         have z84_ : (spec_l33Mesh.l0 z58_ (wrap64 (z49_ + 1)) s0_0 z70_ z71_ z74_ z75_ z76_) = some (r1, r2, r3, r4, r5) := by rw [if_pos rfl] at H; exact H
         clear H
         have H := z84_
         clear z84_
         have H' := Aside0.mk H
         clear H
       rotate_left
       focus
         replace z83_ := Bool.eq_false_iff.mpr z83_
         subst z83_
         have z84_ : ((spec_l01Once.f s0_0 z70_ z71_ 8).bind fun bt122 => (if bt122.1 = true then (spec_l33Mesh.l0 z58_ (wrap64 (z49_ + 1)) s0_0 bt122.2.1 bt122.2.2 z74_ z75_ z76_) else (spec_l33Mesh.l0 z58_ (wrap64 (z49_ + 1)) s0_0 bt122.2.1 bt122.2.2 z52_ z53_ z54_))) = some (r1, r2, r3, r4, r5) := by rw [if_neg (show ¬ (false = true) by decide)] at H; exact H
         clear H
         have H := z84_
         clear z84_
         replace H := Option.bind_eq_some_iff.mp H
         obtain ⟨⟨z85_, z86_, z87_⟩, z88_, H⟩ := H
         replace H : (if z85_ = true then (spec_l33Mesh.l0 z58_ (wrap64 (z49_ + 1)) s0_0 z86_ z87_ z74_ z75_ z76_) else (spec_l33Mesh.l0 z58_ (wrap64 (z49_ + 1)) s0_0 z86_ z87_ z52_ z53_ z54_)) = some (r1, r2, r3, r4, r5) := H
         have z89_ := Aside0.mk z88_
         clear z88_
         by_cases z90_ : z85_ = true
         focus
           subst z90_
           have z84_ : (spec_l33Mesh.l0 z58_ (wrap64 (z49_ + 1)) s0_0 z86_ z87_ z74_ z75_ z76_) = some (r1, r2, r3, r4, r5) := by rw [if_pos rfl] at H; exact H
           clear H
           have H := z84_
           clear z84_
           have H' := Aside0.mk H
           clear H
         rotate_left
         focus
           replace z90_ := Bool.eq_false_iff.mpr z90_
           subst z90_
           have z84_ : (spec_l33Mesh.l0 z58_ (wrap64 (z49_ + 1)) s0_0 z86_ z87_ z52_ z53_ z54_) = some (r1, r2, r3, r4, r5) := by rw [if_neg (show ¬ (false = true) by decide)] at H; exact H
           clear H
           have H := z84_
           clear z84_
           have H' := Aside0.mk H
           clear H
     rotate_left 3
     focus
       rw [if_neg z64_] at H
       have z65_ : decide (z49_ < z59_) = false := decide_eq_false z64_
       clear z64_
       simp only [Option.some.injEq, Prod.mk.injEq] at H
       obtain ⟨rfl, rfl, rfl, rfl, rfl⟩ := H
     all_goals first
       | skip
         try go_wp2_with (first | ((with_reducible refine gate_callee (f := 72) rfl ?_); refine goesL_ (some 12) rfl rfl Try.func72 (by kernel_rfl) rfl #[.pointer (some ⟨g, 0, none⟩), .int .i64 5] rfl (by (try simp only [List.map_toArray, List.map_cons, List.map_nil]); first | done | rfl | (simp only [List.length_drop, List.length_take]; rfl)) ?_; (with_reducible refine (spec_l01Below.calls _ _ _ _ _ _ _ _ w0 _ ?side1 ?side2 z63_.out).mono ?_); (case side1 => repeat (first | (with_reducible first | exact z3_.out | apply IsS124.alloc | apply IsS124.drewN | apply IsS124.drew | apply IsS124.set_1 | apply IsS124.set_2 | refine IsS124.far ?_ z24_.out _ | refine IsS124.far ?_ z37_.out _) | exact z3_.out)); (case side2 => repeat (first | (with_reducible first | exact HB.out | apply below_alloc | apply pw_below_drewN | apply below_drew1 | refine below_set ?_ (IsS124.ge z3_.out) | refine below_set ?_ z23_.out | refine below_set ?_ z34_.out) | exact HB.out)); rintro e y1_ ⟨rfl, hi, hb, hk⟩; refine ⟨_, rfl, ?_⟩; have z13_ := Aside0.mk (Kd.R_mono (Kd.R_keep (IsS124.apart (show IsS124 w0 _ g s0_0 z50_ z51_ from by repeat (first | (with_reducible first | exact z3_.out | apply IsS124.alloc | apply IsS124.drewN | apply IsS124.drew | apply IsS124.set_1 | apply IsS124.set_2 | refine IsS124.far ?_ z24_.out _ | refine IsS124.far ?_ z37_.out _) | exact z3_.out)) (by (with_reducible repeat (first | apply Kd.R_alloc | apply Kd.R_drewN | apply Kd.R_drew)); exact z57_.out) (by decide)) hk (fun _ h => h.2)) (fun _ h => h.1)); have z14_ := Aside0.mk (KeepBut.blk hk (g' := z11_) (o := .cells #[.int .i64 0, .int .i64 0, .slice none 0 0] 34 (0, 0)) (by (with_reducible repeat (first | refine blk_drewN ?_ _ | refine blk_drew ?_ | refine blk_alloc ?_ _)); exact z21_.out) z25_.out (by simp)); have z15_ := Aside0.mk (KeepBut.blk hk (g' := z27_) (o := .cells #[.int .i64 z52_, .int .i64 z53_, z55_] 34 (0, 0)) (by (with_reducible repeat (first | refine blk_drewN ?_ _ | refine blk_drew ?_ | refine blk_alloc ?_ _)); exact z32_.out) z38_.out (by simp)); have z16_ := Aside0.mk (KeepBut.trans (by repeat (first | (with_reducible first | exact HK.out | apply KeepBut.set_ | apply keep_drewN | apply keep_drew | apply keep_alloc | refine keep_far ?_ z22_.out _ | refine keep_far ?_ z33_.out _) | exact HK.out)) hk (.inl rfl)); have z17_ := Aside0.mk (hb); have z18_ := Aside0.mk (hi); clear z57_; clear z21_; clear z32_; clear HK; clear HB; clear z3_; have z57_ := z13_; have z21_ := z14_; have z32_ := z15_; have HK := z16_; have HB := z17_; have z3_ := z18_; clear z13_ z14_ z15_ z16_ z17_ z18_; (try clear hb); (try clear hb2); (try clear hk); (try clear hi); obtain ⟨y2_, y3_, y4_⟩ := Kd.R_slice z57_.out; subst y4_))
         have z13_ := Aside0.mk (Kd.R_drew z57_.out)
         have z14_ := Aside0.mk (blk_drew z21_.out)
         have z15_ := Aside0.mk (blk_drew z32_.out)
         have z16_ := Aside0.mk (IsS124.drew z3_.out)
         have z17_ := Aside0.mk (keep_drew HK.out)
         have z18_ := Aside0.mk (below_drew1 HB.out)
         clear z57_
         clear z21_
         clear z32_
         clear z3_
         clear HK
         clear HB
         have z57_ := z13_
         have z21_ := z14_
         have z32_ := z15_
         have z3_ := z16_
         have HK := z17_
         have HB := z18_
         clear z13_ z14_ z15_ z16_ z17_ z18_
         refine start_ (n := 14) (S := fun w' => w'.cell? ⟨z27_, 0, none⟩ = some (.int .i64 z52_) ∧ w'.cell? ⟨z27_, 1, none⟩ = some (.int .i64 z53_) ∧ w'.cell? ⟨z27_, 2, none⟩ = some (.slice y2_ z54_.length y3_)) (ds := []) #[false, false, false, false, false, false, false, false, false, false, false, false, false, false] (by kernel_rfl) rfl rfl ⟨(blk_cell z32_.out 0).trans rfl, (blk_cell z32_.out 1).trans rfl, (blk_cell z32_.out 2).trans rfl⟩ (fun hHeld => ?_); refine with_tabW spec_l33Mesh.tab5 spec_l33Mesh.bits5 (fun HT_ HW_ => ?_)
         generalize y1_.drew = y5_ at z57_ z21_ z32_ z3_ HK HB hHeld ⊢
         refine pure_ (i := 1) (N := some 18) (v := ?_) (a' := ?_) #[false, true, false, false, false, false, false, false, false, false, false, false, false, false] rfl rfl (any_of HT_.out (by kernel_rfl)) (fun _ _ _ h => h) (Or.inl ⟨by rfl, ?_⟩) ?_ ?_
         rotate_left
         · intro w'
           go_simp
           with_reducible rfl
         rotate_left
         · simp only [Act.put, List.setIfInBounds_toArray, List.set_cons_zero, List.set_cons_succ, i64_w, i32_w]
           rfl
         refine pure_ (i := 2) (N := some 19) (v := ?_) (a' := ?_) #[false, true, true, false, false, false, false, false, false, false, false, false, false, false] rfl rfl (any_of HT_.out (by kernel_rfl)) (fun _ _ _ h => h) (Or.inl ⟨by rfl, ?_⟩) ?_ ?_
         rotate_left
         · intro w'
           go_simp
           with_reducible rfl
         rotate_left
         · simp only [Act.put, List.setIfInBounds_toArray, List.set_cons_zero, List.set_cons_succ, i64_w, i32_w]
           rfl
         refine take_ (i := 0) (N := some 17) (v := ?_) (a' := ?_) #[true, true, true, false, false, false, false, false, false, false, false, false, false, false] rfl rfl (take_ofW HT_.out HW_.out (by kernel_rfl)) (fun _ _ _ h => h) (Or.inl ⟨by rfl, ?_⟩) hHeld ?_ ?_
         rotate_left
         · rintro w' ⟨y6_, y7_, y8_⟩
           go_simp
           with_reducible rfl
         rotate_left
         · simp only [Act.put, List.setIfInBounds_toArray, List.set_cons_zero, List.set_cons_succ, i64_w, i32_w]
           rfl
         refine take_ (i := 3) (N := some 20) (v := ?_) (a' := ?_) #[true, true, true, true, false, false, false, false, false, false, false, false, false, false] rfl rfl (take_ofW HT_.out HW_.out (by kernel_rfl)) (fun _ _ _ h => h) (Or.inl ⟨by rfl, ?_⟩) hHeld ?_ ?_
         rotate_left
         · rintro w' ⟨y6_, y7_, y8_⟩
           go_simp
           with_reducible rfl
         rotate_left
         · simp only [Act.put, List.setIfInBounds_toArray, List.set_cons_zero, List.set_cons_succ, i64_w, i32_w]
           rfl
         refine join_ (σ := Value × Nat) 2 #[true, true, true, true, true, true, true, true, true, true, true, true, false, false] (fun s_ => [(21, .int .i64 z66_), (23, .int .i64 z69_), (24, .tuple #[.agg #[.int .i64 z74_, .int .i64 z75_, s_.1], .bool z77_]), (5, .pointer (some ⟨s_.2, 0, none⟩)), (22, .int .i64 (wrap64 (4 * z66_))), (16, .tuple #[.agg #[.int .i64 z74_, .int .i64 z75_, s_.1], .bool z77_]), (25, .agg #[.int .i64 z74_, .int .i64 z75_, s_.1]), (26, .bool z77_)]) (fun s_ w' => (w'.cell? ⟨z27_, 0, none⟩ = some (.int .i64 z52_) ∧ w'.cell? ⟨z27_, 1, none⟩ = some (.int .i64 z53_) ∧ w'.cell? ⟨z27_, 2, none⟩ = some (.slice y2_ z54_.length y3_)) ∧ (Kd.R (Kd.int .i64) 3 w' w.heap.size (fun k_ => some k_ ≠ (.slice y2_ z54_.length y3_ : Value).ownBlock) s_.1 z76_) ∧ (Kd.R (Kd.int .i64) 3 w' w.heap.size (fun k_ => some k_ ≠ (s_.1 : Value).ownBlock) (.slice y2_ z54_.length y3_) z54_) ∧ (w'.heap[z11_]? = some (.cells #[.int .i64 0, .int .i64 0, .slice none 0 0] 34 (0, 0))) ∧ (w'.heap[z27_]? = some (.cells #[.int .i64 z52_, .int .i64 z53_, .slice y2_ z54_.length y3_] 34 (0, 0))) ∧ (w'.heap[s_.2]? = some (.cells #[.int .i64 0, .int .i64 0, .slice none 0 0] 34 (0, 0))) ∧ (w.heap.size ≤ s_.2) ∧ (w0.heap.size ≤ s_.2) ∧ (g ≠ s_.2) ∧ (s_.2 ≠ g) ∧ (z11_ ≠ s_.2) ∧ (s_.2 ≠ z11_) ∧ (z27_ ≠ s_.2) ∧ (s_.2 ≠ z27_) ∧ (IsS124 w0 w' g s0_0 z70_ z71_) ∧ (KeepBut w w' g none) ∧ (Below w0.heap.size w0 w')) ?_ ?_
         rotate_left
         · intro hCont
           refine two_ (i := 4) (j := 11) (Ni := some 21) (Nj := some 5) #[true, true, true, true, true, false, false, false, false, false, false, false, false, false] #[true, true, true, true, false, false, false, false, false, false, false, true, false, false] rfl rfl rfl rfl (two_of HT_.out (by kernel_rfl)) (by decide) (by decide) (fun K hK => ?_) (fun K hK => ?_)
           · skip
             refine goes_ Try.func87 (by kernel_rfl) rfl #[.agg #[.int .i64 z52_, .int .i64 z53_]] (by rfl) rfl rfl (by (try simp only [List.map_toArray, List.map_cons, List.map_nil]); first | done | rfl | (simp only [List.length_drop, List.length_take]; rfl)) ?_
             with_reducible refine (spec_NodeCount.calls _ _ _ _ z68_.out).mono ?_
             rintro e y9_ ⟨rfl, hb⟩
             refine ⟨_, rfl, ?_⟩
             have z13_ := Aside0.mk (Kd.R_below (by (with_reducible repeat (first | apply Kd.R_alloc | apply Kd.R_drewN | apply Kd.R_drew)); exact z57_.out) hb)
             have z14_ := Aside0.mk (blk_below (g := z11_) (o := .cells #[.int .i64 0, .int .i64 0, .slice none 0 0] 34 (0, 0)) (by (with_reducible repeat (first | refine blk_drewN ?_ _ | refine blk_drew ?_ | refine blk_alloc ?_ _)); exact z21_.out) hb)
             have z15_ := Aside0.mk (blk_below (g := z27_) (o := .cells #[.int .i64 z52_, .int .i64 z53_, .slice y2_ z54_.length y3_] 34 (0, 0)) (by (with_reducible repeat (first | refine blk_drewN ?_ _ | refine blk_drew ?_ | refine blk_alloc ?_ _)); exact z32_.out) hb)
             have z16_ := Aside0.mk (IsS124.below (by repeat (first | (with_reducible first | exact z3_.out | apply IsS124.alloc | apply IsS124.drewN | apply IsS124.drew | apply IsS124.set_1 | apply IsS124.set_2 | refine IsS124.far ?_ z24_.out _ | refine IsS124.far ?_ z37_.out _) | exact z3_.out)) hb)
             have z17_ := Aside0.mk (KeepBut.trans (by repeat (first | (with_reducible first | exact HK.out | apply KeepBut.set_ | apply keep_drewN | apply keep_drew | apply keep_alloc | refine keep_far ?_ z22_.out _ | refine keep_far ?_ z33_.out _) | exact HK.out)) (KeepBut.of_below hb g none) (.inl rfl))
             have z18_ := Aside0.mk (below_step (by repeat (first | (with_reducible first | exact HB.out | apply below_alloc | apply pw_below_drewN | apply below_drew1 | refine below_set ?_ (IsS124.ge z3_.out) | refine below_set ?_ z23_.out | refine below_set ?_ z34_.out) | exact HB.out)) hb)
             clear z57_
             clear z21_
             clear z32_
             clear z3_
             clear HK
             clear HB
             have z57_ := z13_
             have z21_ := z14_
             have z32_ := z15_
             have z3_ := z16_
             have HK := z17_
             have HB := z18_
             clear z13_ z14_ z15_ z16_ z17_ z18_
             (try clear hb)
             (try clear hb2)
             (try clear hk)
             (try clear hi)
             refine hK.out _ _ ⟨(blk_cell z32_.out 0).trans rfl, (blk_cell z32_.out 1).trans rfl, (blk_cell z32_.out 2).trans rfl⟩ (fun hHeld => ?_)
             clear hK K
             refine norm_ (a' := ?_) ?_ ?_
             rotate_left
             · show Act.put _ (some 21) _ = _
               simp only [Act.put, List.setIfInBounds_toArray, List.set_cons_zero, List.set_cons_succ, i64_w, i32_w]
               rfl
             refine pure_ (i := 5) (N := some 22) (v := ?_) (a' := ?_) #[true, true, true, true, true, true, false, false, false, false, false, false, false, false] rfl rfl (any_of HT_.out (by kernel_rfl)) (fun _ _ _ h => h) (Or.inl ⟨by rfl, ?_⟩) ?_ ?_
             rotate_left
             · intro w'
               go_simp
               with_reducible rfl
             rotate_left
             · simp only [Act.put, List.setIfInBounds_toArray, List.set_cons_zero, List.set_cons_succ, i64_w, i32_w]
               rfl
             refine two_ (i := 6) (j := 11) (Ni := some 23) (Nj := some 5) #[true, true, true, true, true, true, true, false, false, false, false, false, false, false] #[true, true, true, true, true, true, false, false, false, false, false, true, false, false] rfl rfl rfl rfl (two_of HT_.out (by kernel_rfl)) (by decide) (by decide) (fun K hK => ?_) (fun K hK => ?_)
             · skip
               refine goes_ Try.func72 (by kernel_rfl) rfl #[.pointer (some ⟨g, 0, none⟩), .int .i64 (wrap64 (4 * z66_))] (by rfl) rfl rfl (by (try simp only [List.map_toArray, List.map_cons, List.map_nil]); first | done | rfl | (simp only [List.length_drop, List.length_take]; rfl)) ?_
               with_reducible refine (spec_l01Below.calls _ _ _ _ _ _ _ _ w0 _ ?side1 ?side2 z73_.out).mono ?_
               (case side1 => repeat (first | (with_reducible first | exact z3_.out | apply IsS124.alloc | apply IsS124.drewN | apply IsS124.drew | apply IsS124.set_1 | apply IsS124.set_2 | refine IsS124.far ?_ z24_.out _ | refine IsS124.far ?_ z37_.out _) | exact z3_.out))
               (case side2 => repeat (first | (with_reducible first | exact HB.out | apply below_alloc | apply pw_below_drewN | apply below_drew1 | refine below_set ?_ (IsS124.ge z3_.out) | refine below_set ?_ z23_.out | refine below_set ?_ z34_.out) | exact HB.out))
               rintro e y10_ ⟨rfl, hi, hb, hk⟩
               refine ⟨_, rfl, ?_⟩
               have z13_ := Aside0.mk (Kd.R_mono (Kd.R_keep (IsS124.apart (show IsS124 w0 _ g s0_0 z60_ z61_ from by repeat (first | (with_reducible first | exact z3_.out | apply IsS124.alloc | apply IsS124.drewN | apply IsS124.drew | apply IsS124.set_1 | apply IsS124.set_2 | refine IsS124.far ?_ z24_.out _ | refine IsS124.far ?_ z37_.out _) | exact z3_.out)) (by (with_reducible repeat (first | apply Kd.R_alloc | apply Kd.R_drewN | apply Kd.R_drew)); exact z57_.out) (by decide)) hk (fun _ h => h.2)) (fun _ h => h.1))
               have z14_ := Aside0.mk (KeepBut.blk hk (g' := z11_) (o := .cells #[.int .i64 0, .int .i64 0, .slice none 0 0] 34 (0, 0)) (by (with_reducible repeat (first | refine blk_drewN ?_ _ | refine blk_drew ?_ | refine blk_alloc ?_ _)); exact z21_.out) z25_.out (by simp))
               have z15_ := Aside0.mk (KeepBut.blk hk (g' := z27_) (o := .cells #[.int .i64 z52_, .int .i64 z53_, .slice y2_ z54_.length y3_] 34 (0, 0)) (by (with_reducible repeat (first | refine blk_drewN ?_ _ | refine blk_drew ?_ | refine blk_alloc ?_ _)); exact z32_.out) z38_.out (by simp))
               have z16_ := Aside0.mk (KeepBut.trans (by repeat (first | (with_reducible first | exact HK.out | apply KeepBut.set_ | apply keep_drewN | apply keep_drew | apply keep_alloc | refine keep_far ?_ z22_.out _ | refine keep_far ?_ z33_.out _) | exact HK.out)) hk (.inl rfl))
               have z17_ := Aside0.mk (hb)
               have z18_ := Aside0.mk (hi)
               clear z57_
               clear z21_
               clear z32_
               clear HK
               clear HB
               clear z3_
               have z57_ := z13_
               have z21_ := z14_
               have z32_ := z15_
               have HK := z16_
               have HB := z17_
               have z3_ := z18_
               clear z13_ z14_ z15_ z16_ z17_ z18_
               (try clear hb)
               (try clear hb2)
               (try clear hk)
               (try clear hi)
               refine hK.out _ _ ⟨(blk_cell z32_.out 0).trans rfl, (blk_cell z32_.out 1).trans rfl, (blk_cell z32_.out 2).trans rfl⟩ (fun hHeld => ?_)
               clear hK K
               refine norm_ (a' := ?_) ?_ ?_
               rotate_left
               · show Act.put _ (some 23) _ = _
                 simp only [Act.put, List.setIfInBounds_toArray, List.set_cons_zero, List.set_cons_succ, i64_w, i32_w]
                 rfl
               refine two_ (i := 7) (j := 11) (Ni := some 24) (Nj := some 5) #[true, true, true, true, true, true, true, true, false, false, false, false, false, false] #[true, true, true, true, true, true, true, false, false, false, false, true, false, false] rfl rfl rfl rfl (two_of HT_.out (by kernel_rfl)) (by decide) (by decide) (fun K hK => ?_) (fun K hK => ?_)
               · skip
                 refine goes_ Try.func124 (by kernel_rfl) rfl #[.agg #[.int .i64 z52_, .int .i64 z53_, .slice y2_ z54_.length y3_], .int .i64 z69_] (by rfl) rfl rfl (by (try simp only [List.map_toArray, List.map_cons, List.map_nil]); first | done | rfl | (simp only [List.length_drop, List.length_take]; rfl)) ?_
                 with_reducible refine (spec_WithBroken.calls _ _ _ _ _ _ _ _ _ _ _ _ ?side1 ?side2 z79_.out).mono ?_
                 (case side1 => repeat (first | exact (Kd.R_reads' z57_.out).2.2 | (with_reducible refine Kd.C_alloc ?_ _) | (with_reducible refine Kd.C_drewN ?_ _) | (with_reducible refine Kd.C_drew ?_)))
                 (case side2 => exact (Kd.R_reads' z57_.out).2.1)
                 rintro e y11_ ⟨y12_, rfl, y13_, hb⟩
                 refine ⟨_, rfl, ?_⟩
                 have z13_ := Aside0.mk (Kd.R_elder' (by (with_reducible repeat (first | apply Kd.R_alloc | apply Kd.R_drewN | apply Kd.R_drew)); exact z57_.out) (Kd.R_base y13_) hb)
                 have z14_ := Aside0.mk (Kd.R_lower (Kd.R_new' y13_ (Kd.R_lt (by (with_reducible repeat (first | apply Kd.R_alloc | apply Kd.R_drewN | apply Kd.R_drew)); exact z57_.out))) (keep_size (w := w) (g := g) (row := none) (by repeat (first | (with_reducible first | exact HK.out | apply KeepBut.set_ | apply keep_drewN | apply keep_drew | apply keep_alloc | refine keep_far ?_ z22_.out _ | refine keep_far ?_ z33_.out _) | exact HK.out))))
                 have z15_ := Aside0.mk (blk_below (g := z11_) (o := .cells #[.int .i64 0, .int .i64 0, .slice none 0 0] 34 (0, 0)) (by (with_reducible repeat (first | refine blk_drewN ?_ _ | refine blk_drew ?_ | refine blk_alloc ?_ _)); exact z21_.out) hb)
                 have z16_ := Aside0.mk (blk_below (g := z27_) (o := .cells #[.int .i64 z52_, .int .i64 z53_, .slice y2_ z54_.length y3_] 34 (0, 0)) (by (with_reducible repeat (first | refine blk_drewN ?_ _ | refine blk_drew ?_ | refine blk_alloc ?_ _)); exact z32_.out) hb)
                 have z17_ := Aside0.mk (IsS124.below (by repeat (first | (with_reducible first | exact z3_.out | apply IsS124.alloc | apply IsS124.drewN | apply IsS124.drew | apply IsS124.set_1 | apply IsS124.set_2 | refine IsS124.far ?_ z24_.out _ | refine IsS124.far ?_ z37_.out _) | exact z3_.out)) hb)
                 have z18_ := Aside0.mk (KeepBut.trans (by repeat (first | (with_reducible first | exact HK.out | apply KeepBut.set_ | apply keep_drewN | apply keep_drew | apply keep_alloc | refine keep_far ?_ z22_.out _ | refine keep_far ?_ z33_.out _) | exact HK.out)) (KeepBut.of_below hb g none) (.inl rfl))
                 have z19_ := Aside0.mk (below_step (by repeat (first | (with_reducible first | exact HB.out | apply below_alloc | apply pw_below_drewN | apply below_drew1 | refine below_set ?_ (IsS124.ge z3_.out) | refine below_set ?_ z23_.out | refine below_set ?_ z34_.out) | exact HB.out)) hb)
                 clear z57_
                 clear z21_
                 clear z32_
                 clear z3_
                 clear HK
                 clear HB
                 have z57_ := z13_
                 have y14_ := z14_
                 have z21_ := z15_
                 have z32_ := z16_
                 have z3_ := z17_
                 have HK := z18_
                 have HB := z19_
                 clear z13_ z14_ z15_ z16_ z17_ z18_ z19_
                 (try clear hb)
                 (try clear hb2)
                 (try clear hk)
                 (try clear hi)
                 (try clear y13_)
                 refine hK.out _ _ ⟨(blk_cell z32_.out 0).trans rfl, (blk_cell z32_.out 1).trans rfl, (blk_cell z32_.out 2).trans rfl⟩ (fun hHeld => ?_)
                 clear hK K
                 refine norm_ (a' := ?_) ?_ ?_
                 rotate_left
                 · show Act.put _ (some 24) _ = _
                   simp only [Act.put, List.setIfInBounds_toArray, List.set_cons_zero, List.set_cons_succ, i64_w, i32_w]
                   rfl
                 refine pure_ (i := 8) (N := some 16) (v := ?_) (a' := ?_) #[true, true, true, true, true, true, true, true, true, false, false, false, false, false] rfl rfl (any_of HT_.out (by kernel_rfl)) (fun _ _ _ h => h) (Or.inl ⟨by rfl, ?_⟩) ?_ ?_
                 rotate_left
                 · intro w'
                   go_simp
                   with_reducible rfl
                 rotate_left
                 · simp only [Act.put, List.setIfInBounds_toArray, List.set_cons_zero, List.set_cons_succ, i64_w, i32_w]
                   rfl
                 refine pure_ (i := 9) (N := some 25) (v := ?_) (a' := ?_) #[true, true, true, true, true, true, true, true, true, true, false, false, false, false] rfl rfl (any_of HT_.out (by kernel_rfl)) (fun _ _ _ h => h) (Or.inl ⟨by rfl, ?_⟩) ?_ ?_
                 rotate_left
                 · intro w'
                   go_simp
                   with_reducible rfl
                 rotate_left
                 · simp only [Act.put, List.setIfInBounds_toArray, List.set_cons_zero, List.set_cons_succ, i64_w, i32_w]
                   rfl
                 refine pure_ (i := 10) (N := some 26) (v := ?_) (a' := ?_) #[true, true, true, true, true, true, true, true, true, true, true, false, false, false] rfl rfl (any_of HT_.out (by kernel_rfl)) (fun _ _ _ h => h) (Or.inl ⟨by rfl, ?_⟩) ?_ ?_
                 rotate_left
                 · intro w'
                   go_simp
                   with_reducible rfl
                 rotate_left
                 · simp only [Act.put, List.setIfInBounds_toArray, List.set_cons_zero, List.set_cons_succ, i64_w, i32_w]
                   rfl
                 refine one_ (i := 11) (N := some 5) #[true, true, true, true, true, true, true, true, true, true, true, true, false, false] rfl rfl (one_of HT_.out (by kernel_rfl)) (by decide) (fun K hK => ?_)
                 refine box_step ?hg (N := 5) ?hd (cs := #[.int .i64 0, .int .i64 0, .slice none 0 0]) (t := 34) ?hr ?_; (case hd => rfl); (case hg => rfl); (case hr => first | (go_simp; done) | (go_simp; rfl))
                 intro y15_ hg y16_ hbox hb
                 have z13_ := Aside0.mk (Kd.R_below (by (with_reducible repeat (first | apply Kd.R_alloc | apply Kd.R_drewN | apply Kd.R_drew)); exact z57_.out) hb)
                 have z14_ := Aside0.mk (Kd.R_below (by (with_reducible repeat (first | apply Kd.R_alloc | apply Kd.R_drewN | apply Kd.R_drew)); exact y14_.out) hb)
                 have z15_ := Aside0.mk (blk_below (g := z11_) (o := .cells #[.int .i64 0, .int .i64 0, .slice none 0 0] 34 (0, 0)) (by (with_reducible repeat (first | refine blk_drewN ?_ _ | refine blk_drew ?_ | refine blk_alloc ?_ _)); exact z21_.out) hb)
                 have z16_ := Aside0.mk (blk_below (g := z27_) (o := .cells #[.int .i64 z52_, .int .i64 z53_, .slice y2_ z54_.length y3_] 34 (0, 0)) (by (with_reducible repeat (first | refine blk_drewN ?_ _ | refine blk_drew ?_ | refine blk_alloc ?_ _)); exact z32_.out) hb)
                 have z17_ := Aside0.mk (IsS124.below (by repeat (first | (with_reducible first | exact z3_.out | apply IsS124.alloc | apply IsS124.drewN | apply IsS124.drew | apply IsS124.set_1 | apply IsS124.set_2 | refine IsS124.far ?_ z24_.out _ | refine IsS124.far ?_ z37_.out _) | exact z3_.out)) hb)
                 have z18_ := Aside0.mk (KeepBut.trans (by repeat (first | (with_reducible first | exact HK.out | apply KeepBut.set_ | apply keep_drewN | apply keep_drew | apply keep_alloc | refine keep_far ?_ z22_.out _ | refine keep_far ?_ z33_.out _) | exact HK.out)) (KeepBut.of_below hb g none) (.inl rfl))
                 have z19_ := Aside0.mk (below_step (by repeat (first | (with_reducible first | exact HB.out | apply below_alloc | apply pw_below_drewN | apply below_drew1 | refine below_set ?_ (IsS124.ge z3_.out) | refine below_set ?_ z23_.out | refine below_set ?_ z34_.out) | exact HB.out)) hb)
                 have z20_ := Aside0.mk (hbox)
                 have z29_ := Aside0.mk ((by rw [hg]; exact (keep_size (w := w) (g := g) (row := none) (by repeat (first | (with_reducible first | exact HK.out | apply KeepBut.set_ | apply keep_drewN | apply keep_drew | apply keep_alloc | refine keep_far ?_ z22_.out _ | refine keep_far ?_ z33_.out _) | exact HK.out))) : w.heap.size ≤ y15_))
                 have z30_ := Aside0.mk ((Nat.le_trans z4_.out (by rw [hg]; exact (keep_size (w := w) (g := g) (row := none) (by repeat (first | (with_reducible first | exact HK.out | apply KeepBut.set_ | apply keep_drewN | apply keep_drew | apply keep_alloc | refine keep_far ?_ z22_.out _ | refine keep_far ?_ z33_.out _) | exact HK.out))) : w.heap.size ≤ y15_) : w0.heap.size ≤ y15_))
                 have z31_ := Aside0.mk ((by rw [hg]; exact Nat.ne_of_lt (blk_lt (g := z11_) (o := .cells #[.int .i64 0, .int .i64 0, .slice none 0 0] 34 (0, 0)) (by (with_reducible repeat (first | refine blk_drewN ?_ _ | refine blk_drew ?_ | refine blk_alloc ?_ _)); exact z21_.out)) : z11_ ≠ y15_))
                 have y17_ := Aside0.mk ((by rw [hg]; exact Nat.ne_of_gt (blk_lt (g := z11_) (o := .cells #[.int .i64 0, .int .i64 0, .slice none 0 0] 34 (0, 0)) (by (with_reducible repeat (first | refine blk_drewN ?_ _ | refine blk_drew ?_ | refine blk_alloc ?_ _)); exact z21_.out)) : y15_ ≠ z11_))
                 have y18_ := Aside0.mk ((by rw [hg]; exact Nat.ne_of_lt (blk_lt (g := z27_) (o := .cells #[.int .i64 z52_, .int .i64 z53_, .slice y2_ z54_.length y3_] 34 (0, 0)) (by (with_reducible repeat (first | refine blk_drewN ?_ _ | refine blk_drew ?_ | refine blk_alloc ?_ _)); exact z32_.out)) : z27_ ≠ y15_))
                 have y19_ := Aside0.mk ((by rw [hg]; exact Nat.ne_of_gt (blk_lt (g := z27_) (o := .cells #[.int .i64 z52_, .int .i64 z53_, .slice y2_ z54_.length y3_] 34 (0, 0)) (by (with_reducible repeat (first | refine blk_drewN ?_ _ | refine blk_drew ?_ | refine blk_alloc ?_ _)); exact z32_.out)) : y15_ ≠ z27_))
                 have y20_ := Aside0.mk ((by rw [hg]; exact Nat.ne_of_lt (IsS124.lt (show IsS124 w0 _ g s0_0 z70_ z71_ from by repeat (first | (with_reducible first | exact z3_.out | apply IsS124.alloc | apply IsS124.drewN | apply IsS124.drew | apply IsS124.set_1 | apply IsS124.set_2 | refine IsS124.far ?_ z24_.out _ | refine IsS124.far ?_ z37_.out _) | exact z3_.out))) : g ≠ y15_))
                 have y21_ := Aside0.mk ((by rw [hg]; exact Nat.ne_of_gt (IsS124.lt (show IsS124 w0 _ g s0_0 z70_ z71_ from by repeat (first | (with_reducible first | exact z3_.out | apply IsS124.alloc | apply IsS124.drewN | apply IsS124.drew | apply IsS124.set_1 | apply IsS124.set_2 | refine IsS124.far ?_ z24_.out _ | refine IsS124.far ?_ z37_.out _) | exact z3_.out))) : y15_ ≠ g))
                 clear z57_
                 clear y14_
                 clear z21_
                 clear z32_
                 clear z3_
                 clear HK
                 clear HB
                 have z57_ := z13_
                 have y14_ := z14_
                 have z21_ := z15_
                 have z32_ := z16_
                 have z3_ := z17_
                 have HK := z18_
                 have HB := z19_
                 have y22_ := z20_
                 have y23_ := z29_
                 have y24_ := z30_
                 have y25_ := z31_
                 have y26_ := y17_
                 have y27_ := y18_
                 have y28_ := y19_
                 have y29_ := y20_
                 have y30_ := y21_
                 clear z13_ z14_ z15_ z16_ z17_ z18_ z19_ z20_ z29_ z30_ z31_ y17_ y18_ y19_ y20_ y21_
                 clear hb hbox hg
                 refine hK.out _ _ ⟨(blk_cell z32_.out 0).trans rfl, (blk_cell z32_.out 1).trans rfl, (blk_cell z32_.out 2).trans rfl⟩ (fun hHeld => ?_)
                 clear hK K
                 refine norm_ (a' := ?_) ?_ ?_
                 rotate_left
                 · show Act.put _ (some 5) _ = _
                   simp only [Act.put, List.setIfInBounds_toArray, List.set_cons_zero, List.set_cons_succ, i64_w, i32_w]
                   rfl
                 exact norm_ (by simp only [putAll, Act.put, List.setIfInBounds_toArray, List.set_cons_zero, List.set_cons_succ]) (hCont (y12_, y15_) _ ⟨hHeld, (by (with_reducible repeat (first | apply Kd.R_alloc | apply Kd.R_drewN | apply Kd.R_drew)); exact Kd.R_mono y14_.out (fun _ hk => hk.2)), (by (with_reducible repeat (first | apply Kd.R_alloc | apply Kd.R_drewN | apply Kd.R_drew)); exact Kd.R_mono z57_.out (fun _ hk => hk.2)), (by (with_reducible repeat (first | refine blk_drewN ?_ _ | refine blk_drew ?_ | refine blk_alloc ?_ _)); exact z21_.out), (by (with_reducible repeat (first | refine blk_drewN ?_ _ | refine blk_drew ?_ | refine blk_alloc ?_ _)); exact z32_.out), (by (with_reducible repeat (first | refine blk_drewN ?_ _ | refine blk_drew ?_ | refine blk_alloc ?_ _)); exact y22_.out), y23_.out, y24_.out, y29_.out, y30_.out, y25_.out, y26_.out, y27_.out, y28_.out, (by repeat (first | (with_reducible first | exact z3_.out | apply IsS124.alloc | apply IsS124.drewN | apply IsS124.drew | apply IsS124.set_1 | apply IsS124.set_2 | refine IsS124.far ?_ z24_.out _ | refine IsS124.far ?_ z37_.out _ | refine IsS124.far ?_ y29_.out _) | exact z3_.out)), (by repeat (first | (with_reducible first | exact HK.out | apply KeepBut.set_ | apply keep_drewN | apply keep_drew | apply keep_alloc | refine keep_far ?_ z22_.out _ | refine keep_far ?_ z33_.out _ | refine keep_far ?_ y23_.out _) | exact HK.out)), (by repeat (first | (with_reducible first | exact HB.out | apply below_alloc | apply pw_below_drewN | apply below_drew1 | refine below_set ?_ (IsS124.ge z3_.out) | refine below_set ?_ z23_.out | refine below_set ?_ z34_.out | refine below_set ?_ y24_.out) | exact HB.out))⟩)
               · skip
                 refine box_step ?hg (N := 5) ?hd (cs := #[.int .i64 0, .int .i64 0, .slice none 0 0]) (t := 34) ?hr ?_; (case hd => rfl); (case hg => rfl); (case hr => first | (go_simp; done) | (go_simp; rfl))
                 intro y15_ hg y11_ hbox hb
                 have z13_ := Aside0.mk (Kd.R_below (by (with_reducible repeat (first | apply Kd.R_alloc | apply Kd.R_drewN | apply Kd.R_drew)); exact z57_.out) hb)
                 have z14_ := Aside0.mk (blk_below (g := z11_) (o := .cells #[.int .i64 0, .int .i64 0, .slice none 0 0] 34 (0, 0)) (by (with_reducible repeat (first | refine blk_drewN ?_ _ | refine blk_drew ?_ | refine blk_alloc ?_ _)); exact z21_.out) hb)
                 have z15_ := Aside0.mk (blk_below (g := z27_) (o := .cells #[.int .i64 z52_, .int .i64 z53_, .slice y2_ z54_.length y3_] 34 (0, 0)) (by (with_reducible repeat (first | refine blk_drewN ?_ _ | refine blk_drew ?_ | refine blk_alloc ?_ _)); exact z32_.out) hb)
                 have z16_ := Aside0.mk (IsS124.below (by repeat (first | (with_reducible first | exact z3_.out | apply IsS124.alloc | apply IsS124.drewN | apply IsS124.drew | apply IsS124.set_1 | apply IsS124.set_2 | refine IsS124.far ?_ z24_.out _ | refine IsS124.far ?_ z37_.out _) | exact z3_.out)) hb)
                 have z17_ := Aside0.mk (KeepBut.trans (by repeat (first | (with_reducible first | exact HK.out | apply KeepBut.set_ | apply keep_drewN | apply keep_drew | apply keep_alloc | refine keep_far ?_ z22_.out _ | refine keep_far ?_ z33_.out _) | exact HK.out)) (KeepBut.of_below hb g none) (.inl rfl))
                 have z18_ := Aside0.mk (below_step (by repeat (first | (with_reducible first | exact HB.out | apply below_alloc | apply pw_below_drewN | apply below_drew1 | refine below_set ?_ (IsS124.ge z3_.out) | refine below_set ?_ z23_.out | refine below_set ?_ z34_.out) | exact HB.out)) hb)
                 have z19_ := Aside0.mk (hbox)
                 have z20_ := Aside0.mk ((by rw [hg]; exact (keep_size (w := w) (g := g) (row := none) (by repeat (first | (with_reducible first | exact HK.out | apply KeepBut.set_ | apply keep_drewN | apply keep_drew | apply keep_alloc | refine keep_far ?_ z22_.out _ | refine keep_far ?_ z33_.out _) | exact HK.out))) : w.heap.size ≤ y15_))
                 have z29_ := Aside0.mk ((Nat.le_trans z4_.out (by rw [hg]; exact (keep_size (w := w) (g := g) (row := none) (by repeat (first | (with_reducible first | exact HK.out | apply KeepBut.set_ | apply keep_drewN | apply keep_drew | apply keep_alloc | refine keep_far ?_ z22_.out _ | refine keep_far ?_ z33_.out _) | exact HK.out))) : w.heap.size ≤ y15_) : w0.heap.size ≤ y15_))
                 have z30_ := Aside0.mk ((by rw [hg]; exact Nat.ne_of_lt (blk_lt (g := z11_) (o := .cells #[.int .i64 0, .int .i64 0, .slice none 0 0] 34 (0, 0)) (by (with_reducible repeat (first | refine blk_drewN ?_ _ | refine blk_drew ?_ | refine blk_alloc ?_ _)); exact z21_.out)) : z11_ ≠ y15_))
                 have z31_ := Aside0.mk ((by rw [hg]; exact Nat.ne_of_gt (blk_lt (g := z11_) (o := .cells #[.int .i64 0, .int .i64 0, .slice none 0 0] 34 (0, 0)) (by (with_reducible repeat (first | refine blk_drewN ?_ _ | refine blk_drew ?_ | refine blk_alloc ?_ _)); exact z21_.out)) : y15_ ≠ z11_))
                 have y17_ := Aside0.mk ((by rw [hg]; exact Nat.ne_of_lt (blk_lt (g := z27_) (o := .cells #[.int .i64 z52_, .int .i64 z53_, .slice y2_ z54_.length y3_] 34 (0, 0)) (by (with_reducible repeat (first | refine blk_drewN ?_ _ | refine blk_drew ?_ | refine blk_alloc ?_ _)); exact z32_.out)) : z27_ ≠ y15_))
                 have y18_ := Aside0.mk ((by rw [hg]; exact Nat.ne_of_gt (blk_lt (g := z27_) (o := .cells #[.int .i64 z52_, .int .i64 z53_, .slice y2_ z54_.length y3_] 34 (0, 0)) (by (with_reducible repeat (first | refine blk_drewN ?_ _ | refine blk_drew ?_ | refine blk_alloc ?_ _)); exact z32_.out)) : y15_ ≠ z27_))
                 have y19_ := Aside0.mk ((by rw [hg]; exact Nat.ne_of_lt (IsS124.lt (show IsS124 w0 _ g s0_0 z70_ z71_ from by repeat (first | (with_reducible first | exact z3_.out | apply IsS124.alloc | apply IsS124.drewN | apply IsS124.drew | apply IsS124.set_1 | apply IsS124.set_2 | refine IsS124.far ?_ z24_.out _ | refine IsS124.far ?_ z37_.out _) | exact z3_.out))) : g ≠ y15_))
                 have y20_ := Aside0.mk ((by rw [hg]; exact Nat.ne_of_gt (IsS124.lt (show IsS124 w0 _ g s0_0 z70_ z71_ from by repeat (first | (with_reducible first | exact z3_.out | apply IsS124.alloc | apply IsS124.drewN | apply IsS124.drew | apply IsS124.set_1 | apply IsS124.set_2 | refine IsS124.far ?_ z24_.out _ | refine IsS124.far ?_ z37_.out _) | exact z3_.out))) : y15_ ≠ g))
                 clear z57_
                 clear z21_
                 clear z32_
                 clear z3_
                 clear HK
                 clear HB
                 have z57_ := z13_
                 have z21_ := z14_
                 have z32_ := z15_
                 have z3_ := z16_
                 have HK := z17_
                 have HB := z18_
                 have y22_ := z19_
                 have y23_ := z20_
                 have y24_ := z29_
                 have y25_ := z30_
                 have y26_ := z31_
                 have y27_ := y17_
                 have y28_ := y18_
                 have y29_ := y19_
                 have y30_ := y20_
                 clear z13_ z14_ z15_ z16_ z17_ z18_ z19_ z20_ z29_ z30_ z31_ y17_ y18_ y19_ y20_
                 clear hb hbox hg
                 refine hK.out _ _ ⟨(blk_cell z32_.out 0).trans rfl, (blk_cell z32_.out 1).trans rfl, (blk_cell z32_.out 2).trans rfl⟩ (fun hHeld => ?_)
                 clear hK K
                 refine norm_ (a' := ?_) ?_ ?_
                 rotate_left
                 · show Act.put _ (some 5) _ = _
                   simp only [Act.put, List.setIfInBounds_toArray, List.set_cons_zero, List.set_cons_succ, i64_w, i32_w]
                   rfl
                 refine one_ (i := 7) (N := some 24) #[true, true, true, true, true, true, true, true, false, false, false, true, false, false] rfl rfl (one_of HT_.out (by kernel_rfl)) (by decide) (fun K hK => ?_)
                 refine goes_ Try.func124 (by kernel_rfl) rfl #[.agg #[.int .i64 z52_, .int .i64 z53_, .slice y2_ z54_.length y3_], .int .i64 z69_] (by rfl) rfl rfl (by (try simp only [List.map_toArray, List.map_cons, List.map_nil]); first | done | rfl | (simp only [List.length_drop, List.length_take]; rfl)) ?_
                 with_reducible refine (spec_WithBroken.calls _ _ _ _ _ _ _ _ _ _ _ _ ?side1 ?side2 z79_.out).mono ?_
                 (case side1 => repeat (first | exact (Kd.R_reads' z57_.out).2.2 | (with_reducible refine Kd.C_alloc ?_ _) | (with_reducible refine Kd.C_drewN ?_ _) | (with_reducible refine Kd.C_drew ?_)))
                 (case side2 => exact (Kd.R_reads' z57_.out).2.1)
                 rintro e y16_ ⟨y12_, rfl, y13_, hb⟩
                 refine ⟨_, rfl, ?_⟩
                 have z13_ := Aside0.mk (Kd.R_elder' (by (with_reducible repeat (first | apply Kd.R_alloc | apply Kd.R_drewN | apply Kd.R_drew)); exact z57_.out) (Kd.R_base y13_) hb)
                 have z14_ := Aside0.mk (Kd.R_lower (Kd.R_new' y13_ (Kd.R_lt (by (with_reducible repeat (first | apply Kd.R_alloc | apply Kd.R_drewN | apply Kd.R_drew)); exact z57_.out))) (keep_size (w := w) (g := g) (row := none) (by repeat (first | (with_reducible first | exact HK.out | apply KeepBut.set_ | apply keep_drewN | apply keep_drew | apply keep_alloc | refine keep_far ?_ z22_.out _ | refine keep_far ?_ z33_.out _ | refine keep_far ?_ y23_.out _) | exact HK.out))))
                 have z15_ := Aside0.mk (blk_below (g := z11_) (o := .cells #[.int .i64 0, .int .i64 0, .slice none 0 0] 34 (0, 0)) (by (with_reducible repeat (first | refine blk_drewN ?_ _ | refine blk_drew ?_ | refine blk_alloc ?_ _)); exact z21_.out) hb)
                 have z16_ := Aside0.mk (blk_below (g := z27_) (o := .cells #[.int .i64 z52_, .int .i64 z53_, .slice y2_ z54_.length y3_] 34 (0, 0)) (by (with_reducible repeat (first | refine blk_drewN ?_ _ | refine blk_drew ?_ | refine blk_alloc ?_ _)); exact z32_.out) hb)
                 have z17_ := Aside0.mk (IsS124.below (by repeat (first | (with_reducible first | exact z3_.out | apply IsS124.alloc | apply IsS124.drewN | apply IsS124.drew | apply IsS124.set_1 | apply IsS124.set_2 | refine IsS124.far ?_ z24_.out _ | refine IsS124.far ?_ z37_.out _ | refine IsS124.far ?_ y29_.out _) | exact z3_.out)) hb)
                 have z18_ := Aside0.mk (blk_below (g := y15_) (o := .cells #[.int .i64 0, .int .i64 0, .slice none 0 0] 34 (0, 0)) (by (with_reducible repeat (first | refine blk_drewN ?_ _ | refine blk_drew ?_ | refine blk_alloc ?_ _)); exact y22_.out) hb)
                 have z19_ := Aside0.mk (KeepBut.trans (by repeat (first | (with_reducible first | exact HK.out | apply KeepBut.set_ | apply keep_drewN | apply keep_drew | apply keep_alloc | refine keep_far ?_ z22_.out _ | refine keep_far ?_ z33_.out _ | refine keep_far ?_ y23_.out _) | exact HK.out)) (KeepBut.of_below hb g none) (.inl rfl))
                 have z20_ := Aside0.mk (below_step (by repeat (first | (with_reducible first | exact HB.out | apply below_alloc | apply pw_below_drewN | apply below_drew1 | refine below_set ?_ (IsS124.ge z3_.out) | refine below_set ?_ z23_.out | refine below_set ?_ z34_.out | refine below_set ?_ y24_.out) | exact HB.out)) hb)
                 clear z57_
                 clear z21_
                 clear z32_
                 clear z3_
                 clear y22_
                 clear HK
                 clear HB
                 have z57_ := z13_
                 have y14_ := z14_
                 have z21_ := z15_
                 have z32_ := z16_
                 have z3_ := z17_
                 have y22_ := z18_
                 have HK := z19_
                 have HB := z20_
                 clear z13_ z14_ z15_ z16_ z17_ z18_ z19_ z20_
                 (try clear hb)
                 (try clear hb2)
                 (try clear hk)
                 (try clear hi)
                 (try clear y13_)
                 refine hK.out _ _ ⟨(blk_cell z32_.out 0).trans rfl, (blk_cell z32_.out 1).trans rfl, (blk_cell z32_.out 2).trans rfl⟩ (fun hHeld => ?_)
                 clear hK K
                 refine norm_ (a' := ?_) ?_ ?_
                 rotate_left
                 · show Act.put _ (some 24) _ = _
                   simp only [Act.put, List.setIfInBounds_toArray, List.set_cons_zero, List.set_cons_succ, i64_w, i32_w]
                   rfl
                 refine pure_ (i := 8) (N := some 16) (v := ?_) (a' := ?_) #[true, true, true, true, true, true, true, true, true, false, false, true, false, false] rfl rfl (any_of HT_.out (by kernel_rfl)) (fun _ _ _ h => h) (Or.inl ⟨by rfl, ?_⟩) ?_ ?_
                 rotate_left
                 · intro w'
                   go_simp
                   with_reducible rfl
                 rotate_left
                 · simp only [Act.put, List.setIfInBounds_toArray, List.set_cons_zero, List.set_cons_succ, i64_w, i32_w]
                   rfl
                 refine pure_ (i := 9) (N := some 25) (v := ?_) (a' := ?_) #[true, true, true, true, true, true, true, true, true, true, false, true, false, false] rfl rfl (any_of HT_.out (by kernel_rfl)) (fun _ _ _ h => h) (Or.inl ⟨by rfl, ?_⟩) ?_ ?_
                 rotate_left
                 · intro w'
                   go_simp
                   with_reducible rfl
                 rotate_left
                 · simp only [Act.put, List.setIfInBounds_toArray, List.set_cons_zero, List.set_cons_succ, i64_w, i32_w]
                   rfl
                 refine pure_ (i := 10) (N := some 26) (v := ?_) (a' := ?_) #[true, true, true, true, true, true, true, true, true, true, true, true, false, false] rfl rfl (any_of HT_.out (by kernel_rfl)) (fun _ _ _ h => h) (Or.inl ⟨by rfl, ?_⟩) ?_ ?_
                 rotate_left
                 · intro w'
                   go_simp
                   with_reducible rfl
                 rotate_left
                 · simp only [Act.put, List.setIfInBounds_toArray, List.set_cons_zero, List.set_cons_succ, i64_w, i32_w]
                   rfl
                 exact norm_ (by simp only [putAll, Act.put, List.setIfInBounds_toArray, List.set_cons_zero, List.set_cons_succ]) (hCont (y12_, y15_) _ ⟨hHeld, (by (with_reducible repeat (first | apply Kd.R_alloc | apply Kd.R_drewN | apply Kd.R_drew)); exact Kd.R_mono y14_.out (fun _ hk => hk.2)), (by (with_reducible repeat (first | apply Kd.R_alloc | apply Kd.R_drewN | apply Kd.R_drew)); exact Kd.R_mono z57_.out (fun _ hk => hk.2)), (by (with_reducible repeat (first | refine blk_drewN ?_ _ | refine blk_drew ?_ | refine blk_alloc ?_ _)); exact z21_.out), (by (with_reducible repeat (first | refine blk_drewN ?_ _ | refine blk_drew ?_ | refine blk_alloc ?_ _)); exact z32_.out), (by (with_reducible repeat (first | refine blk_drewN ?_ _ | refine blk_drew ?_ | refine blk_alloc ?_ _)); exact y22_.out), y23_.out, y24_.out, y29_.out, y30_.out, y25_.out, y26_.out, y27_.out, y28_.out, (by repeat (first | (with_reducible first | exact z3_.out | apply IsS124.alloc | apply IsS124.drewN | apply IsS124.drew | apply IsS124.set_1 | apply IsS124.set_2 | refine IsS124.far ?_ z24_.out _ | refine IsS124.far ?_ z37_.out _ | refine IsS124.far ?_ y29_.out _) | exact z3_.out)), (by repeat (first | (with_reducible first | exact HK.out | apply KeepBut.set_ | apply keep_drewN | apply keep_drew | apply keep_alloc | refine keep_far ?_ z22_.out _ | refine keep_far ?_ z33_.out _ | refine keep_far ?_ y23_.out _) | exact HK.out)), (by repeat (first | (with_reducible first | exact HB.out | apply below_alloc | apply pw_below_drewN | apply below_drew1 | refine below_set ?_ (IsS124.ge z3_.out) | refine below_set ?_ z23_.out | refine below_set ?_ z34_.out | refine below_set ?_ y24_.out) | exact HB.out))⟩)
             · skip
               refine box_step ?hg (N := 5) ?hd (cs := #[.int .i64 0, .int .i64 0, .slice none 0 0]) (t := 34) ?hr ?_; (case hd => rfl); (case hg => rfl); (case hr => first | (go_simp; done) | (go_simp; rfl))
               intro y15_ hg y10_ hbox hb
               have z13_ := Aside0.mk (Kd.R_below (by (with_reducible repeat (first | apply Kd.R_alloc | apply Kd.R_drewN | apply Kd.R_drew)); exact z57_.out) hb)
               have z14_ := Aside0.mk (blk_below (g := z11_) (o := .cells #[.int .i64 0, .int .i64 0, .slice none 0 0] 34 (0, 0)) (by (with_reducible repeat (first | refine blk_drewN ?_ _ | refine blk_drew ?_ | refine blk_alloc ?_ _)); exact z21_.out) hb)
               have z15_ := Aside0.mk (blk_below (g := z27_) (o := .cells #[.int .i64 z52_, .int .i64 z53_, .slice y2_ z54_.length y3_] 34 (0, 0)) (by (with_reducible repeat (first | refine blk_drewN ?_ _ | refine blk_drew ?_ | refine blk_alloc ?_ _)); exact z32_.out) hb)
               have z16_ := Aside0.mk (IsS124.below (by repeat (first | (with_reducible first | exact z3_.out | apply IsS124.alloc | apply IsS124.drewN | apply IsS124.drew | apply IsS124.set_1 | apply IsS124.set_2 | refine IsS124.far ?_ z24_.out _ | refine IsS124.far ?_ z37_.out _) | exact z3_.out)) hb)
               have z17_ := Aside0.mk (KeepBut.trans (by repeat (first | (with_reducible first | exact HK.out | apply KeepBut.set_ | apply keep_drewN | apply keep_drew | apply keep_alloc | refine keep_far ?_ z22_.out _ | refine keep_far ?_ z33_.out _) | exact HK.out)) (KeepBut.of_below hb g none) (.inl rfl))
               have z18_ := Aside0.mk (below_step (by repeat (first | (with_reducible first | exact HB.out | apply below_alloc | apply pw_below_drewN | apply below_drew1 | refine below_set ?_ (IsS124.ge z3_.out) | refine below_set ?_ z23_.out | refine below_set ?_ z34_.out) | exact HB.out)) hb)
               have z19_ := Aside0.mk (hbox)
               have z20_ := Aside0.mk ((by rw [hg]; exact (keep_size (w := w) (g := g) (row := none) (by repeat (first | (with_reducible first | exact HK.out | apply KeepBut.set_ | apply keep_drewN | apply keep_drew | apply keep_alloc | refine keep_far ?_ z22_.out _ | refine keep_far ?_ z33_.out _) | exact HK.out))) : w.heap.size ≤ y15_))
               have z29_ := Aside0.mk ((Nat.le_trans z4_.out (by rw [hg]; exact (keep_size (w := w) (g := g) (row := none) (by repeat (first | (with_reducible first | exact HK.out | apply KeepBut.set_ | apply keep_drewN | apply keep_drew | apply keep_alloc | refine keep_far ?_ z22_.out _ | refine keep_far ?_ z33_.out _) | exact HK.out))) : w.heap.size ≤ y15_) : w0.heap.size ≤ y15_))
               have z30_ := Aside0.mk ((by rw [hg]; exact Nat.ne_of_lt (blk_lt (g := z11_) (o := .cells #[.int .i64 0, .int .i64 0, .slice none 0 0] 34 (0, 0)) (by (with_reducible repeat (first | refine blk_drewN ?_ _ | refine blk_drew ?_ | refine blk_alloc ?_ _)); exact z21_.out)) : z11_ ≠ y15_))
               have z31_ := Aside0.mk ((by rw [hg]; exact Nat.ne_of_gt (blk_lt (g := z11_) (o := .cells #[.int .i64 0, .int .i64 0, .slice none 0 0] 34 (0, 0)) (by (with_reducible repeat (first | refine blk_drewN ?_ _ | refine blk_drew ?_ | refine blk_alloc ?_ _)); exact z21_.out)) : y15_ ≠ z11_))
               have y17_ := Aside0.mk ((by rw [hg]; exact Nat.ne_of_lt (blk_lt (g := z27_) (o := .cells #[.int .i64 z52_, .int .i64 z53_, .slice y2_ z54_.length y3_] 34 (0, 0)) (by (with_reducible repeat (first | refine blk_drewN ?_ _ | refine blk_drew ?_ | refine blk_alloc ?_ _)); exact z32_.out)) : z27_ ≠ y15_))
               have y18_ := Aside0.mk ((by rw [hg]; exact Nat.ne_of_gt (blk_lt (g := z27_) (o := .cells #[.int .i64 z52_, .int .i64 z53_, .slice y2_ z54_.length y3_] 34 (0, 0)) (by (with_reducible repeat (first | refine blk_drewN ?_ _ | refine blk_drew ?_ | refine blk_alloc ?_ _)); exact z32_.out)) : y15_ ≠ z27_))
               have y19_ := Aside0.mk ((by rw [hg]; exact Nat.ne_of_lt (IsS124.lt (show IsS124 w0 _ g s0_0 z60_ z61_ from by repeat (first | (with_reducible first | exact z3_.out | apply IsS124.alloc | apply IsS124.drewN | apply IsS124.drew | apply IsS124.set_1 | apply IsS124.set_2 | refine IsS124.far ?_ z24_.out _ | refine IsS124.far ?_ z37_.out _) | exact z3_.out))) : g ≠ y15_))
               have y20_ := Aside0.mk ((by rw [hg]; exact Nat.ne_of_gt (IsS124.lt (show IsS124 w0 _ g s0_0 z60_ z61_ from by repeat (first | (with_reducible first | exact z3_.out | apply IsS124.alloc | apply IsS124.drewN | apply IsS124.drew | apply IsS124.set_1 | apply IsS124.set_2 | refine IsS124.far ?_ z24_.out _ | refine IsS124.far ?_ z37_.out _) | exact z3_.out))) : y15_ ≠ g))
               clear z57_
               clear z21_
               clear z32_
               clear z3_
               clear HK
               clear HB
               have z57_ := z13_
               have z21_ := z14_
               have z32_ := z15_
               have z3_ := z16_
               have HK := z17_
               have HB := z18_
               have y22_ := z19_
               have y23_ := z20_
               have y24_ := z29_
               have y25_ := z30_
               have y26_ := z31_
               have y27_ := y17_
               have y28_ := y18_
               have y29_ := y19_
               have y30_ := y20_
               clear z13_ z14_ z15_ z16_ z17_ z18_ z19_ z20_ z29_ z30_ z31_ y17_ y18_ y19_ y20_
               clear hb hbox hg
               refine hK.out _ _ ⟨(blk_cell z32_.out 0).trans rfl, (blk_cell z32_.out 1).trans rfl, (blk_cell z32_.out 2).trans rfl⟩ (fun hHeld => ?_)
               clear hK K
               refine norm_ (a' := ?_) ?_ ?_
               rotate_left
               · show Act.put _ (some 5) _ = _
                 simp only [Act.put, List.setIfInBounds_toArray, List.set_cons_zero, List.set_cons_succ, i64_w, i32_w]
                 rfl
               refine one_ (i := 6) (N := some 23) #[true, true, true, true, true, true, true, false, false, false, false, true, false, false] rfl rfl (one_of HT_.out (by kernel_rfl)) (by decide) (fun K hK => ?_)
               refine goes_ Try.func72 (by kernel_rfl) rfl #[.pointer (some ⟨g, 0, none⟩), .int .i64 (wrap64 (4 * z66_))] (by rfl) rfl rfl (by (try simp only [List.map_toArray, List.map_cons, List.map_nil]); first | done | rfl | (simp only [List.length_drop, List.length_take]; rfl)) ?_
               with_reducible refine (spec_l01Below.calls _ _ _ _ _ _ _ _ w0 _ ?side1 ?side2 z73_.out).mono ?_
               (case side1 => repeat (first | (with_reducible first | exact z3_.out | apply IsS124.alloc | apply IsS124.drewN | apply IsS124.drew | apply IsS124.set_1 | apply IsS124.set_2 | refine IsS124.far ?_ z24_.out _ | refine IsS124.far ?_ z37_.out _ | refine IsS124.far ?_ y29_.out _) | exact z3_.out))
               (case side2 => repeat (first | (with_reducible first | exact HB.out | apply below_alloc | apply pw_below_drewN | apply below_drew1 | refine below_set ?_ (IsS124.ge z3_.out) | refine below_set ?_ z23_.out | refine below_set ?_ z34_.out | refine below_set ?_ y24_.out) | exact HB.out))
               rintro e y11_ ⟨rfl, hi, hb, hk⟩
               refine ⟨_, rfl, ?_⟩
               have z13_ := Aside0.mk (Kd.R_mono (Kd.R_keep (IsS124.apart (show IsS124 w0 _ g s0_0 z60_ z61_ from by repeat (first | (with_reducible first | exact z3_.out | apply IsS124.alloc | apply IsS124.drewN | apply IsS124.drew | apply IsS124.set_1 | apply IsS124.set_2 | refine IsS124.far ?_ z24_.out _ | refine IsS124.far ?_ z37_.out _ | refine IsS124.far ?_ y29_.out _) | exact z3_.out)) (by (with_reducible repeat (first | apply Kd.R_alloc | apply Kd.R_drewN | apply Kd.R_drew)); exact z57_.out) (by decide)) hk (fun _ h => h.2)) (fun _ h => h.1))
               have z14_ := Aside0.mk (KeepBut.blk hk (g' := z11_) (o := .cells #[.int .i64 0, .int .i64 0, .slice none 0 0] 34 (0, 0)) (by (with_reducible repeat (first | refine blk_drewN ?_ _ | refine blk_drew ?_ | refine blk_alloc ?_ _)); exact z21_.out) z25_.out (by simp))
               have z15_ := Aside0.mk (KeepBut.blk hk (g' := z27_) (o := .cells #[.int .i64 z52_, .int .i64 z53_, .slice y2_ z54_.length y3_] 34 (0, 0)) (by (with_reducible repeat (first | refine blk_drewN ?_ _ | refine blk_drew ?_ | refine blk_alloc ?_ _)); exact z32_.out) z38_.out (by simp))
               have z16_ := Aside0.mk (KeepBut.blk hk (g' := y15_) (o := .cells #[.int .i64 0, .int .i64 0, .slice none 0 0] 34 (0, 0)) (by (with_reducible repeat (first | refine blk_drewN ?_ _ | refine blk_drew ?_ | refine blk_alloc ?_ _)); exact y22_.out) y30_.out (by simp))
               have z17_ := Aside0.mk (KeepBut.trans (by repeat (first | (with_reducible first | exact HK.out | apply KeepBut.set_ | apply keep_drewN | apply keep_drew | apply keep_alloc | refine keep_far ?_ z22_.out _ | refine keep_far ?_ z33_.out _ | refine keep_far ?_ y23_.out _) | exact HK.out)) hk (.inl rfl))
               have z18_ := Aside0.mk (hb)
               have z19_ := Aside0.mk (hi)
               clear z57_
               clear z21_
               clear z32_
               clear y22_
               clear HK
               clear HB
               clear z3_
               have z57_ := z13_
               have z21_ := z14_
               have z32_ := z15_
               have y22_ := z16_
               have HK := z17_
               have HB := z18_
               have z3_ := z19_
               clear z13_ z14_ z15_ z16_ z17_ z18_ z19_
               (try clear hb)
               (try clear hb2)
               (try clear hk)
               (try clear hi)
               refine hK.out _ _ ⟨(blk_cell z32_.out 0).trans rfl, (blk_cell z32_.out 1).trans rfl, (blk_cell z32_.out 2).trans rfl⟩ (fun hHeld => ?_)
               clear hK K
               refine norm_ (a' := ?_) ?_ ?_
               rotate_left
               · show Act.put _ (some 23) _ = _
                 simp only [Act.put, List.setIfInBounds_toArray, List.set_cons_zero, List.set_cons_succ, i64_w, i32_w]
                 rfl
               refine one_ (i := 7) (N := some 24) #[true, true, true, true, true, true, true, true, false, false, false, true, false, false] rfl rfl (one_of HT_.out (by kernel_rfl)) (by decide) (fun K hK => ?_)
               refine goes_ Try.func124 (by kernel_rfl) rfl #[.agg #[.int .i64 z52_, .int .i64 z53_, .slice y2_ z54_.length y3_], .int .i64 z69_] (by rfl) rfl rfl (by (try simp only [List.map_toArray, List.map_cons, List.map_nil]); first | done | rfl | (simp only [List.length_drop, List.length_take]; rfl)) ?_
               with_reducible refine (spec_WithBroken.calls _ _ _ _ _ _ _ _ _ _ _ _ ?side1 ?side2 z79_.out).mono ?_
               (case side1 => repeat (first | exact (Kd.R_reads' z57_.out).2.2 | (with_reducible refine Kd.C_alloc ?_ _) | (with_reducible refine Kd.C_drewN ?_ _) | (with_reducible refine Kd.C_drew ?_)))
               (case side2 => exact (Kd.R_reads' z57_.out).2.1)
               rintro e y16_ ⟨y12_, rfl, y13_, hb⟩
               refine ⟨_, rfl, ?_⟩
               have z13_ := Aside0.mk (Kd.R_elder' (by (with_reducible repeat (first | apply Kd.R_alloc | apply Kd.R_drewN | apply Kd.R_drew)); exact z57_.out) (Kd.R_base y13_) hb)
               have z14_ := Aside0.mk (Kd.R_lower (Kd.R_new' y13_ (Kd.R_lt (by (with_reducible repeat (first | apply Kd.R_alloc | apply Kd.R_drewN | apply Kd.R_drew)); exact z57_.out))) (keep_size (w := w) (g := g) (row := none) (by repeat (first | (with_reducible first | exact HK.out | apply KeepBut.set_ | apply keep_drewN | apply keep_drew | apply keep_alloc | refine keep_far ?_ z22_.out _ | refine keep_far ?_ z33_.out _ | refine keep_far ?_ y23_.out _) | exact HK.out))))
               have z15_ := Aside0.mk (blk_below (g := z11_) (o := .cells #[.int .i64 0, .int .i64 0, .slice none 0 0] 34 (0, 0)) (by (with_reducible repeat (first | refine blk_drewN ?_ _ | refine blk_drew ?_ | refine blk_alloc ?_ _)); exact z21_.out) hb)
               have z16_ := Aside0.mk (blk_below (g := z27_) (o := .cells #[.int .i64 z52_, .int .i64 z53_, .slice y2_ z54_.length y3_] 34 (0, 0)) (by (with_reducible repeat (first | refine blk_drewN ?_ _ | refine blk_drew ?_ | refine blk_alloc ?_ _)); exact z32_.out) hb)
               have z17_ := Aside0.mk (IsS124.below (by repeat (first | (with_reducible first | exact z3_.out | apply IsS124.alloc | apply IsS124.drewN | apply IsS124.drew | apply IsS124.set_1 | apply IsS124.set_2 | refine IsS124.far ?_ z24_.out _ | refine IsS124.far ?_ z37_.out _ | refine IsS124.far ?_ y29_.out _) | exact z3_.out)) hb)
               have z18_ := Aside0.mk (blk_below (g := y15_) (o := .cells #[.int .i64 0, .int .i64 0, .slice none 0 0] 34 (0, 0)) (by (with_reducible repeat (first | refine blk_drewN ?_ _ | refine blk_drew ?_ | refine blk_alloc ?_ _)); exact y22_.out) hb)
               have z19_ := Aside0.mk (KeepBut.trans (by repeat (first | (with_reducible first | exact HK.out | apply KeepBut.set_ | apply keep_drewN | apply keep_drew | apply keep_alloc | refine keep_far ?_ z22_.out _ | refine keep_far ?_ z33_.out _ | refine keep_far ?_ y23_.out _) | exact HK.out)) (KeepBut.of_below hb g none) (.inl rfl))
               have z20_ := Aside0.mk (below_step (by repeat (first | (with_reducible first | exact HB.out | apply below_alloc | apply pw_below_drewN | apply below_drew1 | refine below_set ?_ (IsS124.ge z3_.out) | refine below_set ?_ z23_.out | refine below_set ?_ z34_.out | refine below_set ?_ y24_.out) | exact HB.out)) hb)
               clear z57_
               clear z21_
               clear z32_
               clear z3_
               clear y22_
               clear HK
               clear HB
               have z57_ := z13_
               have y14_ := z14_
               have z21_ := z15_
               have z32_ := z16_
               have z3_ := z17_
               have y22_ := z18_
               have HK := z19_
               have HB := z20_
               clear z13_ z14_ z15_ z16_ z17_ z18_ z19_ z20_
               (try clear hb)
               (try clear hb2)
               (try clear hk)
               (try clear hi)
               (try clear y13_)
               refine hK.out _ _ ⟨(blk_cell z32_.out 0).trans rfl, (blk_cell z32_.out 1).trans rfl, (blk_cell z32_.out 2).trans rfl⟩ (fun hHeld => ?_)
               clear hK K
               refine norm_ (a' := ?_) ?_ ?_
               rotate_left
               · show Act.put _ (some 24) _ = _
                 simp only [Act.put, List.setIfInBounds_toArray, List.set_cons_zero, List.set_cons_succ, i64_w, i32_w]
                 rfl
               refine pure_ (i := 8) (N := some 16) (v := ?_) (a' := ?_) #[true, true, true, true, true, true, true, true, true, false, false, true, false, false] rfl rfl (any_of HT_.out (by kernel_rfl)) (fun _ _ _ h => h) (Or.inl ⟨by rfl, ?_⟩) ?_ ?_
               rotate_left
               · intro w'
                 go_simp
                 with_reducible rfl
               rotate_left
               · simp only [Act.put, List.setIfInBounds_toArray, List.set_cons_zero, List.set_cons_succ, i64_w, i32_w]
                 rfl
               refine pure_ (i := 9) (N := some 25) (v := ?_) (a' := ?_) #[true, true, true, true, true, true, true, true, true, true, false, true, false, false] rfl rfl (any_of HT_.out (by kernel_rfl)) (fun _ _ _ h => h) (Or.inl ⟨by rfl, ?_⟩) ?_ ?_
               rotate_left
               · intro w'
                 go_simp
                 with_reducible rfl
               rotate_left
               · simp only [Act.put, List.setIfInBounds_toArray, List.set_cons_zero, List.set_cons_succ, i64_w, i32_w]
                 rfl
               refine pure_ (i := 10) (N := some 26) (v := ?_) (a' := ?_) #[true, true, true, true, true, true, true, true, true, true, true, true, false, false] rfl rfl (any_of HT_.out (by kernel_rfl)) (fun _ _ _ h => h) (Or.inl ⟨by rfl, ?_⟩) ?_ ?_
               rotate_left
               · intro w'
                 go_simp
                 with_reducible rfl
               rotate_left
               · simp only [Act.put, List.setIfInBounds_toArray, List.set_cons_zero, List.set_cons_succ, i64_w, i32_w]
                 rfl
               exact norm_ (by simp only [putAll, Act.put, List.setIfInBounds_toArray, List.set_cons_zero, List.set_cons_succ]) (hCont (y12_, y15_) _ ⟨hHeld, (by (with_reducible repeat (first | apply Kd.R_alloc | apply Kd.R_drewN | apply Kd.R_drew)); exact Kd.R_mono y14_.out (fun _ hk => hk.2)), (by (with_reducible repeat (first | apply Kd.R_alloc | apply Kd.R_drewN | apply Kd.R_drew)); exact Kd.R_mono z57_.out (fun _ hk => hk.2)), (by (with_reducible repeat (first | refine blk_drewN ?_ _ | refine blk_drew ?_ | refine blk_alloc ?_ _)); exact z21_.out), (by (with_reducible repeat (first | refine blk_drewN ?_ _ | refine blk_drew ?_ | refine blk_alloc ?_ _)); exact z32_.out), (by (with_reducible repeat (first | refine blk_drewN ?_ _ | refine blk_drew ?_ | refine blk_alloc ?_ _)); exact y22_.out), y23_.out, y24_.out, y29_.out, y30_.out, y25_.out, y26_.out, y27_.out, y28_.out, (by repeat (first | (with_reducible first | exact z3_.out | apply IsS124.alloc | apply IsS124.drewN | apply IsS124.drew | apply IsS124.set_1 | apply IsS124.set_2 | refine IsS124.far ?_ z24_.out _ | refine IsS124.far ?_ z37_.out _ | refine IsS124.far ?_ y29_.out _) | exact z3_.out)), (by repeat (first | (with_reducible first | exact HK.out | apply KeepBut.set_ | apply keep_drewN | apply keep_drew | apply keep_alloc | refine keep_far ?_ z22_.out _ | refine keep_far ?_ z33_.out _ | refine keep_far ?_ y23_.out _) | exact HK.out)), (by repeat (first | (with_reducible first | exact HB.out | apply below_alloc | apply pw_below_drewN | apply below_drew1 | refine below_set ?_ (IsS124.ge z3_.out) | refine below_set ?_ z23_.out | refine below_set ?_ z34_.out | refine below_set ?_ y24_.out) | exact HB.out))⟩)
           · skip
             refine box_step ?hg (N := 5) ?hd (cs := #[.int .i64 0, .int .i64 0, .slice none 0 0]) (t := 34) ?hr ?_; (case hd => rfl); (case hg => rfl); (case hr => first | (go_simp; done) | (go_simp; rfl))
             intro y15_ hg y9_ hbox hb
             have z13_ := Aside0.mk (Kd.R_below (by (with_reducible repeat (first | apply Kd.R_alloc | apply Kd.R_drewN | apply Kd.R_drew)); exact z57_.out) hb)
             have z14_ := Aside0.mk (blk_below (g := z11_) (o := .cells #[.int .i64 0, .int .i64 0, .slice none 0 0] 34 (0, 0)) (by (with_reducible repeat (first | refine blk_drewN ?_ _ | refine blk_drew ?_ | refine blk_alloc ?_ _)); exact z21_.out) hb)
             have z15_ := Aside0.mk (blk_below (g := z27_) (o := .cells #[.int .i64 z52_, .int .i64 z53_, .slice y2_ z54_.length y3_] 34 (0, 0)) (by (with_reducible repeat (first | refine blk_drewN ?_ _ | refine blk_drew ?_ | refine blk_alloc ?_ _)); exact z32_.out) hb)
             have z16_ := Aside0.mk (IsS124.below (by repeat (first | (with_reducible first | exact z3_.out | apply IsS124.alloc | apply IsS124.drewN | apply IsS124.drew | apply IsS124.set_1 | apply IsS124.set_2 | refine IsS124.far ?_ z24_.out _ | refine IsS124.far ?_ z37_.out _) | exact z3_.out)) hb)
             have z17_ := Aside0.mk (KeepBut.trans (by repeat (first | (with_reducible first | exact HK.out | apply KeepBut.set_ | apply keep_drewN | apply keep_drew | apply keep_alloc | refine keep_far ?_ z22_.out _ | refine keep_far ?_ z33_.out _) | exact HK.out)) (KeepBut.of_below hb g none) (.inl rfl))
             have z18_ := Aside0.mk (below_step (by repeat (first | (with_reducible first | exact HB.out | apply below_alloc | apply pw_below_drewN | apply below_drew1 | refine below_set ?_ (IsS124.ge z3_.out) | refine below_set ?_ z23_.out | refine below_set ?_ z34_.out) | exact HB.out)) hb)
             have z19_ := Aside0.mk (hbox)
             have z20_ := Aside0.mk ((by rw [hg]; exact (keep_size (w := w) (g := g) (row := none) (by repeat (first | (with_reducible first | exact HK.out | apply KeepBut.set_ | apply keep_drewN | apply keep_drew | apply keep_alloc | refine keep_far ?_ z22_.out _ | refine keep_far ?_ z33_.out _) | exact HK.out))) : w.heap.size ≤ y15_))
             have z29_ := Aside0.mk ((Nat.le_trans z4_.out (by rw [hg]; exact (keep_size (w := w) (g := g) (row := none) (by repeat (first | (with_reducible first | exact HK.out | apply KeepBut.set_ | apply keep_drewN | apply keep_drew | apply keep_alloc | refine keep_far ?_ z22_.out _ | refine keep_far ?_ z33_.out _) | exact HK.out))) : w.heap.size ≤ y15_) : w0.heap.size ≤ y15_))
             have z30_ := Aside0.mk ((by rw [hg]; exact Nat.ne_of_lt (blk_lt (g := z11_) (o := .cells #[.int .i64 0, .int .i64 0, .slice none 0 0] 34 (0, 0)) (by (with_reducible repeat (first | refine blk_drewN ?_ _ | refine blk_drew ?_ | refine blk_alloc ?_ _)); exact z21_.out)) : z11_ ≠ y15_))
             have z31_ := Aside0.mk ((by rw [hg]; exact Nat.ne_of_gt (blk_lt (g := z11_) (o := .cells #[.int .i64 0, .int .i64 0, .slice none 0 0] 34 (0, 0)) (by (with_reducible repeat (first | refine blk_drewN ?_ _ | refine blk_drew ?_ | refine blk_alloc ?_ _)); exact z21_.out)) : y15_ ≠ z11_))
             have y17_ := Aside0.mk ((by rw [hg]; exact Nat.ne_of_lt (blk_lt (g := z27_) (o := .cells #[.int .i64 z52_, .int .i64 z53_, .slice y2_ z54_.length y3_] 34 (0, 0)) (by (with_reducible repeat (first | refine blk_drewN ?_ _ | refine blk_drew ?_ | refine blk_alloc ?_ _)); exact z32_.out)) : z27_ ≠ y15_))
             have y18_ := Aside0.mk ((by rw [hg]; exact Nat.ne_of_gt (blk_lt (g := z27_) (o := .cells #[.int .i64 z52_, .int .i64 z53_, .slice y2_ z54_.length y3_] 34 (0, 0)) (by (with_reducible repeat (first | refine blk_drewN ?_ _ | refine blk_drew ?_ | refine blk_alloc ?_ _)); exact z32_.out)) : y15_ ≠ z27_))
             have y19_ := Aside0.mk ((by rw [hg]; exact Nat.ne_of_lt (IsS124.lt (show IsS124 w0 _ g s0_0 z60_ z61_ from by repeat (first | (with_reducible first | exact z3_.out | apply IsS124.alloc | apply IsS124.drewN | apply IsS124.drew | apply IsS124.set_1 | apply IsS124.set_2 | refine IsS124.far ?_ z24_.out _ | refine IsS124.far ?_ z37_.out _) | exact z3_.out))) : g ≠ y15_))
             have y20_ := Aside0.mk ((by rw [hg]; exact Nat.ne_of_gt (IsS124.lt (show IsS124 w0 _ g s0_0 z60_ z61_ from by repeat (first | (with_reducible first | exact z3_.out | apply IsS124.alloc | apply IsS124.drewN | apply IsS124.drew | apply IsS124.set_1 | apply IsS124.set_2 | refine IsS124.far ?_ z24_.out _ | refine IsS124.far ?_ z37_.out _) | exact z3_.out))) : y15_ ≠ g))
             clear z57_
             clear z21_
             clear z32_
             clear z3_
             clear HK
             clear HB
             have z57_ := z13_
             have z21_ := z14_
             have z32_ := z15_
             have z3_ := z16_
             have HK := z17_
             have HB := z18_
             have y22_ := z19_
             have y23_ := z20_
             have y24_ := z29_
             have y25_ := z30_
             have y26_ := z31_
             have y27_ := y17_
             have y28_ := y18_
             have y29_ := y19_
             have y30_ := y20_
             clear z13_ z14_ z15_ z16_ z17_ z18_ z19_ z20_ z29_ z30_ z31_ y17_ y18_ y19_ y20_
             clear hb hbox hg
             refine hK.out _ _ ⟨(blk_cell z32_.out 0).trans rfl, (blk_cell z32_.out 1).trans rfl, (blk_cell z32_.out 2).trans rfl⟩ (fun hHeld => ?_)
             clear hK K
             refine norm_ (a' := ?_) ?_ ?_
             rotate_left
             · show Act.put _ (some 5) _ = _
               simp only [Act.put, List.setIfInBounds_toArray, List.set_cons_zero, List.set_cons_succ, i64_w, i32_w]
               rfl
             refine one_ (i := 4) (N := some 21) #[true, true, true, true, true, false, false, false, false, false, false, true, false, false] rfl rfl (one_of HT_.out (by kernel_rfl)) (by decide) (fun K hK => ?_)
             refine goes_ Try.func87 (by kernel_rfl) rfl #[.agg #[.int .i64 z52_, .int .i64 z53_]] (by rfl) rfl rfl (by (try simp only [List.map_toArray, List.map_cons, List.map_nil]); first | done | rfl | (simp only [List.length_drop, List.length_take]; rfl)) ?_
             with_reducible refine (spec_NodeCount.calls _ _ _ _ z68_.out).mono ?_
             rintro e y10_ ⟨rfl, hb⟩
             refine ⟨_, rfl, ?_⟩
             have z13_ := Aside0.mk (Kd.R_below (by (with_reducible repeat (first | apply Kd.R_alloc | apply Kd.R_drewN | apply Kd.R_drew)); exact z57_.out) hb)
             have z14_ := Aside0.mk (blk_below (g := z11_) (o := .cells #[.int .i64 0, .int .i64 0, .slice none 0 0] 34 (0, 0)) (by (with_reducible repeat (first | refine blk_drewN ?_ _ | refine blk_drew ?_ | refine blk_alloc ?_ _)); exact z21_.out) hb)
             have z15_ := Aside0.mk (blk_below (g := z27_) (o := .cells #[.int .i64 z52_, .int .i64 z53_, .slice y2_ z54_.length y3_] 34 (0, 0)) (by (with_reducible repeat (first | refine blk_drewN ?_ _ | refine blk_drew ?_ | refine blk_alloc ?_ _)); exact z32_.out) hb)
             have z16_ := Aside0.mk (IsS124.below (by repeat (first | (with_reducible first | exact z3_.out | apply IsS124.alloc | apply IsS124.drewN | apply IsS124.drew | apply IsS124.set_1 | apply IsS124.set_2 | refine IsS124.far ?_ z24_.out _ | refine IsS124.far ?_ z37_.out _ | refine IsS124.far ?_ y29_.out _) | exact z3_.out)) hb)
             have z17_ := Aside0.mk (blk_below (g := y15_) (o := .cells #[.int .i64 0, .int .i64 0, .slice none 0 0] 34 (0, 0)) (by (with_reducible repeat (first | refine blk_drewN ?_ _ | refine blk_drew ?_ | refine blk_alloc ?_ _)); exact y22_.out) hb)
             have z18_ := Aside0.mk (KeepBut.trans (by repeat (first | (with_reducible first | exact HK.out | apply KeepBut.set_ | apply keep_drewN | apply keep_drew | apply keep_alloc | refine keep_far ?_ z22_.out _ | refine keep_far ?_ z33_.out _ | refine keep_far ?_ y23_.out _) | exact HK.out)) (KeepBut.of_below hb g none) (.inl rfl))
             have z19_ := Aside0.mk (below_step (by repeat (first | (with_reducible first | exact HB.out | apply below_alloc | apply pw_below_drewN | apply below_drew1 | refine below_set ?_ (IsS124.ge z3_.out) | refine below_set ?_ z23_.out | refine below_set ?_ z34_.out | refine below_set ?_ y24_.out) | exact HB.out)) hb)
             clear z57_
             clear z21_
             clear z32_
             clear z3_
             clear y22_
             clear HK
             clear HB
             have z57_ := z13_
             have z21_ := z14_
             have z32_ := z15_
             have z3_ := z16_
             have y22_ := z17_
             have HK := z18_
             have HB := z19_
             clear z13_ z14_ z15_ z16_ z17_ z18_ z19_
             (try clear hb)
             (try clear hb2)
             (try clear hk)
             (try clear hi)
             refine hK.out _ _ ⟨(blk_cell z32_.out 0).trans rfl, (blk_cell z32_.out 1).trans rfl, (blk_cell z32_.out 2).trans rfl⟩ (fun hHeld => ?_)
             clear hK K
             refine norm_ (a' := ?_) ?_ ?_
             rotate_left
             · show Act.put _ (some 21) _ = _
               simp only [Act.put, List.setIfInBounds_toArray, List.set_cons_zero, List.set_cons_succ, i64_w, i32_w]
               rfl
             refine pure_ (i := 5) (N := some 22) (v := ?_) (a' := ?_) #[true, true, true, true, true, true, false, false, false, false, false, true, false, false] rfl rfl (any_of HT_.out (by kernel_rfl)) (fun _ _ _ h => h) (Or.inl ⟨by rfl, ?_⟩) ?_ ?_
             rotate_left
             · intro w'
               go_simp
               with_reducible rfl
             rotate_left
             · simp only [Act.put, List.setIfInBounds_toArray, List.set_cons_zero, List.set_cons_succ, i64_w, i32_w]
               rfl
             refine one_ (i := 6) (N := some 23) #[true, true, true, true, true, true, true, false, false, false, false, true, false, false] rfl rfl (one_of HT_.out (by kernel_rfl)) (by decide) (fun K hK => ?_)
             refine goes_ Try.func72 (by kernel_rfl) rfl #[.pointer (some ⟨g, 0, none⟩), .int .i64 (wrap64 (4 * z66_))] (by rfl) rfl rfl (by (try simp only [List.map_toArray, List.map_cons, List.map_nil]); first | done | rfl | (simp only [List.length_drop, List.length_take]; rfl)) ?_
             with_reducible refine (spec_l01Below.calls _ _ _ _ _ _ _ _ w0 _ ?side1 ?side2 z73_.out).mono ?_
             (case side1 => repeat (first | (with_reducible first | exact z3_.out | apply IsS124.alloc | apply IsS124.drewN | apply IsS124.drew | apply IsS124.set_1 | apply IsS124.set_2 | refine IsS124.far ?_ z24_.out _ | refine IsS124.far ?_ z37_.out _ | refine IsS124.far ?_ y29_.out _) | exact z3_.out))
             (case side2 => repeat (first | (with_reducible first | exact HB.out | apply below_alloc | apply pw_below_drewN | apply below_drew1 | refine below_set ?_ (IsS124.ge z3_.out) | refine below_set ?_ z23_.out | refine below_set ?_ z34_.out | refine below_set ?_ y24_.out) | exact HB.out))
             rintro e y11_ ⟨rfl, hi, hb, hk⟩
             refine ⟨_, rfl, ?_⟩
             have z13_ := Aside0.mk (Kd.R_mono (Kd.R_keep (IsS124.apart (show IsS124 w0 _ g s0_0 z60_ z61_ from by repeat (first | (with_reducible first | exact z3_.out | apply IsS124.alloc | apply IsS124.drewN | apply IsS124.drew | apply IsS124.set_1 | apply IsS124.set_2 | refine IsS124.far ?_ z24_.out _ | refine IsS124.far ?_ z37_.out _ | refine IsS124.far ?_ y29_.out _) | exact z3_.out)) (by (with_reducible repeat (first | apply Kd.R_alloc | apply Kd.R_drewN | apply Kd.R_drew)); exact z57_.out) (by decide)) hk (fun _ h => h.2)) (fun _ h => h.1))
             have z14_ := Aside0.mk (KeepBut.blk hk (g' := z11_) (o := .cells #[.int .i64 0, .int .i64 0, .slice none 0 0] 34 (0, 0)) (by (with_reducible repeat (first | refine blk_drewN ?_ _ | refine blk_drew ?_ | refine blk_alloc ?_ _)); exact z21_.out) z25_.out (by simp))
             have z15_ := Aside0.mk (KeepBut.blk hk (g' := z27_) (o := .cells #[.int .i64 z52_, .int .i64 z53_, .slice y2_ z54_.length y3_] 34 (0, 0)) (by (with_reducible repeat (first | refine blk_drewN ?_ _ | refine blk_drew ?_ | refine blk_alloc ?_ _)); exact z32_.out) z38_.out (by simp))
             have z16_ := Aside0.mk (KeepBut.blk hk (g' := y15_) (o := .cells #[.int .i64 0, .int .i64 0, .slice none 0 0] 34 (0, 0)) (by (with_reducible repeat (first | refine blk_drewN ?_ _ | refine blk_drew ?_ | refine blk_alloc ?_ _)); exact y22_.out) y30_.out (by simp))
             have z17_ := Aside0.mk (KeepBut.trans (by repeat (first | (with_reducible first | exact HK.out | apply KeepBut.set_ | apply keep_drewN | apply keep_drew | apply keep_alloc | refine keep_far ?_ z22_.out _ | refine keep_far ?_ z33_.out _ | refine keep_far ?_ y23_.out _) | exact HK.out)) hk (.inl rfl))
             have z18_ := Aside0.mk (hb)
             have z19_ := Aside0.mk (hi)
             clear z57_
             clear z21_
             clear z32_
             clear y22_
             clear HK
             clear HB
             clear z3_
             have z57_ := z13_
             have z21_ := z14_
             have z32_ := z15_
             have y22_ := z16_
             have HK := z17_
             have HB := z18_
             have z3_ := z19_
             clear z13_ z14_ z15_ z16_ z17_ z18_ z19_
             (try clear hb)
             (try clear hb2)
             (try clear hk)
             (try clear hi)
             refine hK.out _ _ ⟨(blk_cell z32_.out 0).trans rfl, (blk_cell z32_.out 1).trans rfl, (blk_cell z32_.out 2).trans rfl⟩ (fun hHeld => ?_)
             clear hK K
             refine norm_ (a' := ?_) ?_ ?_
             rotate_left
             · show Act.put _ (some 23) _ = _
               simp only [Act.put, List.setIfInBounds_toArray, List.set_cons_zero, List.set_cons_succ, i64_w, i32_w]
               rfl
             refine one_ (i := 7) (N := some 24) #[true, true, true, true, true, true, true, true, false, false, false, true, false, false] rfl rfl (one_of HT_.out (by kernel_rfl)) (by decide) (fun K hK => ?_)
             refine goes_ Try.func124 (by kernel_rfl) rfl #[.agg #[.int .i64 z52_, .int .i64 z53_, .slice y2_ z54_.length y3_], .int .i64 z69_] (by rfl) rfl rfl (by (try simp only [List.map_toArray, List.map_cons, List.map_nil]); first | done | rfl | (simp only [List.length_drop, List.length_take]; rfl)) ?_
             with_reducible refine (spec_WithBroken.calls _ _ _ _ _ _ _ _ _ _ _ _ ?side1 ?side2 z79_.out).mono ?_
             (case side1 => repeat (first | exact (Kd.R_reads' z57_.out).2.2 | (with_reducible refine Kd.C_alloc ?_ _) | (with_reducible refine Kd.C_drewN ?_ _) | (with_reducible refine Kd.C_drew ?_)))
             (case side2 => exact (Kd.R_reads' z57_.out).2.1)
             rintro e y16_ ⟨y12_, rfl, y13_, hb⟩
             refine ⟨_, rfl, ?_⟩
             have z13_ := Aside0.mk (Kd.R_elder' (by (with_reducible repeat (first | apply Kd.R_alloc | apply Kd.R_drewN | apply Kd.R_drew)); exact z57_.out) (Kd.R_base y13_) hb)
             have z14_ := Aside0.mk (Kd.R_lower (Kd.R_new' y13_ (Kd.R_lt (by (with_reducible repeat (first | apply Kd.R_alloc | apply Kd.R_drewN | apply Kd.R_drew)); exact z57_.out))) (keep_size (w := w) (g := g) (row := none) (by repeat (first | (with_reducible first | exact HK.out | apply KeepBut.set_ | apply keep_drewN | apply keep_drew | apply keep_alloc | refine keep_far ?_ z22_.out _ | refine keep_far ?_ z33_.out _ | refine keep_far ?_ y23_.out _) | exact HK.out))))
             have z15_ := Aside0.mk (blk_below (g := z11_) (o := .cells #[.int .i64 0, .int .i64 0, .slice none 0 0] 34 (0, 0)) (by (with_reducible repeat (first | refine blk_drewN ?_ _ | refine blk_drew ?_ | refine blk_alloc ?_ _)); exact z21_.out) hb)
             have z16_ := Aside0.mk (blk_below (g := z27_) (o := .cells #[.int .i64 z52_, .int .i64 z53_, .slice y2_ z54_.length y3_] 34 (0, 0)) (by (with_reducible repeat (first | refine blk_drewN ?_ _ | refine blk_drew ?_ | refine blk_alloc ?_ _)); exact z32_.out) hb)
             have z17_ := Aside0.mk (IsS124.below (by repeat (first | (with_reducible first | exact z3_.out | apply IsS124.alloc | apply IsS124.drewN | apply IsS124.drew | apply IsS124.set_1 | apply IsS124.set_2 | refine IsS124.far ?_ z24_.out _ | refine IsS124.far ?_ z37_.out _ | refine IsS124.far ?_ y29_.out _) | exact z3_.out)) hb)
             have z18_ := Aside0.mk (blk_below (g := y15_) (o := .cells #[.int .i64 0, .int .i64 0, .slice none 0 0] 34 (0, 0)) (by (with_reducible repeat (first | refine blk_drewN ?_ _ | refine blk_drew ?_ | refine blk_alloc ?_ _)); exact y22_.out) hb)
             have z19_ := Aside0.mk (KeepBut.trans (by repeat (first | (with_reducible first | exact HK.out | apply KeepBut.set_ | apply keep_drewN | apply keep_drew | apply keep_alloc | refine keep_far ?_ z22_.out _ | refine keep_far ?_ z33_.out _ | refine keep_far ?_ y23_.out _) | exact HK.out)) (KeepBut.of_below hb g none) (.inl rfl))
             have z20_ := Aside0.mk (below_step (by repeat (first | (with_reducible first | exact HB.out | apply below_alloc | apply pw_below_drewN | apply below_drew1 | refine below_set ?_ (IsS124.ge z3_.out) | refine below_set ?_ z23_.out | refine below_set ?_ z34_.out | refine below_set ?_ y24_.out) | exact HB.out)) hb)
             clear z57_
             clear z21_
             clear z32_
             clear z3_
             clear y22_
             clear HK
             clear HB
             have z57_ := z13_
             have y14_ := z14_
             have z21_ := z15_
             have z32_ := z16_
             have z3_ := z17_
             have y22_ := z18_
             have HK := z19_
             have HB := z20_
             clear z13_ z14_ z15_ z16_ z17_ z18_ z19_ z20_
             (try clear hb)
             (try clear hb2)
             (try clear hk)
             (try clear hi)
             (try clear y13_)
             refine hK.out _ _ ⟨(blk_cell z32_.out 0).trans rfl, (blk_cell z32_.out 1).trans rfl, (blk_cell z32_.out 2).trans rfl⟩ (fun hHeld => ?_)
             clear hK K
             refine norm_ (a' := ?_) ?_ ?_
             rotate_left
             · show Act.put _ (some 24) _ = _
               simp only [Act.put, List.setIfInBounds_toArray, List.set_cons_zero, List.set_cons_succ, i64_w, i32_w]
               rfl
             refine pure_ (i := 8) (N := some 16) (v := ?_) (a' := ?_) #[true, true, true, true, true, true, true, true, true, false, false, true, false, false] rfl rfl (any_of HT_.out (by kernel_rfl)) (fun _ _ _ h => h) (Or.inl ⟨by rfl, ?_⟩) ?_ ?_
             rotate_left
             · intro w'
               go_simp
               with_reducible rfl
             rotate_left
             · simp only [Act.put, List.setIfInBounds_toArray, List.set_cons_zero, List.set_cons_succ, i64_w, i32_w]
               rfl
             refine pure_ (i := 9) (N := some 25) (v := ?_) (a' := ?_) #[true, true, true, true, true, true, true, true, true, true, false, true, false, false] rfl rfl (any_of HT_.out (by kernel_rfl)) (fun _ _ _ h => h) (Or.inl ⟨by rfl, ?_⟩) ?_ ?_
             rotate_left
             · intro w'
               go_simp
               with_reducible rfl
             rotate_left
             · simp only [Act.put, List.setIfInBounds_toArray, List.set_cons_zero, List.set_cons_succ, i64_w, i32_w]
               rfl
             refine pure_ (i := 10) (N := some 26) (v := ?_) (a' := ?_) #[true, true, true, true, true, true, true, true, true, true, true, true, false, false] rfl rfl (any_of HT_.out (by kernel_rfl)) (fun _ _ _ h => h) (Or.inl ⟨by rfl, ?_⟩) ?_ ?_
             rotate_left
             · intro w'
               go_simp
               with_reducible rfl
             rotate_left
             · simp only [Act.put, List.setIfInBounds_toArray, List.set_cons_zero, List.set_cons_succ, i64_w, i32_w]
               rfl
             exact norm_ (by simp only [putAll, Act.put, List.setIfInBounds_toArray, List.set_cons_zero, List.set_cons_succ]) (hCont (y12_, y15_) _ ⟨hHeld, (by (with_reducible repeat (first | apply Kd.R_alloc | apply Kd.R_drewN | apply Kd.R_drew)); exact Kd.R_mono y14_.out (fun _ hk => hk.2)), (by (with_reducible repeat (first | apply Kd.R_alloc | apply Kd.R_drewN | apply Kd.R_drew)); exact Kd.R_mono z57_.out (fun _ hk => hk.2)), (by (with_reducible repeat (first | refine blk_drewN ?_ _ | refine blk_drew ?_ | refine blk_alloc ?_ _)); exact z21_.out), (by (with_reducible repeat (first | refine blk_drewN ?_ _ | refine blk_drew ?_ | refine blk_alloc ?_ _)); exact z32_.out), (by (with_reducible repeat (first | refine blk_drewN ?_ _ | refine blk_drew ?_ | refine blk_alloc ?_ _)); exact y22_.out), y23_.out, y24_.out, y29_.out, y30_.out, y25_.out, y26_.out, y27_.out, y28_.out, (by repeat (first | (with_reducible first | exact z3_.out | apply IsS124.alloc | apply IsS124.drewN | apply IsS124.drew | apply IsS124.set_1 | apply IsS124.set_2 | refine IsS124.far ?_ z24_.out _ | refine IsS124.far ?_ z37_.out _ | refine IsS124.far ?_ y29_.out _) | exact z3_.out)), (by repeat (first | (with_reducible first | exact HK.out | apply KeepBut.set_ | apply keep_drewN | apply keep_drew | apply keep_alloc | refine keep_far ?_ z22_.out _ | refine keep_far ?_ z33_.out _ | refine keep_far ?_ y23_.out _) | exact HK.out)), (by repeat (first | (with_reducible first | exact HB.out | apply below_alloc | apply pw_below_drewN | apply below_drew1 | refine below_set ?_ (IsS124.ge z3_.out) | refine below_set ?_ z23_.out | refine below_set ?_ z34_.out | refine below_set ?_ y24_.out) | exact HB.out))⟩)
         rintro ⟨y12_, y15_⟩ y31_ ⟨hS_, y32_, y33_, y34_, y35_, y36_, y37_, y38_, y39_, y40_, y41_, y42_, y43_, y44_, y45_, y46_, y47_⟩
         have z13_ : Aside0 (Kd.R (Kd.int .i64) 3 y31_ w.heap.size (fun k_ => some k_ ≠ (.slice y2_ z54_.length y3_ : Value).ownBlock) y12_ z76_) := ⟨y32_⟩
         have z14_ : Aside0 (Kd.R (Kd.int .i64) 3 y31_ w.heap.size (fun k_ => some k_ ≠ (y12_ : Value).ownBlock) (.slice y2_ z54_.length y3_) z54_) := ⟨y33_⟩
         have z15_ : Aside0 (y31_.heap[z11_]? = some (.cells #[.int .i64 0, .int .i64 0, .slice none 0 0] 34 (0, 0))) := ⟨y34_⟩
         have z16_ : Aside0 (y31_.heap[z27_]? = some (.cells #[.int .i64 z52_, .int .i64 z53_, .slice y2_ z54_.length y3_] 34 (0, 0))) := ⟨y35_⟩
         have z17_ : Aside0 (y31_.heap[y15_]? = some (.cells #[.int .i64 0, .int .i64 0, .slice none 0 0] 34 (0, 0))) := ⟨y36_⟩
         have z18_ : Aside0 (w.heap.size ≤ y15_) := ⟨y37_⟩
         have z19_ : Aside0 (w0.heap.size ≤ y15_) := ⟨y38_⟩
         have z20_ : Aside0 (g ≠ y15_) := ⟨y39_⟩
         have z29_ : Aside0 (y15_ ≠ g) := ⟨y40_⟩
         have z30_ : Aside0 (z11_ ≠ y15_) := ⟨y41_⟩
         have z31_ : Aside0 (y15_ ≠ z11_) := ⟨y42_⟩
         have y17_ : Aside0 (z27_ ≠ y15_) := ⟨y43_⟩
         have y18_ : Aside0 (y15_ ≠ z27_) := ⟨y44_⟩
         have y19_ : Aside0 (IsS124 w0 y31_ g s0_0 z70_ z71_) := ⟨y45_⟩
         have y20_ : Aside0 (KeepBut w y31_ g none) := ⟨y46_⟩
         have y21_ : Aside0 (Below w0.heap.size w0 y31_) := ⟨y47_⟩
         clear z57_
         clear z21_
         clear z32_
         clear z3_
         clear HK
         clear HB
         clear y32_ y33_ y34_ y35_ y36_ y37_ y38_ y39_ y40_ y41_ y42_ y43_ y44_ y45_ y46_ y47_
         have y14_ := z13_
         have z57_ := z14_
         have z21_ := z15_
         have z32_ := z16_
         have y22_ := z17_
         have y23_ := z18_
         have y24_ := z19_
         have y29_ := z20_
         have y30_ := z29_
         have y25_ := z30_
         have y26_ := z31_
         have y27_ := y17_
         have y28_ := y18_
         have z3_ := y19_
         have HK := y20_
         have HB := y21_
         clear z13_ z14_ z15_ z16_ z17_ z18_ z19_ z20_ z29_ z30_ z31_ y17_ y18_ y19_ y20_ y21_
         have hHeld : y31_.cell? ⟨z27_, 0, none⟩ = some (.int .i64 z52_) ∧ y31_.cell? ⟨z27_, 1, none⟩ = some (.int .i64 z53_) ∧ y31_.cell? ⟨z27_, 2, none⟩ = some (.slice y2_ z54_.length y3_) := hS_
         obtain ⟨y48_, y49_, y50_⟩ := Kd.R_slice y14_.out
         (first | subst y50_ | (injection y50_ with f1_ f2_ f3_; have y51_ := f1_.symm; have y52_ := f3_.symm; clear f1_ f2_ f3_; subst y51_; subst y52_))
         refine norm_ (a' := ?_) ?_ ?_
         rotate_left
         · simp only [putAll, Act.put, List.setIfInBounds_toArray, List.set_cons_zero, List.set_cons_succ]
           rfl
         refine one_ (i := 12) (N := none) #[true, true, true, true, true, true, true, true, true, true, true, true, true, false] rfl rfl (one_of HT_.out (by kernel_rfl)) (by decide) (fun K hK => ?_)
         have y53_ : y31_.cell? ⟨y15_, 0, none⟩ = some (.int .i64 0) := (blk_cell y22_.out 0).trans rfl
         have y54_ := blk_frozen y22_.out 0
         have y55_ := y25_.out
         have y56_ := y27_.out
         have y57_ := y26_.out
         have y58_ := y28_.out
         have y59_ : y31_.cell? ⟨y15_, 1, none⟩ = some (.int .i64 0) := (blk_cell y22_.out 1).trans rfl
         have y60_ := blk_frozen y22_.out 1
         have y61_ := y25_.out
         have y62_ := y27_.out
         have y63_ := y26_.out
         have y64_ := y28_.out
         have y65_ : y31_.cell? ⟨y15_, 2, none⟩ = some (.slice none 0 0) := (blk_cell y22_.out 2).trans rfl
         have y66_ := blk_frozen y22_.out 2
         have y67_ := y25_.out
         have y68_ := y27_.out
         have y69_ := y26_.out
         have y70_ := y28_.out
         refine skip_ (w1 := ?_) (by rfl) rfl ?_ ?_
         rotate_left
         · go_simp
           rfl
         refine hK.out _ _ ⟨((cell_far (p := ⟨y15_, _, none⟩) y27_.out _).trans (((cell_far (p := ⟨y15_, _, none⟩) y27_.out _).trans (((cell_far (p := ⟨y15_, _, none⟩) y27_.out _).trans (hHeld.1)))))), ((cell_far (p := ⟨y15_, _, none⟩) y27_.out _).trans (((cell_far (p := ⟨y15_, _, none⟩) y27_.out _).trans (((cell_far (p := ⟨y15_, _, none⟩) y27_.out _).trans (hHeld.2.1)))))), ((cell_far (p := ⟨y15_, _, none⟩) y27_.out _).trans (((cell_far (p := ⟨y15_, _, none⟩) y27_.out _).trans (((cell_far (p := ⟨y15_, _, none⟩) y27_.out _).trans (hHeld.2.2))))))⟩ (fun hHeld => ?_)
         clear hK K
         refine pure_ (i := 13) (N := some 6) (v := ?_) (a' := ?_) #[true, true, true, true, true, true, true, true, true, true, true, true, true, true] rfl rfl (any_of HT_.out (by kernel_rfl)) (fun _ _ _ h => h) (Or.inl ⟨by rfl, ?_⟩) ?_ ?_
         rotate_left
         · intro w'
           go_simp
           with_reducible rfl
         rotate_left
         · simp only [Act.put, List.setIfInBounds_toArray, List.set_cons_zero, List.set_cons_succ, i64_w, i32_w]
           rfl
         refine done_ (done_of HT_.out (by kernel_rfl)) ?_
         have y71_ := y26_.out
         have y72_ := y25_.out
         have y73_ := y28_.out
         have y74_ := y27_.out
         have y75_ := y30_.out
         have y76_ := y29_.out
         have y77_ : y31_.cell? ⟨y15_, 0, none⟩ = some (.int .i64 0) := (blk_cell y22_.out 0).trans rfl
         have y78_ : y31_.cell? ⟨y15_, 1, none⟩ = some (.int .i64 0) := (blk_cell y22_.out 1).trans rfl
         have y79_ : y31_.cell? ⟨y15_, 2, none⟩ = some (.slice none 0 0) := (blk_cell y22_.out 2).trans rfl
         have y80_ := blk_frozen y22_.out 0
         have y81_ := blk_frozen y22_.out 1
         have y82_ := blk_frozen y22_.out 2
         try go_wp2_with (first | ((with_reducible refine gate_callee (f := 86) rfl ?_); refine goesL_ (some 28) rfl rfl Try.func86 (by kernel_rfl) rfl #[.agg #[.int .i64 z74_, .int .i64 z75_, .slice y48_ z76_.length y49_]] rfl (by (try simp only [List.map_toArray, List.map_cons, List.map_nil]); first | done | rfl | (simp only [List.length_drop, List.length_take]; rfl)) ?_; (with_reducible refine (spec_IsConnected.calls _ _ _ _ _ _ _ _ ?side1 ?side2 z82_.out).mono ?_); (case side1 => refine (Kd.R_reads' (e := 3) (base := w.heap.size) (ok := fun k_ => some k_ ≠ (.slice y2_ z54_.length y3_ : Value).ownBlock) (n := z76_.length) (c := y49_) ?_).2.2; exact (by (with_reducible repeat (first | apply Kd.R_alloc | apply Kd.R_drewN | apply Kd.R_drew)); exact (Kd.R_mono (Kd.R_far (p := ⟨y15_, 2, none⟩) (Kd.R_far (p := ⟨y15_, 1, none⟩) (Kd.R_far (p := ⟨y15_, 0, none⟩) (Kd.R_types y14_.out y22_.out (by decide)) (fun _ hk => hk.2) (.int .i64 z74_)) (fun _ hk => hk.2) (.int .i64 z75_)) (fun _ hk => hk.2) (.slice y48_ z76_.length y49_)) (fun _ h_ => h_.1)))); (case side2 => exact (Kd.R_reads' y14_.out).2.1); rintro e y83_ ⟨rfl, hb⟩; refine ⟨_, rfl, ?_⟩; have z13_ := Aside0.mk (Kd.R_below (by (with_reducible repeat (first | apply Kd.R_alloc | apply Kd.R_drewN | apply Kd.R_drew)); exact (Kd.R_mono (Kd.R_far (p := ⟨y15_, 2, none⟩) (Kd.R_far (p := ⟨y15_, 1, none⟩) (Kd.R_far (p := ⟨y15_, 0, none⟩) (Kd.R_types z57_.out y22_.out (by decide)) (fun _ hk => hk.2) (.int .i64 z74_)) (fun _ hk => hk.2) (.int .i64 z75_)) (fun _ hk => hk.2) (.slice y48_ z76_.length y49_)) (fun _ h_ => h_.1))) hb); have z14_ := Aside0.mk (Kd.R_below (by (with_reducible repeat (first | apply Kd.R_alloc | apply Kd.R_drewN | apply Kd.R_drew)); exact (Kd.R_mono (Kd.R_far (p := ⟨y15_, 2, none⟩) (Kd.R_far (p := ⟨y15_, 1, none⟩) (Kd.R_far (p := ⟨y15_, 0, none⟩) (Kd.R_types y14_.out y22_.out (by decide)) (fun _ hk => hk.2) (.int .i64 z74_)) (fun _ hk => hk.2) (.int .i64 z75_)) (fun _ hk => hk.2) (.slice y48_ z76_.length y49_)) (fun _ h_ => h_.1))) hb); have z15_ := Aside0.mk (blk_below (g := z11_) (o := .cells #[.int .i64 0, .int .i64 0, .slice none 0 0] 34 (0, 0)) (by (with_reducible repeat (first | refine blk_drewN ?_ _ | refine blk_drew ?_ | refine blk_alloc ?_ _)); refine blk_far ?_ y25_.out _; (with_reducible repeat (first | refine blk_drewN ?_ _ | refine blk_drew ?_ | refine blk_alloc ?_ _)); refine blk_far ?_ y25_.out _; (with_reducible repeat (first | refine blk_drewN ?_ _ | refine blk_drew ?_ | refine blk_alloc ?_ _)); refine blk_far ?_ y25_.out _; (with_reducible repeat (first | refine blk_drewN ?_ _ | refine blk_drew ?_ | refine blk_alloc ?_ _)); exact z21_.out) hb); have z16_ := Aside0.mk (blk_below (g := z27_) (o := .cells #[.int .i64 z52_, .int .i64 z53_, .slice y2_ z54_.length y3_] 34 (0, 0)) (by (with_reducible repeat (first | refine blk_drewN ?_ _ | refine blk_drew ?_ | refine blk_alloc ?_ _)); refine blk_far ?_ y27_.out _; (with_reducible repeat (first | refine blk_drewN ?_ _ | refine blk_drew ?_ | refine blk_alloc ?_ _)); refine blk_far ?_ y27_.out _; (with_reducible repeat (first | refine blk_drewN ?_ _ | refine blk_drew ?_ | refine blk_alloc ?_ _)); refine blk_far ?_ y27_.out _; (with_reducible repeat (first | refine blk_drewN ?_ _ | refine blk_drew ?_ | refine blk_alloc ?_ _)); exact z32_.out) hb); have z17_ := Aside0.mk (IsS124.below (show IsS124 w0 (((y31_.setCell ⟨y15_, 0, none⟩ (.int .i64 z74_)).setCell ⟨y15_, 1, none⟩ (.int .i64 z75_)).setCell ⟨y15_, 2, none⟩ (.slice y48_ z76_.length y49_)) g s0_0 z70_ z71_ from by repeat (first | (with_reducible first | exact z3_.out | apply IsS124.alloc | apply IsS124.drewN | apply IsS124.drew | apply IsS124.set_1 | apply IsS124.set_2 | refine IsS124.far ?_ z24_.out _ | refine IsS124.far ?_ z37_.out _ | refine IsS124.far ?_ y29_.out _) | exact z3_.out)) hb); have z18_ := Aside0.mk (blk_below (g := y15_) (o := .cells #[.int .i64 z74_, .int .i64 z75_, .slice y48_ z76_.length y49_] 34 (0, 0)) (by (with_reducible repeat (first | refine blk_drewN ?_ _ | refine blk_drew ?_ | refine blk_alloc ?_ _)); refine blk_put (cs := #[.int .i64 z74_, .int .i64 z75_, .slice none 0 0]) ?_ 2 _ rfl; (with_reducible repeat (first | refine blk_drewN ?_ _ | refine blk_drew ?_ | refine blk_alloc ?_ _)); refine blk_put (cs := #[.int .i64 z74_, .int .i64 0, .slice none 0 0]) ?_ 1 _ rfl; (with_reducible repeat (first | refine blk_drewN ?_ _ | refine blk_drew ?_ | refine blk_alloc ?_ _)); refine blk_put (cs := #[.int .i64 0, .int .i64 0, .slice none 0 0]) ?_ 0 _ rfl; (with_reducible repeat (first | refine blk_drewN ?_ _ | refine blk_drew ?_ | refine blk_alloc ?_ _)); exact y22_.out) hb); have z19_ := Aside0.mk (KeepBut.trans (by repeat (first | (with_reducible first | exact HK.out | apply KeepBut.set_ | apply keep_drewN | apply keep_drew | apply keep_alloc | refine keep_far ?_ z22_.out _ | refine keep_far ?_ z33_.out _ | refine keep_far ?_ y23_.out _) | exact HK.out)) (KeepBut.of_below hb g none) (.inl rfl)); have z20_ := Aside0.mk (below_step (by repeat (first | (with_reducible first | exact HB.out | apply below_alloc | apply pw_below_drewN | apply below_drew1 | refine below_set ?_ (IsS124.ge z3_.out) | refine below_set ?_ z23_.out | refine below_set ?_ z34_.out | refine below_set ?_ y24_.out) | exact HB.out)) hb); clear z57_; clear y14_; clear z21_; clear z32_; clear z3_; clear y22_; clear HK; clear HB; have z57_ := z13_; have y14_ := z14_; have z21_ := z15_; have z32_ := z16_; have z3_ := z17_; have y22_ := z18_; have HK := z19_; have HB := z20_; clear z13_ z14_ z15_ z16_ z17_ z18_ z19_ z20_; (try clear hb); (try clear hb2); (try clear hk); (try clear hi)) | (go_at_call 115; (with_reducible refine (spec_l01Once.calls _ _ _ _ _ _ _ _ w0 _ ?side1 ?side2 z89_.out).mono ?_); (case side1 => repeat (first | (with_reducible first | exact z3_.out | apply IsS124.alloc | apply IsS124.drewN | apply IsS124.drew | apply IsS124.set_1 | apply IsS124.set_2 | refine IsS124.far ?_ z24_.out _ | refine IsS124.far ?_ z37_.out _ | refine IsS124.far ?_ y29_.out _) | exact z3_.out)); (case side2 => repeat (first | (with_reducible first | exact HB.out | apply below_alloc | apply pw_below_drewN | apply below_drew1 | refine below_set ?_ (IsS124.ge z3_.out) | refine below_set ?_ z23_.out | refine below_set ?_ z34_.out | refine below_set ?_ y24_.out) | exact HB.out)); rintro e y84_ ⟨rfl, hi, hb, hk⟩; have z13_ := Aside0.mk (Kd.R_mono (Kd.R_keep (IsS124.apart (show IsS124 w0 _ g s0_0 z70_ z71_ from by repeat (first | (with_reducible first | exact z3_.out | apply IsS124.alloc | apply IsS124.drewN | apply IsS124.drew | apply IsS124.set_1 | apply IsS124.set_2 | refine IsS124.far ?_ z24_.out _ | refine IsS124.far ?_ z37_.out _ | refine IsS124.far ?_ y29_.out _) | exact z3_.out)) (by (with_reducible repeat (first | apply Kd.R_alloc | apply Kd.R_drewN | apply Kd.R_drew)); exact z57_.out) (by decide)) hk (fun _ h => h.2)) (fun _ h => h.1)); have z14_ := Aside0.mk (KeepBut.blk hk (g' := z11_) (o := .cells #[.int .i64 0, .int .i64 0, .slice none 0 0] 34 (0, 0)) (by (with_reducible repeat (first | refine blk_drewN ?_ _ | refine blk_drew ?_ | refine blk_alloc ?_ _)); exact z21_.out) z25_.out (by simp)); have z15_ := Aside0.mk (KeepBut.blk hk (g' := z27_) (o := .cells #[.int .i64 z52_, .int .i64 z53_, .slice y2_ z54_.length y3_] 34 (0, 0)) (by (with_reducible repeat (first | refine blk_drewN ?_ _ | refine blk_drew ?_ | refine blk_alloc ?_ _)); exact z32_.out) z38_.out (by simp)); have z16_ := Aside0.mk (Kd.R_mono (Kd.R_keep (IsS124.apart (show IsS124 w0 _ g s0_0 z70_ z71_ from by repeat (first | (with_reducible first | exact z3_.out | apply IsS124.alloc | apply IsS124.drewN | apply IsS124.drew | apply IsS124.set_1 | apply IsS124.set_2 | refine IsS124.far ?_ z24_.out _ | refine IsS124.far ?_ z37_.out _ | refine IsS124.far ?_ y29_.out _) | exact z3_.out)) (by (with_reducible repeat (first | apply Kd.R_alloc | apply Kd.R_drewN | apply Kd.R_drew)); exact y14_.out) (by decide)) hk (fun _ h => h.2)) (fun _ h => h.1)); have z17_ := Aside0.mk (KeepBut.blk hk (g' := y15_) (o := .cells #[.int .i64 z74_, .int .i64 z75_, .slice y48_ z76_.length y49_] 34 (0, 0)) (by (with_reducible repeat (first | refine blk_drewN ?_ _ | refine blk_drew ?_ | refine blk_alloc ?_ _)); exact y22_.out) y30_.out (by simp)); have z18_ := Aside0.mk (KeepBut.trans (by repeat (first | (with_reducible first | exact HK.out | apply KeepBut.set_ | apply keep_drewN | apply keep_drew | apply keep_alloc | refine keep_far ?_ z22_.out _ | refine keep_far ?_ z33_.out _ | refine keep_far ?_ y23_.out _) | exact HK.out)) hk (.inl rfl)); have z19_ := Aside0.mk (hb); have z20_ := Aside0.mk (hi); clear z57_; clear z21_; clear z32_; clear y14_; clear y22_; clear HK; clear HB; clear z3_; have z57_ := z13_; have z21_ := z14_; have z32_ := z15_; have y14_ := z16_; have y22_ := z17_; have HK := z18_; have HB := z19_; have z3_ := z20_; clear z13_ z14_ z15_ z16_ z17_ z18_ z19_ z20_; (try clear hb); (try clear hb2); (try clear hk); (try clear hi); have y85_ : y84_.cell? ⟨y15_, 0, none⟩ = some (.int .i64 z74_) := (blk_cell y22_.out 0).trans rfl; have y86_ : y84_.cell? ⟨y15_, 1, none⟩ = some (.int .i64 z75_) := (blk_cell y22_.out 1).trans rfl; have y87_ : y84_.cell? ⟨y15_, 2, none⟩ = some (.slice y48_ z76_.length y49_) := (blk_cell y22_.out 2).trans rfl; have y88_ := blk_frozen y22_.out 0; have y89_ := blk_frozen y22_.out 1; have y90_ := blk_frozen y22_.out 2; have y91_ := z36_.out; have y92_ := z35_.out; have y93_ := z38_.out; have y94_ := z37_.out; have y95_ : y84_.cell? ⟨z27_, 0, none⟩ = some (.int .i64 z52_) := (blk_cell z32_.out 0).trans rfl; have y96_ : y84_.cell? ⟨z27_, 1, none⟩ = some (.int .i64 z53_) := (blk_cell z32_.out 1).trans rfl; have y97_ : y84_.cell? ⟨z27_, 2, none⟩ = some (.slice y2_ z54_.length y3_) := (blk_cell z32_.out 2).trans rfl; have y98_ := blk_frozen z32_.out 0; have y99_ := blk_frozen z32_.out 1; have y100_ := blk_frozen z32_.out 2) | (go_at_call 115; (with_reducible refine (spec_l01Once.calls _ _ _ _ _ _ _ _ w0 _ ?side1 ?side2 z89_.out).mono ?_); (case side1 => repeat (first | (with_reducible first | exact z3_.out | apply IsS124.alloc | apply IsS124.drewN | apply IsS124.drew | apply IsS124.set_1 | apply IsS124.set_2 | refine IsS124.far ?_ z24_.out _ | refine IsS124.far ?_ z37_.out _ | refine IsS124.far ?_ y29_.out _) | exact z3_.out)); (case side2 => repeat (first | (with_reducible first | exact HB.out | apply below_alloc | apply pw_below_drewN | apply below_drew1 | refine below_set ?_ (IsS124.ge z3_.out) | refine below_set ?_ z23_.out | refine below_set ?_ z34_.out | refine below_set ?_ y24_.out) | exact HB.out)); rintro e y84_ ⟨rfl, hi, hb, hk⟩; have z13_ := Aside0.mk (Kd.R_mono (Kd.R_keep (IsS124.apart (show IsS124 w0 _ g s0_0 z70_ z71_ from by repeat (first | (with_reducible first | exact z3_.out | apply IsS124.alloc | apply IsS124.drewN | apply IsS124.drew | apply IsS124.set_1 | apply IsS124.set_2 | refine IsS124.far ?_ z24_.out _ | refine IsS124.far ?_ z37_.out _ | refine IsS124.far ?_ y29_.out _) | exact z3_.out)) (by (with_reducible repeat (first | apply Kd.R_alloc | apply Kd.R_drewN | apply Kd.R_drew)); exact z57_.out) (by decide)) hk (fun _ h => h.2)) (fun _ h => h.1)); have z14_ := Aside0.mk (KeepBut.blk hk (g' := z11_) (o := .cells #[.int .i64 0, .int .i64 0, .slice none 0 0] 34 (0, 0)) (by (with_reducible repeat (first | refine blk_drewN ?_ _ | refine blk_drew ?_ | refine blk_alloc ?_ _)); exact z21_.out) z25_.out (by simp)); have z15_ := Aside0.mk (KeepBut.blk hk (g' := z27_) (o := .cells #[.int .i64 z52_, .int .i64 z53_, .slice y2_ z54_.length y3_] 34 (0, 0)) (by (with_reducible repeat (first | refine blk_drewN ?_ _ | refine blk_drew ?_ | refine blk_alloc ?_ _)); exact z32_.out) z38_.out (by simp)); have z16_ := Aside0.mk (Kd.R_mono (Kd.R_keep (IsS124.apart (show IsS124 w0 _ g s0_0 z70_ z71_ from by repeat (first | (with_reducible first | exact z3_.out | apply IsS124.alloc | apply IsS124.drewN | apply IsS124.drew | apply IsS124.set_1 | apply IsS124.set_2 | refine IsS124.far ?_ z24_.out _ | refine IsS124.far ?_ z37_.out _ | refine IsS124.far ?_ y29_.out _) | exact z3_.out)) (by (with_reducible repeat (first | apply Kd.R_alloc | apply Kd.R_drewN | apply Kd.R_drew)); exact y14_.out) (by decide)) hk (fun _ h => h.2)) (fun _ h => h.1)); have z17_ := Aside0.mk (KeepBut.blk hk (g' := y15_) (o := .cells #[.int .i64 z74_, .int .i64 z75_, .slice y48_ z76_.length y49_] 34 (0, 0)) (by (with_reducible repeat (first | refine blk_drewN ?_ _ | refine blk_drew ?_ | refine blk_alloc ?_ _)); exact y22_.out) y30_.out (by simp)); have z18_ := Aside0.mk (KeepBut.trans (by repeat (first | (with_reducible first | exact HK.out | apply KeepBut.set_ | apply keep_drewN | apply keep_drew | apply keep_alloc | refine keep_far ?_ z22_.out _ | refine keep_far ?_ z33_.out _ | refine keep_far ?_ y23_.out _) | exact HK.out)) hk (.inl rfl)); have z19_ := Aside0.mk (hb); have z20_ := Aside0.mk (hi); clear z57_; clear z21_; clear z32_; clear y14_; clear y22_; clear HK; clear HB; clear z3_; have z57_ := z13_; have z21_ := z14_; have z32_ := z15_; have y14_ := z16_; have y22_ := z17_; have HK := z18_; have HB := z19_; have z3_ := z20_; clear z13_ z14_ z15_ z16_ z17_ z18_ z19_ z20_; (try clear hb); (try clear hb2); (try clear hk); (try clear hi)))
         first
           | skip
             go_roundg z58_
             case measure => have := z56_.out; omega
             case rel => exact ⟨(wrap64 (z49_ + 1)), (z86_), (z87_), (z74_), (z75_), (z76_), (.slice y48_ z76_.length y49_), (by first | rfl | (simp; done) | (simp [*]; done)), H', ⟨by have := z56_.out; omega⟩, ⟨by (with_reducible repeat (first | apply Kd.R_alloc | apply Kd.R_drewN | apply Kd.R_drew)); exact Kd.R_mono (Kd.R_far (p := ⟨z27_, 2, none⟩) (Kd.R_far (p := ⟨z27_, 1, none⟩) (Kd.R_far (p := ⟨z27_, 0, none⟩) (Kd.R_types y14_.out z32_.out (by decide)) (fun _ hk => hk.2) (.int .i64 z74_)) (fun _ hk => hk.2) (.int .i64 z75_)) (fun _ hk => hk.2) (.slice y48_ z76_.length y49_)) (fun _ hk => trivial)⟩, ⟨by (with_reducible repeat (first | refine blk_drewN ?_ _ | refine blk_drew ?_ | refine blk_alloc ?_ _)); refine blk_far ?_ z35_.out _; (with_reducible repeat (first | refine blk_drewN ?_ _ | refine blk_drew ?_ | refine blk_alloc ?_ _)); refine blk_far ?_ z35_.out _; (with_reducible repeat (first | refine blk_drewN ?_ _ | refine blk_drew ?_ | refine blk_alloc ?_ _)); refine blk_far ?_ z35_.out _; (with_reducible repeat (first | refine blk_drewN ?_ _ | refine blk_drew ?_ | refine blk_alloc ?_ _)); exact z21_.out⟩, ⟨by (with_reducible repeat (first | refine blk_drewN ?_ _ | refine blk_drew ?_ | refine blk_alloc ?_ _)); refine blk_put (cs := #[.int .i64 z74_, .int .i64 z75_, .slice y2_ z54_.length y3_]) ?_ 2 _ rfl; (with_reducible repeat (first | refine blk_drewN ?_ _ | refine blk_drew ?_ | refine blk_alloc ?_ _)); refine blk_put (cs := #[.int .i64 z74_, .int .i64 z53_, .slice y2_ z54_.length y3_]) ?_ 1 _ rfl; (with_reducible repeat (first | refine blk_drewN ?_ _ | refine blk_drew ?_ | refine blk_alloc ?_ _)); refine blk_put (cs := #[.int .i64 z52_, .int .i64 z53_, .slice y2_ z54_.length y3_]) ?_ 0 _ rfl; (with_reducible repeat (first | refine blk_drewN ?_ _ | refine blk_drew ?_ | refine blk_alloc ?_ _)); exact z32_.out⟩, ⟨by repeat (first | (with_reducible first | exact z3_.out | apply IsS124.alloc | apply IsS124.drewN | apply IsS124.drew | apply IsS124.set_1 | apply IsS124.set_2 | refine IsS124.far ?_ z24_.out _ | refine IsS124.far ?_ z37_.out _ | refine IsS124.far ?_ y29_.out _) | exact z3_.out)⟩, ⟨by repeat (first | (with_reducible first | exact HK.out | apply KeepBut.set_ | apply keep_drewN | apply keep_drew | apply keep_alloc | refine keep_far ?_ z22_.out _ | refine keep_far ?_ z33_.out _ | refine keep_far ?_ y23_.out _) | exact HK.out)⟩, ⟨by repeat (first | (with_reducible first | exact HB.out | apply below_alloc | apply pw_below_drewN | apply below_drew1 | refine below_set ?_ (IsS124.ge z3_.out) | refine below_set ?_ z23_.out | refine below_set ?_ z34_.out | refine below_set ?_ y24_.out) | exact HB.out)⟩⟩
           | skip
             go_roundg z58_
             case measure => have := z56_.out; omega
             case rel => exact ⟨(wrap64 (z49_ + 1)), (z86_), (z87_), (z52_), (z53_), (z54_), (.slice y2_ z54_.length y3_), (by first | rfl | (simp; done) | (simp [*]; done)), H', ⟨by have := z56_.out; omega⟩, ⟨by (with_reducible repeat (first | apply Kd.R_alloc | apply Kd.R_drewN | apply Kd.R_drew)); exact Kd.R_mono z57_.out (fun _ hk => trivial)⟩, ⟨by (with_reducible repeat (first | refine blk_drewN ?_ _ | refine blk_drew ?_ | refine blk_alloc ?_ _)); exact z21_.out⟩, ⟨by (with_reducible repeat (first | refine blk_drewN ?_ _ | refine blk_drew ?_ | refine blk_alloc ?_ _)); exact z32_.out⟩, ⟨by repeat (first | (with_reducible first | exact z3_.out | apply IsS124.alloc | apply IsS124.drewN | apply IsS124.drew | apply IsS124.set_1 | apply IsS124.set_2 | refine IsS124.far ?_ z24_.out _ | refine IsS124.far ?_ z37_.out _ | refine IsS124.far ?_ y29_.out _) | exact z3_.out)⟩, ⟨by repeat (first | (with_reducible first | exact HK.out | apply KeepBut.set_ | apply keep_drewN | apply keep_drew | apply keep_alloc | refine keep_far ?_ z22_.out _ | refine keep_far ?_ z33_.out _ | refine keep_far ?_ y23_.out _) | exact HK.out)⟩, ⟨by repeat (first | (with_reducible first | exact HB.out | apply below_alloc | apply pw_below_drewN | apply below_drew1 | refine below_set ?_ (IsS124.ge z3_.out) | refine below_set ?_ z23_.out | refine below_set ?_ z34_.out | refine below_set ?_ y24_.out) | exact HB.out)⟩⟩
       | skip
         try go_wp2_with (first | ((with_reducible refine gate_callee (f := 72) rfl ?_); refine goesL_ (some 12) rfl rfl Try.func72 (by kernel_rfl) rfl #[.pointer (some ⟨g, 0, none⟩), .int .i64 5] rfl (by (try simp only [List.map_toArray, List.map_cons, List.map_nil]); first | done | rfl | (simp only [List.length_drop, List.length_take]; rfl)) ?_; (with_reducible refine (spec_l01Below.calls _ _ _ _ _ _ _ _ w0 _ ?side1 ?side2 z63_.out).mono ?_); (case side1 => repeat (first | (with_reducible first | exact z3_.out | apply IsS124.alloc | apply IsS124.drewN | apply IsS124.drew | apply IsS124.set_1 | apply IsS124.set_2 | refine IsS124.far ?_ z24_.out _ | refine IsS124.far ?_ z37_.out _) | exact z3_.out)); (case side2 => repeat (first | (with_reducible first | exact HB.out | apply below_alloc | apply pw_below_drewN | apply below_drew1 | refine below_set ?_ (IsS124.ge z3_.out) | refine below_set ?_ z23_.out | refine below_set ?_ z34_.out) | exact HB.out)); rintro e y1_ ⟨rfl, hi, hb, hk⟩; refine ⟨_, rfl, ?_⟩; have z13_ := Aside0.mk (Kd.R_mono (Kd.R_keep (IsS124.apart (show IsS124 w0 _ g s0_0 z50_ z51_ from by repeat (first | (with_reducible first | exact z3_.out | apply IsS124.alloc | apply IsS124.drewN | apply IsS124.drew | apply IsS124.set_1 | apply IsS124.set_2 | refine IsS124.far ?_ z24_.out _ | refine IsS124.far ?_ z37_.out _) | exact z3_.out)) (by (with_reducible repeat (first | apply Kd.R_alloc | apply Kd.R_drewN | apply Kd.R_drew)); exact z57_.out) (by decide)) hk (fun _ h => h.2)) (fun _ h => h.1)); have z14_ := Aside0.mk (KeepBut.blk hk (g' := z11_) (o := .cells #[.int .i64 0, .int .i64 0, .slice none 0 0] 34 (0, 0)) (by (with_reducible repeat (first | refine blk_drewN ?_ _ | refine blk_drew ?_ | refine blk_alloc ?_ _)); exact z21_.out) z25_.out (by simp)); have z15_ := Aside0.mk (KeepBut.blk hk (g' := z27_) (o := .cells #[.int .i64 z52_, .int .i64 z53_, z55_] 34 (0, 0)) (by (with_reducible repeat (first | refine blk_drewN ?_ _ | refine blk_drew ?_ | refine blk_alloc ?_ _)); exact z32_.out) z38_.out (by simp)); have z16_ := Aside0.mk (KeepBut.trans (by repeat (first | (with_reducible first | exact HK.out | apply KeepBut.set_ | apply keep_drewN | apply keep_drew | apply keep_alloc | refine keep_far ?_ z22_.out _ | refine keep_far ?_ z33_.out _) | exact HK.out)) hk (.inl rfl)); have z17_ := Aside0.mk (hb); have z18_ := Aside0.mk (hi); clear z57_; clear z21_; clear z32_; clear HK; clear HB; clear z3_; have z57_ := z13_; have z21_ := z14_; have z32_ := z15_; have HK := z16_; have HB := z17_; have z3_ := z18_; clear z13_ z14_ z15_ z16_ z17_ z18_; (try clear hb); (try clear hb2); (try clear hk); (try clear hi); obtain ⟨y2_, y3_, y4_⟩ := Kd.R_slice z57_.out; subst y4_))
         have z13_ := Aside0.mk (Kd.R_drew z57_.out)
         have z14_ := Aside0.mk (blk_drew z21_.out)
         have z15_ := Aside0.mk (blk_drew z32_.out)
         have z16_ := Aside0.mk (IsS124.drew z3_.out)
         have z17_ := Aside0.mk (keep_drew HK.out)
         have z18_ := Aside0.mk (below_drew1 HB.out)
         clear z57_
         clear z21_
         clear z32_
         clear z3_
         clear HK
         clear HB
         have z57_ := z13_
         have z21_ := z14_
         have z32_ := z15_
         have z3_ := z16_
         have HK := z17_
         have HB := z18_
         clear z13_ z14_ z15_ z16_ z17_ z18_
         refine start_ (n := 14) (S := fun w' => w'.cell? ⟨z27_, 0, none⟩ = some (.int .i64 z52_) ∧ w'.cell? ⟨z27_, 1, none⟩ = some (.int .i64 z53_) ∧ w'.cell? ⟨z27_, 2, none⟩ = some (.slice y2_ z54_.length y3_)) (ds := []) #[false, false, false, false, false, false, false, false, false, false, false, false, false, false] (by kernel_rfl) rfl rfl ⟨(blk_cell z32_.out 0).trans rfl, (blk_cell z32_.out 1).trans rfl, (blk_cell z32_.out 2).trans rfl⟩ (fun hHeld => ?_); refine with_tabW spec_l33Mesh.tab5 spec_l33Mesh.bits5 (fun HT_ HW_ => ?_)
         generalize y1_.drew = y5_ at z57_ z21_ z32_ z3_ HK HB hHeld ⊢
         refine pure_ (i := 1) (N := some 18) (v := ?_) (a' := ?_) #[false, true, false, false, false, false, false, false, false, false, false, false, false, false] rfl rfl (any_of HT_.out (by kernel_rfl)) (fun _ _ _ h => h) (Or.inl ⟨by rfl, ?_⟩) ?_ ?_
         rotate_left
         · intro w'
           go_simp
           with_reducible rfl
         rotate_left
         · simp only [Act.put, List.setIfInBounds_toArray, List.set_cons_zero, List.set_cons_succ, i64_w, i32_w]
           rfl
         refine pure_ (i := 2) (N := some 19) (v := ?_) (a' := ?_) #[false, true, true, false, false, false, false, false, false, false, false, false, false, false] rfl rfl (any_of HT_.out (by kernel_rfl)) (fun _ _ _ h => h) (Or.inl ⟨by rfl, ?_⟩) ?_ ?_
         rotate_left
         · intro w'
           go_simp
           with_reducible rfl
         rotate_left
         · simp only [Act.put, List.setIfInBounds_toArray, List.set_cons_zero, List.set_cons_succ, i64_w, i32_w]
           rfl
         refine take_ (i := 0) (N := some 17) (v := ?_) (a' := ?_) #[true, true, true, false, false, false, false, false, false, false, false, false, false, false] rfl rfl (take_ofW HT_.out HW_.out (by kernel_rfl)) (fun _ _ _ h => h) (Or.inl ⟨by rfl, ?_⟩) hHeld ?_ ?_
         rotate_left
         · rintro w' ⟨y6_, y7_, y8_⟩
           go_simp
           with_reducible rfl
         rotate_left
         · simp only [Act.put, List.setIfInBounds_toArray, List.set_cons_zero, List.set_cons_succ, i64_w, i32_w]
           rfl
         refine take_ (i := 3) (N := some 20) (v := ?_) (a' := ?_) #[true, true, true, true, false, false, false, false, false, false, false, false, false, false] rfl rfl (take_ofW HT_.out HW_.out (by kernel_rfl)) (fun _ _ _ h => h) (Or.inl ⟨by rfl, ?_⟩) hHeld ?_ ?_
         rotate_left
         · rintro w' ⟨y6_, y7_, y8_⟩
           go_simp
           with_reducible rfl
         rotate_left
         · simp only [Act.put, List.setIfInBounds_toArray, List.set_cons_zero, List.set_cons_succ, i64_w, i32_w]
           rfl
         refine join_ (σ := Value × Nat) 2 #[true, true, true, true, true, true, true, true, true, true, true, true, false, false] (fun s_ => [(21, .int .i64 z66_), (23, .int .i64 z69_), (24, .tuple #[.agg #[.int .i64 z74_, .int .i64 z75_, s_.1], .bool z77_]), (5, .pointer (some ⟨s_.2, 0, none⟩)), (22, .int .i64 (wrap64 (4 * z66_))), (16, .tuple #[.agg #[.int .i64 z74_, .int .i64 z75_, s_.1], .bool z77_]), (25, .agg #[.int .i64 z74_, .int .i64 z75_, s_.1]), (26, .bool z77_)]) (fun s_ w' => (w'.cell? ⟨z27_, 0, none⟩ = some (.int .i64 z52_) ∧ w'.cell? ⟨z27_, 1, none⟩ = some (.int .i64 z53_) ∧ w'.cell? ⟨z27_, 2, none⟩ = some (.slice y2_ z54_.length y3_)) ∧ (Kd.R (Kd.int .i64) 3 w' w.heap.size (fun k_ => some k_ ≠ (.slice y2_ z54_.length y3_ : Value).ownBlock) s_.1 z76_) ∧ (Kd.R (Kd.int .i64) 3 w' w.heap.size (fun k_ => some k_ ≠ (s_.1 : Value).ownBlock) (.slice y2_ z54_.length y3_) z54_) ∧ (w'.heap[z11_]? = some (.cells #[.int .i64 0, .int .i64 0, .slice none 0 0] 34 (0, 0))) ∧ (w'.heap[z27_]? = some (.cells #[.int .i64 z52_, .int .i64 z53_, .slice y2_ z54_.length y3_] 34 (0, 0))) ∧ (w'.heap[s_.2]? = some (.cells #[.int .i64 0, .int .i64 0, .slice none 0 0] 34 (0, 0))) ∧ (w.heap.size ≤ s_.2) ∧ (w0.heap.size ≤ s_.2) ∧ (g ≠ s_.2) ∧ (s_.2 ≠ g) ∧ (z11_ ≠ s_.2) ∧ (s_.2 ≠ z11_) ∧ (z27_ ≠ s_.2) ∧ (s_.2 ≠ z27_) ∧ (IsS124 w0 w' g s0_0 z70_ z71_) ∧ (KeepBut w w' g none) ∧ (Below w0.heap.size w0 w')) ?_ ?_
         rotate_left
         · intro hCont
           refine two_ (i := 4) (j := 11) (Ni := some 21) (Nj := some 5) #[true, true, true, true, true, false, false, false, false, false, false, false, false, false] #[true, true, true, true, false, false, false, false, false, false, false, true, false, false] rfl rfl rfl rfl (two_of HT_.out (by kernel_rfl)) (by decide) (by decide) (fun K hK => ?_) (fun K hK => ?_)
           · skip
             refine goes_ Try.func87 (by kernel_rfl) rfl #[.agg #[.int .i64 z52_, .int .i64 z53_]] (by rfl) rfl rfl (by (try simp only [List.map_toArray, List.map_cons, List.map_nil]); first | done | rfl | (simp only [List.length_drop, List.length_take]; rfl)) ?_
             with_reducible refine (spec_NodeCount.calls _ _ _ _ z68_.out).mono ?_
             rintro e y9_ ⟨rfl, hb⟩
             refine ⟨_, rfl, ?_⟩
             have z13_ := Aside0.mk (Kd.R_below (by (with_reducible repeat (first | apply Kd.R_alloc | apply Kd.R_drewN | apply Kd.R_drew)); exact z57_.out) hb)
             have z14_ := Aside0.mk (blk_below (g := z11_) (o := .cells #[.int .i64 0, .int .i64 0, .slice none 0 0] 34 (0, 0)) (by (with_reducible repeat (first | refine blk_drewN ?_ _ | refine blk_drew ?_ | refine blk_alloc ?_ _)); exact z21_.out) hb)
             have z15_ := Aside0.mk (blk_below (g := z27_) (o := .cells #[.int .i64 z52_, .int .i64 z53_, .slice y2_ z54_.length y3_] 34 (0, 0)) (by (with_reducible repeat (first | refine blk_drewN ?_ _ | refine blk_drew ?_ | refine blk_alloc ?_ _)); exact z32_.out) hb)
             have z16_ := Aside0.mk (IsS124.below (by repeat (first | (with_reducible first | exact z3_.out | apply IsS124.alloc | apply IsS124.drewN | apply IsS124.drew | apply IsS124.set_1 | apply IsS124.set_2 | refine IsS124.far ?_ z24_.out _ | refine IsS124.far ?_ z37_.out _) | exact z3_.out)) hb)
             have z17_ := Aside0.mk (KeepBut.trans (by repeat (first | (with_reducible first | exact HK.out | apply KeepBut.set_ | apply keep_drewN | apply keep_drew | apply keep_alloc | refine keep_far ?_ z22_.out _ | refine keep_far ?_ z33_.out _) | exact HK.out)) (KeepBut.of_below hb g none) (.inl rfl))
             have z18_ := Aside0.mk (below_step (by repeat (first | (with_reducible first | exact HB.out | apply below_alloc | apply pw_below_drewN | apply below_drew1 | refine below_set ?_ (IsS124.ge z3_.out) | refine below_set ?_ z23_.out | refine below_set ?_ z34_.out) | exact HB.out)) hb)
             clear z57_
             clear z21_
             clear z32_
             clear z3_
             clear HK
             clear HB
             have z57_ := z13_
             have z21_ := z14_
             have z32_ := z15_
             have z3_ := z16_
             have HK := z17_
             have HB := z18_
             clear z13_ z14_ z15_ z16_ z17_ z18_
             (try clear hb)
             (try clear hb2)
             (try clear hk)
             (try clear hi)
             refine hK.out _ _ ⟨(blk_cell z32_.out 0).trans rfl, (blk_cell z32_.out 1).trans rfl, (blk_cell z32_.out 2).trans rfl⟩ (fun hHeld => ?_)
             clear hK K
             refine norm_ (a' := ?_) ?_ ?_
             rotate_left
             · show Act.put _ (some 21) _ = _
               simp only [Act.put, List.setIfInBounds_toArray, List.set_cons_zero, List.set_cons_succ, i64_w, i32_w]
               rfl
             refine pure_ (i := 5) (N := some 22) (v := ?_) (a' := ?_) #[true, true, true, true, true, true, false, false, false, false, false, false, false, false] rfl rfl (any_of HT_.out (by kernel_rfl)) (fun _ _ _ h => h) (Or.inl ⟨by rfl, ?_⟩) ?_ ?_
             rotate_left
             · intro w'
               go_simp
               with_reducible rfl
             rotate_left
             · simp only [Act.put, List.setIfInBounds_toArray, List.set_cons_zero, List.set_cons_succ, i64_w, i32_w]
               rfl
             refine two_ (i := 6) (j := 11) (Ni := some 23) (Nj := some 5) #[true, true, true, true, true, true, true, false, false, false, false, false, false, false] #[true, true, true, true, true, true, false, false, false, false, false, true, false, false] rfl rfl rfl rfl (two_of HT_.out (by kernel_rfl)) (by decide) (by decide) (fun K hK => ?_) (fun K hK => ?_)
             · skip
               refine goes_ Try.func72 (by kernel_rfl) rfl #[.pointer (some ⟨g, 0, none⟩), .int .i64 (wrap64 (4 * z66_))] (by rfl) rfl rfl (by (try simp only [List.map_toArray, List.map_cons, List.map_nil]); first | done | rfl | (simp only [List.length_drop, List.length_take]; rfl)) ?_
               with_reducible refine (spec_l01Below.calls _ _ _ _ _ _ _ _ w0 _ ?side1 ?side2 z73_.out).mono ?_
               (case side1 => repeat (first | (with_reducible first | exact z3_.out | apply IsS124.alloc | apply IsS124.drewN | apply IsS124.drew | apply IsS124.set_1 | apply IsS124.set_2 | refine IsS124.far ?_ z24_.out _ | refine IsS124.far ?_ z37_.out _) | exact z3_.out))
               (case side2 => repeat (first | (with_reducible first | exact HB.out | apply below_alloc | apply pw_below_drewN | apply below_drew1 | refine below_set ?_ (IsS124.ge z3_.out) | refine below_set ?_ z23_.out | refine below_set ?_ z34_.out) | exact HB.out))
               rintro e y10_ ⟨rfl, hi, hb, hk⟩
               refine ⟨_, rfl, ?_⟩
               have z13_ := Aside0.mk (Kd.R_mono (Kd.R_keep (IsS124.apart (show IsS124 w0 _ g s0_0 z60_ z61_ from by repeat (first | (with_reducible first | exact z3_.out | apply IsS124.alloc | apply IsS124.drewN | apply IsS124.drew | apply IsS124.set_1 | apply IsS124.set_2 | refine IsS124.far ?_ z24_.out _ | refine IsS124.far ?_ z37_.out _) | exact z3_.out)) (by (with_reducible repeat (first | apply Kd.R_alloc | apply Kd.R_drewN | apply Kd.R_drew)); exact z57_.out) (by decide)) hk (fun _ h => h.2)) (fun _ h => h.1))
               have z14_ := Aside0.mk (KeepBut.blk hk (g' := z11_) (o := .cells #[.int .i64 0, .int .i64 0, .slice none 0 0] 34 (0, 0)) (by (with_reducible repeat (first | refine blk_drewN ?_ _ | refine blk_drew ?_ | refine blk_alloc ?_ _)); exact z21_.out) z25_.out (by simp))
               have z15_ := Aside0.mk (KeepBut.blk hk (g' := z27_) (o := .cells #[.int .i64 z52_, .int .i64 z53_, .slice y2_ z54_.length y3_] 34 (0, 0)) (by (with_reducible repeat (first | refine blk_drewN ?_ _ | refine blk_drew ?_ | refine blk_alloc ?_ _)); exact z32_.out) z38_.out (by simp))
               have z16_ := Aside0.mk (KeepBut.trans (by repeat (first | (with_reducible first | exact HK.out | apply KeepBut.set_ | apply keep_drewN | apply keep_drew | apply keep_alloc | refine keep_far ?_ z22_.out _ | refine keep_far ?_ z33_.out _) | exact HK.out)) hk (.inl rfl))
               have z17_ := Aside0.mk (hb)
               have z18_ := Aside0.mk (hi)
               clear z57_
               clear z21_
               clear z32_
               clear HK
               clear HB
               clear z3_
               have z57_ := z13_
               have z21_ := z14_
               have z32_ := z15_
               have HK := z16_
               have HB := z17_
               have z3_ := z18_
               clear z13_ z14_ z15_ z16_ z17_ z18_
               (try clear hb)
               (try clear hb2)
               (try clear hk)
               (try clear hi)
               refine hK.out _ _ ⟨(blk_cell z32_.out 0).trans rfl, (blk_cell z32_.out 1).trans rfl, (blk_cell z32_.out 2).trans rfl⟩ (fun hHeld => ?_)
               clear hK K
               refine norm_ (a' := ?_) ?_ ?_
               rotate_left
               · show Act.put _ (some 23) _ = _
                 simp only [Act.put, List.setIfInBounds_toArray, List.set_cons_zero, List.set_cons_succ, i64_w, i32_w]
                 rfl
               refine two_ (i := 7) (j := 11) (Ni := some 24) (Nj := some 5) #[true, true, true, true, true, true, true, true, false, false, false, false, false, false] #[true, true, true, true, true, true, true, false, false, false, false, true, false, false] rfl rfl rfl rfl (two_of HT_.out (by kernel_rfl)) (by decide) (by decide) (fun K hK => ?_) (fun K hK => ?_)
               · skip
                 refine goes_ Try.func124 (by kernel_rfl) rfl #[.agg #[.int .i64 z52_, .int .i64 z53_, .slice y2_ z54_.length y3_], .int .i64 z69_] (by rfl) rfl rfl (by (try simp only [List.map_toArray, List.map_cons, List.map_nil]); first | done | rfl | (simp only [List.length_drop, List.length_take]; rfl)) ?_
                 with_reducible refine (spec_WithBroken.calls _ _ _ _ _ _ _ _ _ _ _ _ ?side1 ?side2 z79_.out).mono ?_
                 (case side1 => repeat (first | exact (Kd.R_reads' z57_.out).2.2 | (with_reducible refine Kd.C_alloc ?_ _) | (with_reducible refine Kd.C_drewN ?_ _) | (with_reducible refine Kd.C_drew ?_)))
                 (case side2 => exact (Kd.R_reads' z57_.out).2.1)
                 rintro e y11_ ⟨y12_, rfl, y13_, hb⟩
                 refine ⟨_, rfl, ?_⟩
                 have z13_ := Aside0.mk (Kd.R_elder' (by (with_reducible repeat (first | apply Kd.R_alloc | apply Kd.R_drewN | apply Kd.R_drew)); exact z57_.out) (Kd.R_base y13_) hb)
                 have z14_ := Aside0.mk (Kd.R_lower (Kd.R_new' y13_ (Kd.R_lt (by (with_reducible repeat (first | apply Kd.R_alloc | apply Kd.R_drewN | apply Kd.R_drew)); exact z57_.out))) (keep_size (w := w) (g := g) (row := none) (by repeat (first | (with_reducible first | exact HK.out | apply KeepBut.set_ | apply keep_drewN | apply keep_drew | apply keep_alloc | refine keep_far ?_ z22_.out _ | refine keep_far ?_ z33_.out _) | exact HK.out))))
                 have z15_ := Aside0.mk (blk_below (g := z11_) (o := .cells #[.int .i64 0, .int .i64 0, .slice none 0 0] 34 (0, 0)) (by (with_reducible repeat (first | refine blk_drewN ?_ _ | refine blk_drew ?_ | refine blk_alloc ?_ _)); exact z21_.out) hb)
                 have z16_ := Aside0.mk (blk_below (g := z27_) (o := .cells #[.int .i64 z52_, .int .i64 z53_, .slice y2_ z54_.length y3_] 34 (0, 0)) (by (with_reducible repeat (first | refine blk_drewN ?_ _ | refine blk_drew ?_ | refine blk_alloc ?_ _)); exact z32_.out) hb)
                 have z17_ := Aside0.mk (IsS124.below (by repeat (first | (with_reducible first | exact z3_.out | apply IsS124.alloc | apply IsS124.drewN | apply IsS124.drew | apply IsS124.set_1 | apply IsS124.set_2 | refine IsS124.far ?_ z24_.out _ | refine IsS124.far ?_ z37_.out _) | exact z3_.out)) hb)
                 have z18_ := Aside0.mk (KeepBut.trans (by repeat (first | (with_reducible first | exact HK.out | apply KeepBut.set_ | apply keep_drewN | apply keep_drew | apply keep_alloc | refine keep_far ?_ z22_.out _ | refine keep_far ?_ z33_.out _) | exact HK.out)) (KeepBut.of_below hb g none) (.inl rfl))
                 have z19_ := Aside0.mk (below_step (by repeat (first | (with_reducible first | exact HB.out | apply below_alloc | apply pw_below_drewN | apply below_drew1 | refine below_set ?_ (IsS124.ge z3_.out) | refine below_set ?_ z23_.out | refine below_set ?_ z34_.out) | exact HB.out)) hb)
                 clear z57_
                 clear z21_
                 clear z32_
                 clear z3_
                 clear HK
                 clear HB
                 have z57_ := z13_
                 have y14_ := z14_
                 have z21_ := z15_
                 have z32_ := z16_
                 have z3_ := z17_
                 have HK := z18_
                 have HB := z19_
                 clear z13_ z14_ z15_ z16_ z17_ z18_ z19_
                 (try clear hb)
                 (try clear hb2)
                 (try clear hk)
                 (try clear hi)
                 (try clear y13_)
                 refine hK.out _ _ ⟨(blk_cell z32_.out 0).trans rfl, (blk_cell z32_.out 1).trans rfl, (blk_cell z32_.out 2).trans rfl⟩ (fun hHeld => ?_)
                 clear hK K
                 refine norm_ (a' := ?_) ?_ ?_
                 rotate_left
                 · show Act.put _ (some 24) _ = _
                   simp only [Act.put, List.setIfInBounds_toArray, List.set_cons_zero, List.set_cons_succ, i64_w, i32_w]
                   rfl
                 refine pure_ (i := 8) (N := some 16) (v := ?_) (a' := ?_) #[true, true, true, true, true, true, true, true, true, false, false, false, false, false] rfl rfl (any_of HT_.out (by kernel_rfl)) (fun _ _ _ h => h) (Or.inl ⟨by rfl, ?_⟩) ?_ ?_
                 rotate_left
                 · intro w'
                   go_simp
                   with_reducible rfl
                 rotate_left
                 · simp only [Act.put, List.setIfInBounds_toArray, List.set_cons_zero, List.set_cons_succ, i64_w, i32_w]
                   rfl
                 refine pure_ (i := 9) (N := some 25) (v := ?_) (a' := ?_) #[true, true, true, true, true, true, true, true, true, true, false, false, false, false] rfl rfl (any_of HT_.out (by kernel_rfl)) (fun _ _ _ h => h) (Or.inl ⟨by rfl, ?_⟩) ?_ ?_
                 rotate_left
                 · intro w'
                   go_simp
                   with_reducible rfl
                 rotate_left
                 · simp only [Act.put, List.setIfInBounds_toArray, List.set_cons_zero, List.set_cons_succ, i64_w, i32_w]
                   rfl
                 refine pure_ (i := 10) (N := some 26) (v := ?_) (a' := ?_) #[true, true, true, true, true, true, true, true, true, true, true, false, false, false] rfl rfl (any_of HT_.out (by kernel_rfl)) (fun _ _ _ h => h) (Or.inl ⟨by rfl, ?_⟩) ?_ ?_
                 rotate_left
                 · intro w'
                   go_simp
                   with_reducible rfl
                 rotate_left
                 · simp only [Act.put, List.setIfInBounds_toArray, List.set_cons_zero, List.set_cons_succ, i64_w, i32_w]
                   rfl
                 refine one_ (i := 11) (N := some 5) #[true, true, true, true, true, true, true, true, true, true, true, true, false, false] rfl rfl (one_of HT_.out (by kernel_rfl)) (by decide) (fun K hK => ?_)
                 refine box_step ?hg (N := 5) ?hd (cs := #[.int .i64 0, .int .i64 0, .slice none 0 0]) (t := 34) ?hr ?_; (case hd => rfl); (case hg => rfl); (case hr => first | (go_simp; done) | (go_simp; rfl))
                 intro y15_ hg y16_ hbox hb
                 have z13_ := Aside0.mk (Kd.R_below (by (with_reducible repeat (first | apply Kd.R_alloc | apply Kd.R_drewN | apply Kd.R_drew)); exact z57_.out) hb)
                 have z14_ := Aside0.mk (Kd.R_below (by (with_reducible repeat (first | apply Kd.R_alloc | apply Kd.R_drewN | apply Kd.R_drew)); exact y14_.out) hb)
                 have z15_ := Aside0.mk (blk_below (g := z11_) (o := .cells #[.int .i64 0, .int .i64 0, .slice none 0 0] 34 (0, 0)) (by (with_reducible repeat (first | refine blk_drewN ?_ _ | refine blk_drew ?_ | refine blk_alloc ?_ _)); exact z21_.out) hb)
                 have z16_ := Aside0.mk (blk_below (g := z27_) (o := .cells #[.int .i64 z52_, .int .i64 z53_, .slice y2_ z54_.length y3_] 34 (0, 0)) (by (with_reducible repeat (first | refine blk_drewN ?_ _ | refine blk_drew ?_ | refine blk_alloc ?_ _)); exact z32_.out) hb)
                 have z17_ := Aside0.mk (IsS124.below (by repeat (first | (with_reducible first | exact z3_.out | apply IsS124.alloc | apply IsS124.drewN | apply IsS124.drew | apply IsS124.set_1 | apply IsS124.set_2 | refine IsS124.far ?_ z24_.out _ | refine IsS124.far ?_ z37_.out _) | exact z3_.out)) hb)
                 have z18_ := Aside0.mk (KeepBut.trans (by repeat (first | (with_reducible first | exact HK.out | apply KeepBut.set_ | apply keep_drewN | apply keep_drew | apply keep_alloc | refine keep_far ?_ z22_.out _ | refine keep_far ?_ z33_.out _) | exact HK.out)) (KeepBut.of_below hb g none) (.inl rfl))
                 have z19_ := Aside0.mk (below_step (by repeat (first | (with_reducible first | exact HB.out | apply below_alloc | apply pw_below_drewN | apply below_drew1 | refine below_set ?_ (IsS124.ge z3_.out) | refine below_set ?_ z23_.out | refine below_set ?_ z34_.out) | exact HB.out)) hb)
                 have z20_ := Aside0.mk (hbox)
                 have z29_ := Aside0.mk ((by rw [hg]; exact (keep_size (w := w) (g := g) (row := none) (by repeat (first | (with_reducible first | exact HK.out | apply KeepBut.set_ | apply keep_drewN | apply keep_drew | apply keep_alloc | refine keep_far ?_ z22_.out _ | refine keep_far ?_ z33_.out _) | exact HK.out))) : w.heap.size ≤ y15_))
                 have z30_ := Aside0.mk ((Nat.le_trans z4_.out (by rw [hg]; exact (keep_size (w := w) (g := g) (row := none) (by repeat (first | (with_reducible first | exact HK.out | apply KeepBut.set_ | apply keep_drewN | apply keep_drew | apply keep_alloc | refine keep_far ?_ z22_.out _ | refine keep_far ?_ z33_.out _) | exact HK.out))) : w.heap.size ≤ y15_) : w0.heap.size ≤ y15_))
                 have z31_ := Aside0.mk ((by rw [hg]; exact Nat.ne_of_lt (blk_lt (g := z11_) (o := .cells #[.int .i64 0, .int .i64 0, .slice none 0 0] 34 (0, 0)) (by (with_reducible repeat (first | refine blk_drewN ?_ _ | refine blk_drew ?_ | refine blk_alloc ?_ _)); exact z21_.out)) : z11_ ≠ y15_))
                 have y17_ := Aside0.mk ((by rw [hg]; exact Nat.ne_of_gt (blk_lt (g := z11_) (o := .cells #[.int .i64 0, .int .i64 0, .slice none 0 0] 34 (0, 0)) (by (with_reducible repeat (first | refine blk_drewN ?_ _ | refine blk_drew ?_ | refine blk_alloc ?_ _)); exact z21_.out)) : y15_ ≠ z11_))
                 have y18_ := Aside0.mk ((by rw [hg]; exact Nat.ne_of_lt (blk_lt (g := z27_) (o := .cells #[.int .i64 z52_, .int .i64 z53_, .slice y2_ z54_.length y3_] 34 (0, 0)) (by (with_reducible repeat (first | refine blk_drewN ?_ _ | refine blk_drew ?_ | refine blk_alloc ?_ _)); exact z32_.out)) : z27_ ≠ y15_))
                 have y19_ := Aside0.mk ((by rw [hg]; exact Nat.ne_of_gt (blk_lt (g := z27_) (o := .cells #[.int .i64 z52_, .int .i64 z53_, .slice y2_ z54_.length y3_] 34 (0, 0)) (by (with_reducible repeat (first | refine blk_drewN ?_ _ | refine blk_drew ?_ | refine blk_alloc ?_ _)); exact z32_.out)) : y15_ ≠ z27_))
                 have y20_ := Aside0.mk ((by rw [hg]; exact Nat.ne_of_lt (IsS124.lt (show IsS124 w0 _ g s0_0 z70_ z71_ from by repeat (first | (with_reducible first | exact z3_.out | apply IsS124.alloc | apply IsS124.drewN | apply IsS124.drew | apply IsS124.set_1 | apply IsS124.set_2 | refine IsS124.far ?_ z24_.out _ | refine IsS124.far ?_ z37_.out _) | exact z3_.out))) : g ≠ y15_))
                 have y21_ := Aside0.mk ((by rw [hg]; exact Nat.ne_of_gt (IsS124.lt (show IsS124 w0 _ g s0_0 z70_ z71_ from by repeat (first | (with_reducible first | exact z3_.out | apply IsS124.alloc | apply IsS124.drewN | apply IsS124.drew | apply IsS124.set_1 | apply IsS124.set_2 | refine IsS124.far ?_ z24_.out _ | refine IsS124.far ?_ z37_.out _) | exact z3_.out))) : y15_ ≠ g))
                 clear z57_
                 clear y14_
                 clear z21_
                 clear z32_
                 clear z3_
                 clear HK
                 clear HB
                 have z57_ := z13_
                 have y14_ := z14_
                 have z21_ := z15_
                 have z32_ := z16_
                 have z3_ := z17_
                 have HK := z18_
                 have HB := z19_
                 have y22_ := z20_
                 have y23_ := z29_
                 have y24_ := z30_
                 have y25_ := z31_
                 have y26_ := y17_
                 have y27_ := y18_
                 have y28_ := y19_
                 have y29_ := y20_
                 have y30_ := y21_
                 clear z13_ z14_ z15_ z16_ z17_ z18_ z19_ z20_ z29_ z30_ z31_ y17_ y18_ y19_ y20_ y21_
                 clear hb hbox hg
                 refine hK.out _ _ ⟨(blk_cell z32_.out 0).trans rfl, (blk_cell z32_.out 1).trans rfl, (blk_cell z32_.out 2).trans rfl⟩ (fun hHeld => ?_)
                 clear hK K
                 refine norm_ (a' := ?_) ?_ ?_
                 rotate_left
                 · show Act.put _ (some 5) _ = _
                   simp only [Act.put, List.setIfInBounds_toArray, List.set_cons_zero, List.set_cons_succ, i64_w, i32_w]
                   rfl
                 exact norm_ (by simp only [putAll, Act.put, List.setIfInBounds_toArray, List.set_cons_zero, List.set_cons_succ]) (hCont (y12_, y15_) _ ⟨hHeld, (by (with_reducible repeat (first | apply Kd.R_alloc | apply Kd.R_drewN | apply Kd.R_drew)); exact Kd.R_mono y14_.out (fun _ hk => hk.2)), (by (with_reducible repeat (first | apply Kd.R_alloc | apply Kd.R_drewN | apply Kd.R_drew)); exact Kd.R_mono z57_.out (fun _ hk => hk.2)), (by (with_reducible repeat (first | refine blk_drewN ?_ _ | refine blk_drew ?_ | refine blk_alloc ?_ _)); exact z21_.out), (by (with_reducible repeat (first | refine blk_drewN ?_ _ | refine blk_drew ?_ | refine blk_alloc ?_ _)); exact z32_.out), (by (with_reducible repeat (first | refine blk_drewN ?_ _ | refine blk_drew ?_ | refine blk_alloc ?_ _)); exact y22_.out), y23_.out, y24_.out, y29_.out, y30_.out, y25_.out, y26_.out, y27_.out, y28_.out, (by repeat (first | (with_reducible first | exact z3_.out | apply IsS124.alloc | apply IsS124.drewN | apply IsS124.drew | apply IsS124.set_1 | apply IsS124.set_2 | refine IsS124.far ?_ z24_.out _ | refine IsS124.far ?_ z37_.out _ | refine IsS124.far ?_ y29_.out _) | exact z3_.out)), (by repeat (first | (with_reducible first | exact HK.out | apply KeepBut.set_ | apply keep_drewN | apply keep_drew | apply keep_alloc | refine keep_far ?_ z22_.out _ | refine keep_far ?_ z33_.out _ | refine keep_far ?_ y23_.out _) | exact HK.out)), (by repeat (first | (with_reducible first | exact HB.out | apply below_alloc | apply pw_below_drewN | apply below_drew1 | refine below_set ?_ (IsS124.ge z3_.out) | refine below_set ?_ z23_.out | refine below_set ?_ z34_.out | refine below_set ?_ y24_.out) | exact HB.out))⟩)
               · skip
                 refine box_step ?hg (N := 5) ?hd (cs := #[.int .i64 0, .int .i64 0, .slice none 0 0]) (t := 34) ?hr ?_; (case hd => rfl); (case hg => rfl); (case hr => first | (go_simp; done) | (go_simp; rfl))
                 intro y15_ hg y11_ hbox hb
                 have z13_ := Aside0.mk (Kd.R_below (by (with_reducible repeat (first | apply Kd.R_alloc | apply Kd.R_drewN | apply Kd.R_drew)); exact z57_.out) hb)
                 have z14_ := Aside0.mk (blk_below (g := z11_) (o := .cells #[.int .i64 0, .int .i64 0, .slice none 0 0] 34 (0, 0)) (by (with_reducible repeat (first | refine blk_drewN ?_ _ | refine blk_drew ?_ | refine blk_alloc ?_ _)); exact z21_.out) hb)
                 have z15_ := Aside0.mk (blk_below (g := z27_) (o := .cells #[.int .i64 z52_, .int .i64 z53_, .slice y2_ z54_.length y3_] 34 (0, 0)) (by (with_reducible repeat (first | refine blk_drewN ?_ _ | refine blk_drew ?_ | refine blk_alloc ?_ _)); exact z32_.out) hb)
                 have z16_ := Aside0.mk (IsS124.below (by repeat (first | (with_reducible first | exact z3_.out | apply IsS124.alloc | apply IsS124.drewN | apply IsS124.drew | apply IsS124.set_1 | apply IsS124.set_2 | refine IsS124.far ?_ z24_.out _ | refine IsS124.far ?_ z37_.out _) | exact z3_.out)) hb)
                 have z17_ := Aside0.mk (KeepBut.trans (by repeat (first | (with_reducible first | exact HK.out | apply KeepBut.set_ | apply keep_drewN | apply keep_drew | apply keep_alloc | refine keep_far ?_ z22_.out _ | refine keep_far ?_ z33_.out _) | exact HK.out)) (KeepBut.of_below hb g none) (.inl rfl))
                 have z18_ := Aside0.mk (below_step (by repeat (first | (with_reducible first | exact HB.out | apply below_alloc | apply pw_below_drewN | apply below_drew1 | refine below_set ?_ (IsS124.ge z3_.out) | refine below_set ?_ z23_.out | refine below_set ?_ z34_.out) | exact HB.out)) hb)
                 have z19_ := Aside0.mk (hbox)
                 have z20_ := Aside0.mk ((by rw [hg]; exact (keep_size (w := w) (g := g) (row := none) (by repeat (first | (with_reducible first | exact HK.out | apply KeepBut.set_ | apply keep_drewN | apply keep_drew | apply keep_alloc | refine keep_far ?_ z22_.out _ | refine keep_far ?_ z33_.out _) | exact HK.out))) : w.heap.size ≤ y15_))
                 have z29_ := Aside0.mk ((Nat.le_trans z4_.out (by rw [hg]; exact (keep_size (w := w) (g := g) (row := none) (by repeat (first | (with_reducible first | exact HK.out | apply KeepBut.set_ | apply keep_drewN | apply keep_drew | apply keep_alloc | refine keep_far ?_ z22_.out _ | refine keep_far ?_ z33_.out _) | exact HK.out))) : w.heap.size ≤ y15_) : w0.heap.size ≤ y15_))
                 have z30_ := Aside0.mk ((by rw [hg]; exact Nat.ne_of_lt (blk_lt (g := z11_) (o := .cells #[.int .i64 0, .int .i64 0, .slice none 0 0] 34 (0, 0)) (by (with_reducible repeat (first | refine blk_drewN ?_ _ | refine blk_drew ?_ | refine blk_alloc ?_ _)); exact z21_.out)) : z11_ ≠ y15_))
                 have z31_ := Aside0.mk ((by rw [hg]; exact Nat.ne_of_gt (blk_lt (g := z11_) (o := .cells #[.int .i64 0, .int .i64 0, .slice none 0 0] 34 (0, 0)) (by (with_reducible repeat (first | refine blk_drewN ?_ _ | refine blk_drew ?_ | refine blk_alloc ?_ _)); exact z21_.out)) : y15_ ≠ z11_))
                 have y17_ := Aside0.mk ((by rw [hg]; exact Nat.ne_of_lt (blk_lt (g := z27_) (o := .cells #[.int .i64 z52_, .int .i64 z53_, .slice y2_ z54_.length y3_] 34 (0, 0)) (by (with_reducible repeat (first | refine blk_drewN ?_ _ | refine blk_drew ?_ | refine blk_alloc ?_ _)); exact z32_.out)) : z27_ ≠ y15_))
                 have y18_ := Aside0.mk ((by rw [hg]; exact Nat.ne_of_gt (blk_lt (g := z27_) (o := .cells #[.int .i64 z52_, .int .i64 z53_, .slice y2_ z54_.length y3_] 34 (0, 0)) (by (with_reducible repeat (first | refine blk_drewN ?_ _ | refine blk_drew ?_ | refine blk_alloc ?_ _)); exact z32_.out)) : y15_ ≠ z27_))
                 have y19_ := Aside0.mk ((by rw [hg]; exact Nat.ne_of_lt (IsS124.lt (show IsS124 w0 _ g s0_0 z70_ z71_ from by repeat (first | (with_reducible first | exact z3_.out | apply IsS124.alloc | apply IsS124.drewN | apply IsS124.drew | apply IsS124.set_1 | apply IsS124.set_2 | refine IsS124.far ?_ z24_.out _ | refine IsS124.far ?_ z37_.out _) | exact z3_.out))) : g ≠ y15_))
                 have y20_ := Aside0.mk ((by rw [hg]; exact Nat.ne_of_gt (IsS124.lt (show IsS124 w0 _ g s0_0 z70_ z71_ from by repeat (first | (with_reducible first | exact z3_.out | apply IsS124.alloc | apply IsS124.drewN | apply IsS124.drew | apply IsS124.set_1 | apply IsS124.set_2 | refine IsS124.far ?_ z24_.out _ | refine IsS124.far ?_ z37_.out _) | exact z3_.out))) : y15_ ≠ g))
                 clear z57_
                 clear z21_
                 clear z32_
                 clear z3_
                 clear HK
                 clear HB
                 have z57_ := z13_
                 have z21_ := z14_
                 have z32_ := z15_
                 have z3_ := z16_
                 have HK := z17_
                 have HB := z18_
                 have y22_ := z19_
                 have y23_ := z20_
                 have y24_ := z29_
                 have y25_ := z30_
                 have y26_ := z31_
                 have y27_ := y17_
                 have y28_ := y18_
                 have y29_ := y19_
                 have y30_ := y20_
                 clear z13_ z14_ z15_ z16_ z17_ z18_ z19_ z20_ z29_ z30_ z31_ y17_ y18_ y19_ y20_
                 clear hb hbox hg
                 refine hK.out _ _ ⟨(blk_cell z32_.out 0).trans rfl, (blk_cell z32_.out 1).trans rfl, (blk_cell z32_.out 2).trans rfl⟩ (fun hHeld => ?_)
                 clear hK K
                 refine norm_ (a' := ?_) ?_ ?_
                 rotate_left
                 · show Act.put _ (some 5) _ = _
                   simp only [Act.put, List.setIfInBounds_toArray, List.set_cons_zero, List.set_cons_succ, i64_w, i32_w]
                   rfl
                 refine one_ (i := 7) (N := some 24) #[true, true, true, true, true, true, true, true, false, false, false, true, false, false] rfl rfl (one_of HT_.out (by kernel_rfl)) (by decide) (fun K hK => ?_)
                 refine goes_ Try.func124 (by kernel_rfl) rfl #[.agg #[.int .i64 z52_, .int .i64 z53_, .slice y2_ z54_.length y3_], .int .i64 z69_] (by rfl) rfl rfl (by (try simp only [List.map_toArray, List.map_cons, List.map_nil]); first | done | rfl | (simp only [List.length_drop, List.length_take]; rfl)) ?_
                 with_reducible refine (spec_WithBroken.calls _ _ _ _ _ _ _ _ _ _ _ _ ?side1 ?side2 z79_.out).mono ?_
                 (case side1 => repeat (first | exact (Kd.R_reads' z57_.out).2.2 | (with_reducible refine Kd.C_alloc ?_ _) | (with_reducible refine Kd.C_drewN ?_ _) | (with_reducible refine Kd.C_drew ?_)))
                 (case side2 => exact (Kd.R_reads' z57_.out).2.1)
                 rintro e y16_ ⟨y12_, rfl, y13_, hb⟩
                 refine ⟨_, rfl, ?_⟩
                 have z13_ := Aside0.mk (Kd.R_elder' (by (with_reducible repeat (first | apply Kd.R_alloc | apply Kd.R_drewN | apply Kd.R_drew)); exact z57_.out) (Kd.R_base y13_) hb)
                 have z14_ := Aside0.mk (Kd.R_lower (Kd.R_new' y13_ (Kd.R_lt (by (with_reducible repeat (first | apply Kd.R_alloc | apply Kd.R_drewN | apply Kd.R_drew)); exact z57_.out))) (keep_size (w := w) (g := g) (row := none) (by repeat (first | (with_reducible first | exact HK.out | apply KeepBut.set_ | apply keep_drewN | apply keep_drew | apply keep_alloc | refine keep_far ?_ z22_.out _ | refine keep_far ?_ z33_.out _ | refine keep_far ?_ y23_.out _) | exact HK.out))))
                 have z15_ := Aside0.mk (blk_below (g := z11_) (o := .cells #[.int .i64 0, .int .i64 0, .slice none 0 0] 34 (0, 0)) (by (with_reducible repeat (first | refine blk_drewN ?_ _ | refine blk_drew ?_ | refine blk_alloc ?_ _)); exact z21_.out) hb)
                 have z16_ := Aside0.mk (blk_below (g := z27_) (o := .cells #[.int .i64 z52_, .int .i64 z53_, .slice y2_ z54_.length y3_] 34 (0, 0)) (by (with_reducible repeat (first | refine blk_drewN ?_ _ | refine blk_drew ?_ | refine blk_alloc ?_ _)); exact z32_.out) hb)
                 have z17_ := Aside0.mk (IsS124.below (by repeat (first | (with_reducible first | exact z3_.out | apply IsS124.alloc | apply IsS124.drewN | apply IsS124.drew | apply IsS124.set_1 | apply IsS124.set_2 | refine IsS124.far ?_ z24_.out _ | refine IsS124.far ?_ z37_.out _ | refine IsS124.far ?_ y29_.out _) | exact z3_.out)) hb)
                 have z18_ := Aside0.mk (blk_below (g := y15_) (o := .cells #[.int .i64 0, .int .i64 0, .slice none 0 0] 34 (0, 0)) (by (with_reducible repeat (first | refine blk_drewN ?_ _ | refine blk_drew ?_ | refine blk_alloc ?_ _)); exact y22_.out) hb)
                 have z19_ := Aside0.mk (KeepBut.trans (by repeat (first | (with_reducible first | exact HK.out | apply KeepBut.set_ | apply keep_drewN | apply keep_drew | apply keep_alloc | refine keep_far ?_ z22_.out _ | refine keep_far ?_ z33_.out _ | refine keep_far ?_ y23_.out _) | exact HK.out)) (KeepBut.of_below hb g none) (.inl rfl))
                 have z20_ := Aside0.mk (below_step (by repeat (first | (with_reducible first | exact HB.out | apply below_alloc | apply pw_below_drewN | apply below_drew1 | refine below_set ?_ (IsS124.ge z3_.out) | refine below_set ?_ z23_.out | refine below_set ?_ z34_.out | refine below_set ?_ y24_.out) | exact HB.out)) hb)
                 clear z57_
                 clear z21_
                 clear z32_
                 clear z3_
                 clear y22_
                 clear HK
                 clear HB
                 have z57_ := z13_
                 have y14_ := z14_
                 have z21_ := z15_
                 have z32_ := z16_
                 have z3_ := z17_
                 have y22_ := z18_
                 have HK := z19_
                 have HB := z20_
                 clear z13_ z14_ z15_ z16_ z17_ z18_ z19_ z20_
                 (try clear hb)
                 (try clear hb2)
                 (try clear hk)
                 (try clear hi)
                 (try clear y13_)
                 refine hK.out _ _ ⟨(blk_cell z32_.out 0).trans rfl, (blk_cell z32_.out 1).trans rfl, (blk_cell z32_.out 2).trans rfl⟩ (fun hHeld => ?_)
                 clear hK K
                 refine norm_ (a' := ?_) ?_ ?_
                 rotate_left
                 · show Act.put _ (some 24) _ = _
                   simp only [Act.put, List.setIfInBounds_toArray, List.set_cons_zero, List.set_cons_succ, i64_w, i32_w]
                   rfl
                 refine pure_ (i := 8) (N := some 16) (v := ?_) (a' := ?_) #[true, true, true, true, true, true, true, true, true, false, false, true, false, false] rfl rfl (any_of HT_.out (by kernel_rfl)) (fun _ _ _ h => h) (Or.inl ⟨by rfl, ?_⟩) ?_ ?_
                 rotate_left
                 · intro w'
                   go_simp
                   with_reducible rfl
                 rotate_left
                 · simp only [Act.put, List.setIfInBounds_toArray, List.set_cons_zero, List.set_cons_succ, i64_w, i32_w]
                   rfl
                 refine pure_ (i := 9) (N := some 25) (v := ?_) (a' := ?_) #[true, true, true, true, true, true, true, true, true, true, false, true, false, false] rfl rfl (any_of HT_.out (by kernel_rfl)) (fun _ _ _ h => h) (Or.inl ⟨by rfl, ?_⟩) ?_ ?_
                 rotate_left
                 · intro w'
                   go_simp
                   with_reducible rfl
                 rotate_left
                 · simp only [Act.put, List.setIfInBounds_toArray, List.set_cons_zero, List.set_cons_succ, i64_w, i32_w]
                   rfl
                 refine pure_ (i := 10) (N := some 26) (v := ?_) (a' := ?_) #[true, true, true, true, true, true, true, true, true, true, true, true, false, false] rfl rfl (any_of HT_.out (by kernel_rfl)) (fun _ _ _ h => h) (Or.inl ⟨by rfl, ?_⟩) ?_ ?_
                 rotate_left
                 · intro w'
                   go_simp
                   with_reducible rfl
                 rotate_left
                 · simp only [Act.put, List.setIfInBounds_toArray, List.set_cons_zero, List.set_cons_succ, i64_w, i32_w]
                   rfl
                 exact norm_ (by simp only [putAll, Act.put, List.setIfInBounds_toArray, List.set_cons_zero, List.set_cons_succ]) (hCont (y12_, y15_) _ ⟨hHeld, (by (with_reducible repeat (first | apply Kd.R_alloc | apply Kd.R_drewN | apply Kd.R_drew)); exact Kd.R_mono y14_.out (fun _ hk => hk.2)), (by (with_reducible repeat (first | apply Kd.R_alloc | apply Kd.R_drewN | apply Kd.R_drew)); exact Kd.R_mono z57_.out (fun _ hk => hk.2)), (by (with_reducible repeat (first | refine blk_drewN ?_ _ | refine blk_drew ?_ | refine blk_alloc ?_ _)); exact z21_.out), (by (with_reducible repeat (first | refine blk_drewN ?_ _ | refine blk_drew ?_ | refine blk_alloc ?_ _)); exact z32_.out), (by (with_reducible repeat (first | refine blk_drewN ?_ _ | refine blk_drew ?_ | refine blk_alloc ?_ _)); exact y22_.out), y23_.out, y24_.out, y29_.out, y30_.out, y25_.out, y26_.out, y27_.out, y28_.out, (by repeat (first | (with_reducible first | exact z3_.out | apply IsS124.alloc | apply IsS124.drewN | apply IsS124.drew | apply IsS124.set_1 | apply IsS124.set_2 | refine IsS124.far ?_ z24_.out _ | refine IsS124.far ?_ z37_.out _ | refine IsS124.far ?_ y29_.out _) | exact z3_.out)), (by repeat (first | (with_reducible first | exact HK.out | apply KeepBut.set_ | apply keep_drewN | apply keep_drew | apply keep_alloc | refine keep_far ?_ z22_.out _ | refine keep_far ?_ z33_.out _ | refine keep_far ?_ y23_.out _) | exact HK.out)), (by repeat (first | (with_reducible first | exact HB.out | apply below_alloc | apply pw_below_drewN | apply below_drew1 | refine below_set ?_ (IsS124.ge z3_.out) | refine below_set ?_ z23_.out | refine below_set ?_ z34_.out | refine below_set ?_ y24_.out) | exact HB.out))⟩)
             · skip
               refine box_step ?hg (N := 5) ?hd (cs := #[.int .i64 0, .int .i64 0, .slice none 0 0]) (t := 34) ?hr ?_; (case hd => rfl); (case hg => rfl); (case hr => first | (go_simp; done) | (go_simp; rfl))
               intro y15_ hg y10_ hbox hb
               have z13_ := Aside0.mk (Kd.R_below (by (with_reducible repeat (first | apply Kd.R_alloc | apply Kd.R_drewN | apply Kd.R_drew)); exact z57_.out) hb)
               have z14_ := Aside0.mk (blk_below (g := z11_) (o := .cells #[.int .i64 0, .int .i64 0, .slice none 0 0] 34 (0, 0)) (by (with_reducible repeat (first | refine blk_drewN ?_ _ | refine blk_drew ?_ | refine blk_alloc ?_ _)); exact z21_.out) hb)
               have z15_ := Aside0.mk (blk_below (g := z27_) (o := .cells #[.int .i64 z52_, .int .i64 z53_, .slice y2_ z54_.length y3_] 34 (0, 0)) (by (with_reducible repeat (first | refine blk_drewN ?_ _ | refine blk_drew ?_ | refine blk_alloc ?_ _)); exact z32_.out) hb)
               have z16_ := Aside0.mk (IsS124.below (by repeat (first | (with_reducible first | exact z3_.out | apply IsS124.alloc | apply IsS124.drewN | apply IsS124.drew | apply IsS124.set_1 | apply IsS124.set_2 | refine IsS124.far ?_ z24_.out _ | refine IsS124.far ?_ z37_.out _) | exact z3_.out)) hb)
               have z17_ := Aside0.mk (KeepBut.trans (by repeat (first | (with_reducible first | exact HK.out | apply KeepBut.set_ | apply keep_drewN | apply keep_drew | apply keep_alloc | refine keep_far ?_ z22_.out _ | refine keep_far ?_ z33_.out _) | exact HK.out)) (KeepBut.of_below hb g none) (.inl rfl))
               have z18_ := Aside0.mk (below_step (by repeat (first | (with_reducible first | exact HB.out | apply below_alloc | apply pw_below_drewN | apply below_drew1 | refine below_set ?_ (IsS124.ge z3_.out) | refine below_set ?_ z23_.out | refine below_set ?_ z34_.out) | exact HB.out)) hb)
               have z19_ := Aside0.mk (hbox)
               have z20_ := Aside0.mk ((by rw [hg]; exact (keep_size (w := w) (g := g) (row := none) (by repeat (first | (with_reducible first | exact HK.out | apply KeepBut.set_ | apply keep_drewN | apply keep_drew | apply keep_alloc | refine keep_far ?_ z22_.out _ | refine keep_far ?_ z33_.out _) | exact HK.out))) : w.heap.size ≤ y15_))
               have z29_ := Aside0.mk ((Nat.le_trans z4_.out (by rw [hg]; exact (keep_size (w := w) (g := g) (row := none) (by repeat (first | (with_reducible first | exact HK.out | apply KeepBut.set_ | apply keep_drewN | apply keep_drew | apply keep_alloc | refine keep_far ?_ z22_.out _ | refine keep_far ?_ z33_.out _) | exact HK.out))) : w.heap.size ≤ y15_) : w0.heap.size ≤ y15_))
               have z30_ := Aside0.mk ((by rw [hg]; exact Nat.ne_of_lt (blk_lt (g := z11_) (o := .cells #[.int .i64 0, .int .i64 0, .slice none 0 0] 34 (0, 0)) (by (with_reducible repeat (first | refine blk_drewN ?_ _ | refine blk_drew ?_ | refine blk_alloc ?_ _)); exact z21_.out)) : z11_ ≠ y15_))
               have z31_ := Aside0.mk ((by rw [hg]; exact Nat.ne_of_gt (blk_lt (g := z11_) (o := .cells #[.int .i64 0, .int .i64 0, .slice none 0 0] 34 (0, 0)) (by (with_reducible repeat (first | refine blk_drewN ?_ _ | refine blk_drew ?_ | refine blk_alloc ?_ _)); exact z21_.out)) : y15_ ≠ z11_))
               have y17_ := Aside0.mk ((by rw [hg]; exact Nat.ne_of_lt (blk_lt (g := z27_) (o := .cells #[.int .i64 z52_, .int .i64 z53_, .slice y2_ z54_.length y3_] 34 (0, 0)) (by (with_reducible repeat (first | refine blk_drewN ?_ _ | refine blk_drew ?_ | refine blk_alloc ?_ _)); exact z32_.out)) : z27_ ≠ y15_))
               have y18_ := Aside0.mk ((by rw [hg]; exact Nat.ne_of_gt (blk_lt (g := z27_) (o := .cells #[.int .i64 z52_, .int .i64 z53_, .slice y2_ z54_.length y3_] 34 (0, 0)) (by (with_reducible repeat (first | refine blk_drewN ?_ _ | refine blk_drew ?_ | refine blk_alloc ?_ _)); exact z32_.out)) : y15_ ≠ z27_))
               have y19_ := Aside0.mk ((by rw [hg]; exact Nat.ne_of_lt (IsS124.lt (show IsS124 w0 _ g s0_0 z60_ z61_ from by repeat (first | (with_reducible first | exact z3_.out | apply IsS124.alloc | apply IsS124.drewN | apply IsS124.drew | apply IsS124.set_1 | apply IsS124.set_2 | refine IsS124.far ?_ z24_.out _ | refine IsS124.far ?_ z37_.out _) | exact z3_.out))) : g ≠ y15_))
               have y20_ := Aside0.mk ((by rw [hg]; exact Nat.ne_of_gt (IsS124.lt (show IsS124 w0 _ g s0_0 z60_ z61_ from by repeat (first | (with_reducible first | exact z3_.out | apply IsS124.alloc | apply IsS124.drewN | apply IsS124.drew | apply IsS124.set_1 | apply IsS124.set_2 | refine IsS124.far ?_ z24_.out _ | refine IsS124.far ?_ z37_.out _) | exact z3_.out))) : y15_ ≠ g))
               clear z57_
               clear z21_
               clear z32_
               clear z3_
               clear HK
               clear HB
               have z57_ := z13_
               have z21_ := z14_
               have z32_ := z15_
               have z3_ := z16_
               have HK := z17_
               have HB := z18_
               have y22_ := z19_
               have y23_ := z20_
               have y24_ := z29_
               have y25_ := z30_
               have y26_ := z31_
               have y27_ := y17_
               have y28_ := y18_
               have y29_ := y19_
               have y30_ := y20_
               clear z13_ z14_ z15_ z16_ z17_ z18_ z19_ z20_ z29_ z30_ z31_ y17_ y18_ y19_ y20_
               clear hb hbox hg
               refine hK.out _ _ ⟨(blk_cell z32_.out 0).trans rfl, (blk_cell z32_.out 1).trans rfl, (blk_cell z32_.out 2).trans rfl⟩ (fun hHeld => ?_)
               clear hK K
               refine norm_ (a' := ?_) ?_ ?_
               rotate_left
               · show Act.put _ (some 5) _ = _
                 simp only [Act.put, List.setIfInBounds_toArray, List.set_cons_zero, List.set_cons_succ, i64_w, i32_w]
                 rfl
               refine one_ (i := 6) (N := some 23) #[true, true, true, true, true, true, true, false, false, false, false, true, false, false] rfl rfl (one_of HT_.out (by kernel_rfl)) (by decide) (fun K hK => ?_)
               refine goes_ Try.func72 (by kernel_rfl) rfl #[.pointer (some ⟨g, 0, none⟩), .int .i64 (wrap64 (4 * z66_))] (by rfl) rfl rfl (by (try simp only [List.map_toArray, List.map_cons, List.map_nil]); first | done | rfl | (simp only [List.length_drop, List.length_take]; rfl)) ?_
               with_reducible refine (spec_l01Below.calls _ _ _ _ _ _ _ _ w0 _ ?side1 ?side2 z73_.out).mono ?_
               (case side1 => repeat (first | (with_reducible first | exact z3_.out | apply IsS124.alloc | apply IsS124.drewN | apply IsS124.drew | apply IsS124.set_1 | apply IsS124.set_2 | refine IsS124.far ?_ z24_.out _ | refine IsS124.far ?_ z37_.out _ | refine IsS124.far ?_ y29_.out _) | exact z3_.out))
               (case side2 => repeat (first | (with_reducible first | exact HB.out | apply below_alloc | apply pw_below_drewN | apply below_drew1 | refine below_set ?_ (IsS124.ge z3_.out) | refine below_set ?_ z23_.out | refine below_set ?_ z34_.out | refine below_set ?_ y24_.out) | exact HB.out))
               rintro e y11_ ⟨rfl, hi, hb, hk⟩
               refine ⟨_, rfl, ?_⟩
               have z13_ := Aside0.mk (Kd.R_mono (Kd.R_keep (IsS124.apart (show IsS124 w0 _ g s0_0 z60_ z61_ from by repeat (first | (with_reducible first | exact z3_.out | apply IsS124.alloc | apply IsS124.drewN | apply IsS124.drew | apply IsS124.set_1 | apply IsS124.set_2 | refine IsS124.far ?_ z24_.out _ | refine IsS124.far ?_ z37_.out _ | refine IsS124.far ?_ y29_.out _) | exact z3_.out)) (by (with_reducible repeat (first | apply Kd.R_alloc | apply Kd.R_drewN | apply Kd.R_drew)); exact z57_.out) (by decide)) hk (fun _ h => h.2)) (fun _ h => h.1))
               have z14_ := Aside0.mk (KeepBut.blk hk (g' := z11_) (o := .cells #[.int .i64 0, .int .i64 0, .slice none 0 0] 34 (0, 0)) (by (with_reducible repeat (first | refine blk_drewN ?_ _ | refine blk_drew ?_ | refine blk_alloc ?_ _)); exact z21_.out) z25_.out (by simp))
               have z15_ := Aside0.mk (KeepBut.blk hk (g' := z27_) (o := .cells #[.int .i64 z52_, .int .i64 z53_, .slice y2_ z54_.length y3_] 34 (0, 0)) (by (with_reducible repeat (first | refine blk_drewN ?_ _ | refine blk_drew ?_ | refine blk_alloc ?_ _)); exact z32_.out) z38_.out (by simp))
               have z16_ := Aside0.mk (KeepBut.blk hk (g' := y15_) (o := .cells #[.int .i64 0, .int .i64 0, .slice none 0 0] 34 (0, 0)) (by (with_reducible repeat (first | refine blk_drewN ?_ _ | refine blk_drew ?_ | refine blk_alloc ?_ _)); exact y22_.out) y30_.out (by simp))
               have z17_ := Aside0.mk (KeepBut.trans (by repeat (first | (with_reducible first | exact HK.out | apply KeepBut.set_ | apply keep_drewN | apply keep_drew | apply keep_alloc | refine keep_far ?_ z22_.out _ | refine keep_far ?_ z33_.out _ | refine keep_far ?_ y23_.out _) | exact HK.out)) hk (.inl rfl))
               have z18_ := Aside0.mk (hb)
               have z19_ := Aside0.mk (hi)
               clear z57_
               clear z21_
               clear z32_
               clear y22_
               clear HK
               clear HB
               clear z3_
               have z57_ := z13_
               have z21_ := z14_
               have z32_ := z15_
               have y22_ := z16_
               have HK := z17_
               have HB := z18_
               have z3_ := z19_
               clear z13_ z14_ z15_ z16_ z17_ z18_ z19_
               (try clear hb)
               (try clear hb2)
               (try clear hk)
               (try clear hi)
               refine hK.out _ _ ⟨(blk_cell z32_.out 0).trans rfl, (blk_cell z32_.out 1).trans rfl, (blk_cell z32_.out 2).trans rfl⟩ (fun hHeld => ?_)
               clear hK K
               refine norm_ (a' := ?_) ?_ ?_
               rotate_left
               · show Act.put _ (some 23) _ = _
                 simp only [Act.put, List.setIfInBounds_toArray, List.set_cons_zero, List.set_cons_succ, i64_w, i32_w]
                 rfl
               refine one_ (i := 7) (N := some 24) #[true, true, true, true, true, true, true, true, false, false, false, true, false, false] rfl rfl (one_of HT_.out (by kernel_rfl)) (by decide) (fun K hK => ?_)
               refine goes_ Try.func124 (by kernel_rfl) rfl #[.agg #[.int .i64 z52_, .int .i64 z53_, .slice y2_ z54_.length y3_], .int .i64 z69_] (by rfl) rfl rfl (by (try simp only [List.map_toArray, List.map_cons, List.map_nil]); first | done | rfl | (simp only [List.length_drop, List.length_take]; rfl)) ?_
               with_reducible refine (spec_WithBroken.calls _ _ _ _ _ _ _ _ _ _ _ _ ?side1 ?side2 z79_.out).mono ?_
               (case side1 => repeat (first | exact (Kd.R_reads' z57_.out).2.2 | (with_reducible refine Kd.C_alloc ?_ _) | (with_reducible refine Kd.C_drewN ?_ _) | (with_reducible refine Kd.C_drew ?_)))
               (case side2 => exact (Kd.R_reads' z57_.out).2.1)
               rintro e y16_ ⟨y12_, rfl, y13_, hb⟩
               refine ⟨_, rfl, ?_⟩
               have z13_ := Aside0.mk (Kd.R_elder' (by (with_reducible repeat (first | apply Kd.R_alloc | apply Kd.R_drewN | apply Kd.R_drew)); exact z57_.out) (Kd.R_base y13_) hb)
               have z14_ := Aside0.mk (Kd.R_lower (Kd.R_new' y13_ (Kd.R_lt (by (with_reducible repeat (first | apply Kd.R_alloc | apply Kd.R_drewN | apply Kd.R_drew)); exact z57_.out))) (keep_size (w := w) (g := g) (row := none) (by repeat (first | (with_reducible first | exact HK.out | apply KeepBut.set_ | apply keep_drewN | apply keep_drew | apply keep_alloc | refine keep_far ?_ z22_.out _ | refine keep_far ?_ z33_.out _ | refine keep_far ?_ y23_.out _) | exact HK.out))))
               have z15_ := Aside0.mk (blk_below (g := z11_) (o := .cells #[.int .i64 0, .int .i64 0, .slice none 0 0] 34 (0, 0)) (by (with_reducible repeat (first | refine blk_drewN ?_ _ | refine blk_drew ?_ | refine blk_alloc ?_ _)); exact z21_.out) hb)
               have z16_ := Aside0.mk (blk_below (g := z27_) (o := .cells #[.int .i64 z52_, .int .i64 z53_, .slice y2_ z54_.length y3_] 34 (0, 0)) (by (with_reducible repeat (first | refine blk_drewN ?_ _ | refine blk_drew ?_ | refine blk_alloc ?_ _)); exact z32_.out) hb)
               have z17_ := Aside0.mk (IsS124.below (by repeat (first | (with_reducible first | exact z3_.out | apply IsS124.alloc | apply IsS124.drewN | apply IsS124.drew | apply IsS124.set_1 | apply IsS124.set_2 | refine IsS124.far ?_ z24_.out _ | refine IsS124.far ?_ z37_.out _ | refine IsS124.far ?_ y29_.out _) | exact z3_.out)) hb)
               have z18_ := Aside0.mk (blk_below (g := y15_) (o := .cells #[.int .i64 0, .int .i64 0, .slice none 0 0] 34 (0, 0)) (by (with_reducible repeat (first | refine blk_drewN ?_ _ | refine blk_drew ?_ | refine blk_alloc ?_ _)); exact y22_.out) hb)
               have z19_ := Aside0.mk (KeepBut.trans (by repeat (first | (with_reducible first | exact HK.out | apply KeepBut.set_ | apply keep_drewN | apply keep_drew | apply keep_alloc | refine keep_far ?_ z22_.out _ | refine keep_far ?_ z33_.out _ | refine keep_far ?_ y23_.out _) | exact HK.out)) (KeepBut.of_below hb g none) (.inl rfl))
               have z20_ := Aside0.mk (below_step (by repeat (first | (with_reducible first | exact HB.out | apply below_alloc | apply pw_below_drewN | apply below_drew1 | refine below_set ?_ (IsS124.ge z3_.out) | refine below_set ?_ z23_.out | refine below_set ?_ z34_.out | refine below_set ?_ y24_.out) | exact HB.out)) hb)
               clear z57_
               clear z21_
               clear z32_
               clear z3_
               clear y22_
               clear HK
               clear HB
               have z57_ := z13_
               have y14_ := z14_
               have z21_ := z15_
               have z32_ := z16_
               have z3_ := z17_
               have y22_ := z18_
               have HK := z19_
               have HB := z20_
               clear z13_ z14_ z15_ z16_ z17_ z18_ z19_ z20_
               (try clear hb)
               (try clear hb2)
               (try clear hk)
               (try clear hi)
               (try clear y13_)
               refine hK.out _ _ ⟨(blk_cell z32_.out 0).trans rfl, (blk_cell z32_.out 1).trans rfl, (blk_cell z32_.out 2).trans rfl⟩ (fun hHeld => ?_)
               clear hK K
               refine norm_ (a' := ?_) ?_ ?_
               rotate_left
               · show Act.put _ (some 24) _ = _
                 simp only [Act.put, List.setIfInBounds_toArray, List.set_cons_zero, List.set_cons_succ, i64_w, i32_w]
                 rfl
               refine pure_ (i := 8) (N := some 16) (v := ?_) (a' := ?_) #[true, true, true, true, true, true, true, true, true, false, false, true, false, false] rfl rfl (any_of HT_.out (by kernel_rfl)) (fun _ _ _ h => h) (Or.inl ⟨by rfl, ?_⟩) ?_ ?_
               rotate_left
               · intro w'
                 go_simp
                 with_reducible rfl
               rotate_left
               · simp only [Act.put, List.setIfInBounds_toArray, List.set_cons_zero, List.set_cons_succ, i64_w, i32_w]
                 rfl
               refine pure_ (i := 9) (N := some 25) (v := ?_) (a' := ?_) #[true, true, true, true, true, true, true, true, true, true, false, true, false, false] rfl rfl (any_of HT_.out (by kernel_rfl)) (fun _ _ _ h => h) (Or.inl ⟨by rfl, ?_⟩) ?_ ?_
               rotate_left
               · intro w'
                 go_simp
                 with_reducible rfl
               rotate_left
               · simp only [Act.put, List.setIfInBounds_toArray, List.set_cons_zero, List.set_cons_succ, i64_w, i32_w]
                 rfl
               refine pure_ (i := 10) (N := some 26) (v := ?_) (a' := ?_) #[true, true, true, true, true, true, true, true, true, true, true, true, false, false] rfl rfl (any_of HT_.out (by kernel_rfl)) (fun _ _ _ h => h) (Or.inl ⟨by rfl, ?_⟩) ?_ ?_
               rotate_left
               · intro w'
                 go_simp
                 with_reducible rfl
               rotate_left
               · simp only [Act.put, List.setIfInBounds_toArray, List.set_cons_zero, List.set_cons_succ, i64_w, i32_w]
                 rfl
               exact norm_ (by simp only [putAll, Act.put, List.setIfInBounds_toArray, List.set_cons_zero, List.set_cons_succ]) (hCont (y12_, y15_) _ ⟨hHeld, (by (with_reducible repeat (first | apply Kd.R_alloc | apply Kd.R_drewN | apply Kd.R_drew)); exact Kd.R_mono y14_.out (fun _ hk => hk.2)), (by (with_reducible repeat (first | apply Kd.R_alloc | apply Kd.R_drewN | apply Kd.R_drew)); exact Kd.R_mono z57_.out (fun _ hk => hk.2)), (by (with_reducible repeat (first | refine blk_drewN ?_ _ | refine blk_drew ?_ | refine blk_alloc ?_ _)); exact z21_.out), (by (with_reducible repeat (first | refine blk_drewN ?_ _ | refine blk_drew ?_ | refine blk_alloc ?_ _)); exact z32_.out), (by (with_reducible repeat (first | refine blk_drewN ?_ _ | refine blk_drew ?_ | refine blk_alloc ?_ _)); exact y22_.out), y23_.out, y24_.out, y29_.out, y30_.out, y25_.out, y26_.out, y27_.out, y28_.out, (by repeat (first | (with_reducible first | exact z3_.out | apply IsS124.alloc | apply IsS124.drewN | apply IsS124.drew | apply IsS124.set_1 | apply IsS124.set_2 | refine IsS124.far ?_ z24_.out _ | refine IsS124.far ?_ z37_.out _ | refine IsS124.far ?_ y29_.out _) | exact z3_.out)), (by repeat (first | (with_reducible first | exact HK.out | apply KeepBut.set_ | apply keep_drewN | apply keep_drew | apply keep_alloc | refine keep_far ?_ z22_.out _ | refine keep_far ?_ z33_.out _ | refine keep_far ?_ y23_.out _) | exact HK.out)), (by repeat (first | (with_reducible first | exact HB.out | apply below_alloc | apply pw_below_drewN | apply below_drew1 | refine below_set ?_ (IsS124.ge z3_.out) | refine below_set ?_ z23_.out | refine below_set ?_ z34_.out | refine below_set ?_ y24_.out) | exact HB.out))⟩)
           · skip
             refine box_step ?hg (N := 5) ?hd (cs := #[.int .i64 0, .int .i64 0, .slice none 0 0]) (t := 34) ?hr ?_; (case hd => rfl); (case hg => rfl); (case hr => first | (go_simp; done) | (go_simp; rfl))
             intro y15_ hg y9_ hbox hb
             have z13_ := Aside0.mk (Kd.R_below (by (with_reducible repeat (first | apply Kd.R_alloc | apply Kd.R_drewN | apply Kd.R_drew)); exact z57_.out) hb)
             have z14_ := Aside0.mk (blk_below (g := z11_) (o := .cells #[.int .i64 0, .int .i64 0, .slice none 0 0] 34 (0, 0)) (by (with_reducible repeat (first | refine blk_drewN ?_ _ | refine blk_drew ?_ | refine blk_alloc ?_ _)); exact z21_.out) hb)
             have z15_ := Aside0.mk (blk_below (g := z27_) (o := .cells #[.int .i64 z52_, .int .i64 z53_, .slice y2_ z54_.length y3_] 34 (0, 0)) (by (with_reducible repeat (first | refine blk_drewN ?_ _ | refine blk_drew ?_ | refine blk_alloc ?_ _)); exact z32_.out) hb)
             have z16_ := Aside0.mk (IsS124.below (by repeat (first | (with_reducible first | exact z3_.out | apply IsS124.alloc | apply IsS124.drewN | apply IsS124.drew | apply IsS124.set_1 | apply IsS124.set_2 | refine IsS124.far ?_ z24_.out _ | refine IsS124.far ?_ z37_.out _) | exact z3_.out)) hb)
             have z17_ := Aside0.mk (KeepBut.trans (by repeat (first | (with_reducible first | exact HK.out | apply KeepBut.set_ | apply keep_drewN | apply keep_drew | apply keep_alloc | refine keep_far ?_ z22_.out _ | refine keep_far ?_ z33_.out _) | exact HK.out)) (KeepBut.of_below hb g none) (.inl rfl))
             have z18_ := Aside0.mk (below_step (by repeat (first | (with_reducible first | exact HB.out | apply below_alloc | apply pw_below_drewN | apply below_drew1 | refine below_set ?_ (IsS124.ge z3_.out) | refine below_set ?_ z23_.out | refine below_set ?_ z34_.out) | exact HB.out)) hb)
             have z19_ := Aside0.mk (hbox)
             have z20_ := Aside0.mk ((by rw [hg]; exact (keep_size (w := w) (g := g) (row := none) (by repeat (first | (with_reducible first | exact HK.out | apply KeepBut.set_ | apply keep_drewN | apply keep_drew | apply keep_alloc | refine keep_far ?_ z22_.out _ | refine keep_far ?_ z33_.out _) | exact HK.out))) : w.heap.size ≤ y15_))
             have z29_ := Aside0.mk ((Nat.le_trans z4_.out (by rw [hg]; exact (keep_size (w := w) (g := g) (row := none) (by repeat (first | (with_reducible first | exact HK.out | apply KeepBut.set_ | apply keep_drewN | apply keep_drew | apply keep_alloc | refine keep_far ?_ z22_.out _ | refine keep_far ?_ z33_.out _) | exact HK.out))) : w.heap.size ≤ y15_) : w0.heap.size ≤ y15_))
             have z30_ := Aside0.mk ((by rw [hg]; exact Nat.ne_of_lt (blk_lt (g := z11_) (o := .cells #[.int .i64 0, .int .i64 0, .slice none 0 0] 34 (0, 0)) (by (with_reducible repeat (first | refine blk_drewN ?_ _ | refine blk_drew ?_ | refine blk_alloc ?_ _)); exact z21_.out)) : z11_ ≠ y15_))
             have z31_ := Aside0.mk ((by rw [hg]; exact Nat.ne_of_gt (blk_lt (g := z11_) (o := .cells #[.int .i64 0, .int .i64 0, .slice none 0 0] 34 (0, 0)) (by (with_reducible repeat (first | refine blk_drewN ?_ _ | refine blk_drew ?_ | refine blk_alloc ?_ _)); exact z21_.out)) : y15_ ≠ z11_))
             have y17_ := Aside0.mk ((by rw [hg]; exact Nat.ne_of_lt (blk_lt (g := z27_) (o := .cells #[.int .i64 z52_, .int .i64 z53_, .slice y2_ z54_.length y3_] 34 (0, 0)) (by (with_reducible repeat (first | refine blk_drewN ?_ _ | refine blk_drew ?_ | refine blk_alloc ?_ _)); exact z32_.out)) : z27_ ≠ y15_))
             have y18_ := Aside0.mk ((by rw [hg]; exact Nat.ne_of_gt (blk_lt (g := z27_) (o := .cells #[.int .i64 z52_, .int .i64 z53_, .slice y2_ z54_.length y3_] 34 (0, 0)) (by (with_reducible repeat (first | refine blk_drewN ?_ _ | refine blk_drew ?_ | refine blk_alloc ?_ _)); exact z32_.out)) : y15_ ≠ z27_))
             have y19_ := Aside0.mk ((by rw [hg]; exact Nat.ne_of_lt (IsS124.lt (show IsS124 w0 _ g s0_0 z60_ z61_ from by repeat (first | (with_reducible first | exact z3_.out | apply IsS124.alloc | apply IsS124.drewN | apply IsS124.drew | apply IsS124.set_1 | apply IsS124.set_2 | refine IsS124.far ?_ z24_.out _ | refine IsS124.far ?_ z37_.out _) | exact z3_.out))) : g ≠ y15_))
             have y20_ := Aside0.mk ((by rw [hg]; exact Nat.ne_of_gt (IsS124.lt (show IsS124 w0 _ g s0_0 z60_ z61_ from by repeat (first | (with_reducible first | exact z3_.out | apply IsS124.alloc | apply IsS124.drewN | apply IsS124.drew | apply IsS124.set_1 | apply IsS124.set_2 | refine IsS124.far ?_ z24_.out _ | refine IsS124.far ?_ z37_.out _) | exact z3_.out))) : y15_ ≠ g))
             clear z57_
             clear z21_
             clear z32_
             clear z3_
             clear HK
             clear HB
             have z57_ := z13_
             have z21_ := z14_
             have z32_ := z15_
             have z3_ := z16_
             have HK := z17_
             have HB := z18_
             have y22_ := z19_
             have y23_ := z20_
             have y24_ := z29_
             have y25_ := z30_
             have y26_ := z31_
             have y27_ := y17_
             have y28_ := y18_
             have y29_ := y19_
             have y30_ := y20_
             clear z13_ z14_ z15_ z16_ z17_ z18_ z19_ z20_ z29_ z30_ z31_ y17_ y18_ y19_ y20_
             clear hb hbox hg
             refine hK.out _ _ ⟨(blk_cell z32_.out 0).trans rfl, (blk_cell z32_.out 1).trans rfl, (blk_cell z32_.out 2).trans rfl⟩ (fun hHeld => ?_)
             clear hK K
             refine norm_ (a' := ?_) ?_ ?_
             rotate_left
             · show Act.put _ (some 5) _ = _
               simp only [Act.put, List.setIfInBounds_toArray, List.set_cons_zero, List.set_cons_succ, i64_w, i32_w]
               rfl
             refine one_ (i := 4) (N := some 21) #[true, true, true, true, true, false, false, false, false, false, false, true, false, false] rfl rfl (one_of HT_.out (by kernel_rfl)) (by decide) (fun K hK => ?_)
             refine goes_ Try.func87 (by kernel_rfl) rfl #[.agg #[.int .i64 z52_, .int .i64 z53_]] (by rfl) rfl rfl (by (try simp only [List.map_toArray, List.map_cons, List.map_nil]); first | done | rfl | (simp only [List.length_drop, List.length_take]; rfl)) ?_
             with_reducible refine (spec_NodeCount.calls _ _ _ _ z68_.out).mono ?_
             rintro e y10_ ⟨rfl, hb⟩
             refine ⟨_, rfl, ?_⟩
             have z13_ := Aside0.mk (Kd.R_below (by (with_reducible repeat (first | apply Kd.R_alloc | apply Kd.R_drewN | apply Kd.R_drew)); exact z57_.out) hb)
             have z14_ := Aside0.mk (blk_below (g := z11_) (o := .cells #[.int .i64 0, .int .i64 0, .slice none 0 0] 34 (0, 0)) (by (with_reducible repeat (first | refine blk_drewN ?_ _ | refine blk_drew ?_ | refine blk_alloc ?_ _)); exact z21_.out) hb)
             have z15_ := Aside0.mk (blk_below (g := z27_) (o := .cells #[.int .i64 z52_, .int .i64 z53_, .slice y2_ z54_.length y3_] 34 (0, 0)) (by (with_reducible repeat (first | refine blk_drewN ?_ _ | refine blk_drew ?_ | refine blk_alloc ?_ _)); exact z32_.out) hb)
             have z16_ := Aside0.mk (IsS124.below (by repeat (first | (with_reducible first | exact z3_.out | apply IsS124.alloc | apply IsS124.drewN | apply IsS124.drew | apply IsS124.set_1 | apply IsS124.set_2 | refine IsS124.far ?_ z24_.out _ | refine IsS124.far ?_ z37_.out _ | refine IsS124.far ?_ y29_.out _) | exact z3_.out)) hb)
             have z17_ := Aside0.mk (blk_below (g := y15_) (o := .cells #[.int .i64 0, .int .i64 0, .slice none 0 0] 34 (0, 0)) (by (with_reducible repeat (first | refine blk_drewN ?_ _ | refine blk_drew ?_ | refine blk_alloc ?_ _)); exact y22_.out) hb)
             have z18_ := Aside0.mk (KeepBut.trans (by repeat (first | (with_reducible first | exact HK.out | apply KeepBut.set_ | apply keep_drewN | apply keep_drew | apply keep_alloc | refine keep_far ?_ z22_.out _ | refine keep_far ?_ z33_.out _ | refine keep_far ?_ y23_.out _) | exact HK.out)) (KeepBut.of_below hb g none) (.inl rfl))
             have z19_ := Aside0.mk (below_step (by repeat (first | (with_reducible first | exact HB.out | apply below_alloc | apply pw_below_drewN | apply below_drew1 | refine below_set ?_ (IsS124.ge z3_.out) | refine below_set ?_ z23_.out | refine below_set ?_ z34_.out | refine below_set ?_ y24_.out) | exact HB.out)) hb)
             clear z57_
             clear z21_
             clear z32_
             clear z3_
             clear y22_
             clear HK
             clear HB
             have z57_ := z13_
             have z21_ := z14_
             have z32_ := z15_
             have z3_ := z16_
             have y22_ := z17_
             have HK := z18_
             have HB := z19_
             clear z13_ z14_ z15_ z16_ z17_ z18_ z19_
             (try clear hb)
             (try clear hb2)
             (try clear hk)
             (try clear hi)
             refine hK.out _ _ ⟨(blk_cell z32_.out 0).trans rfl, (blk_cell z32_.out 1).trans rfl, (blk_cell z32_.out 2).trans rfl⟩ (fun hHeld => ?_)
             clear hK K
             refine norm_ (a' := ?_) ?_ ?_
             rotate_left
             · show Act.put _ (some 21) _ = _
               simp only [Act.put, List.setIfInBounds_toArray, List.set_cons_zero, List.set_cons_succ, i64_w, i32_w]
               rfl
             refine pure_ (i := 5) (N := some 22) (v := ?_) (a' := ?_) #[true, true, true, true, true, true, false, false, false, false, false, true, false, false] rfl rfl (any_of HT_.out (by kernel_rfl)) (fun _ _ _ h => h) (Or.inl ⟨by rfl, ?_⟩) ?_ ?_
             rotate_left
             · intro w'
               go_simp
               with_reducible rfl
             rotate_left
             · simp only [Act.put, List.setIfInBounds_toArray, List.set_cons_zero, List.set_cons_succ, i64_w, i32_w]
               rfl
             refine one_ (i := 6) (N := some 23) #[true, true, true, true, true, true, true, false, false, false, false, true, false, false] rfl rfl (one_of HT_.out (by kernel_rfl)) (by decide) (fun K hK => ?_)
             refine goes_ Try.func72 (by kernel_rfl) rfl #[.pointer (some ⟨g, 0, none⟩), .int .i64 (wrap64 (4 * z66_))] (by rfl) rfl rfl (by (try simp only [List.map_toArray, List.map_cons, List.map_nil]); first | done | rfl | (simp only [List.length_drop, List.length_take]; rfl)) ?_
             with_reducible refine (spec_l01Below.calls _ _ _ _ _ _ _ _ w0 _ ?side1 ?side2 z73_.out).mono ?_
             (case side1 => repeat (first | (with_reducible first | exact z3_.out | apply IsS124.alloc | apply IsS124.drewN | apply IsS124.drew | apply IsS124.set_1 | apply IsS124.set_2 | refine IsS124.far ?_ z24_.out _ | refine IsS124.far ?_ z37_.out _ | refine IsS124.far ?_ y29_.out _) | exact z3_.out))
             (case side2 => repeat (first | (with_reducible first | exact HB.out | apply below_alloc | apply pw_below_drewN | apply below_drew1 | refine below_set ?_ (IsS124.ge z3_.out) | refine below_set ?_ z23_.out | refine below_set ?_ z34_.out | refine below_set ?_ y24_.out) | exact HB.out))
             rintro e y11_ ⟨rfl, hi, hb, hk⟩
             refine ⟨_, rfl, ?_⟩
             have z13_ := Aside0.mk (Kd.R_mono (Kd.R_keep (IsS124.apart (show IsS124 w0 _ g s0_0 z60_ z61_ from by repeat (first | (with_reducible first | exact z3_.out | apply IsS124.alloc | apply IsS124.drewN | apply IsS124.drew | apply IsS124.set_1 | apply IsS124.set_2 | refine IsS124.far ?_ z24_.out _ | refine IsS124.far ?_ z37_.out _ | refine IsS124.far ?_ y29_.out _) | exact z3_.out)) (by (with_reducible repeat (first | apply Kd.R_alloc | apply Kd.R_drewN | apply Kd.R_drew)); exact z57_.out) (by decide)) hk (fun _ h => h.2)) (fun _ h => h.1))
             have z14_ := Aside0.mk (KeepBut.blk hk (g' := z11_) (o := .cells #[.int .i64 0, .int .i64 0, .slice none 0 0] 34 (0, 0)) (by (with_reducible repeat (first | refine blk_drewN ?_ _ | refine blk_drew ?_ | refine blk_alloc ?_ _)); exact z21_.out) z25_.out (by simp))
             have z15_ := Aside0.mk (KeepBut.blk hk (g' := z27_) (o := .cells #[.int .i64 z52_, .int .i64 z53_, .slice y2_ z54_.length y3_] 34 (0, 0)) (by (with_reducible repeat (first | refine blk_drewN ?_ _ | refine blk_drew ?_ | refine blk_alloc ?_ _)); exact z32_.out) z38_.out (by simp))
             have z16_ := Aside0.mk (KeepBut.blk hk (g' := y15_) (o := .cells #[.int .i64 0, .int .i64 0, .slice none 0 0] 34 (0, 0)) (by (with_reducible repeat (first | refine blk_drewN ?_ _ | refine blk_drew ?_ | refine blk_alloc ?_ _)); exact y22_.out) y30_.out (by simp))
             have z17_ := Aside0.mk (KeepBut.trans (by repeat (first | (with_reducible first | exact HK.out | apply KeepBut.set_ | apply keep_drewN | apply keep_drew | apply keep_alloc | refine keep_far ?_ z22_.out _ | refine keep_far ?_ z33_.out _ | refine keep_far ?_ y23_.out _) | exact HK.out)) hk (.inl rfl))
             have z18_ := Aside0.mk (hb)
             have z19_ := Aside0.mk (hi)
             clear z57_
             clear z21_
             clear z32_
             clear y22_
             clear HK
             clear HB
             clear z3_
             have z57_ := z13_
             have z21_ := z14_
             have z32_ := z15_
             have y22_ := z16_
             have HK := z17_
             have HB := z18_
             have z3_ := z19_
             clear z13_ z14_ z15_ z16_ z17_ z18_ z19_
             (try clear hb)
             (try clear hb2)
             (try clear hk)
             (try clear hi)
             refine hK.out _ _ ⟨(blk_cell z32_.out 0).trans rfl, (blk_cell z32_.out 1).trans rfl, (blk_cell z32_.out 2).trans rfl⟩ (fun hHeld => ?_)
             clear hK K
             refine norm_ (a' := ?_) ?_ ?_
             rotate_left
             · show Act.put _ (some 23) _ = _
               simp only [Act.put, List.setIfInBounds_toArray, List.set_cons_zero, List.set_cons_succ, i64_w, i32_w]
               rfl
             refine one_ (i := 7) (N := some 24) #[true, true, true, true, true, true, true, true, false, false, false, true, false, false] rfl rfl (one_of HT_.out (by kernel_rfl)) (by decide) (fun K hK => ?_)
             refine goes_ Try.func124 (by kernel_rfl) rfl #[.agg #[.int .i64 z52_, .int .i64 z53_, .slice y2_ z54_.length y3_], .int .i64 z69_] (by rfl) rfl rfl (by (try simp only [List.map_toArray, List.map_cons, List.map_nil]); first | done | rfl | (simp only [List.length_drop, List.length_take]; rfl)) ?_
             with_reducible refine (spec_WithBroken.calls _ _ _ _ _ _ _ _ _ _ _ _ ?side1 ?side2 z79_.out).mono ?_
             (case side1 => repeat (first | exact (Kd.R_reads' z57_.out).2.2 | (with_reducible refine Kd.C_alloc ?_ _) | (with_reducible refine Kd.C_drewN ?_ _) | (with_reducible refine Kd.C_drew ?_)))
             (case side2 => exact (Kd.R_reads' z57_.out).2.1)
             rintro e y16_ ⟨y12_, rfl, y13_, hb⟩
             refine ⟨_, rfl, ?_⟩
             have z13_ := Aside0.mk (Kd.R_elder' (by (with_reducible repeat (first | apply Kd.R_alloc | apply Kd.R_drewN | apply Kd.R_drew)); exact z57_.out) (Kd.R_base y13_) hb)
             have z14_ := Aside0.mk (Kd.R_lower (Kd.R_new' y13_ (Kd.R_lt (by (with_reducible repeat (first | apply Kd.R_alloc | apply Kd.R_drewN | apply Kd.R_drew)); exact z57_.out))) (keep_size (w := w) (g := g) (row := none) (by repeat (first | (with_reducible first | exact HK.out | apply KeepBut.set_ | apply keep_drewN | apply keep_drew | apply keep_alloc | refine keep_far ?_ z22_.out _ | refine keep_far ?_ z33_.out _ | refine keep_far ?_ y23_.out _) | exact HK.out))))
             have z15_ := Aside0.mk (blk_below (g := z11_) (o := .cells #[.int .i64 0, .int .i64 0, .slice none 0 0] 34 (0, 0)) (by (with_reducible repeat (first | refine blk_drewN ?_ _ | refine blk_drew ?_ | refine blk_alloc ?_ _)); exact z21_.out) hb)
             have z16_ := Aside0.mk (blk_below (g := z27_) (o := .cells #[.int .i64 z52_, .int .i64 z53_, .slice y2_ z54_.length y3_] 34 (0, 0)) (by (with_reducible repeat (first | refine blk_drewN ?_ _ | refine blk_drew ?_ | refine blk_alloc ?_ _)); exact z32_.out) hb)
             have z17_ := Aside0.mk (IsS124.below (by repeat (first | (with_reducible first | exact z3_.out | apply IsS124.alloc | apply IsS124.drewN | apply IsS124.drew | apply IsS124.set_1 | apply IsS124.set_2 | refine IsS124.far ?_ z24_.out _ | refine IsS124.far ?_ z37_.out _ | refine IsS124.far ?_ y29_.out _) | exact z3_.out)) hb)
             have z18_ := Aside0.mk (blk_below (g := y15_) (o := .cells #[.int .i64 0, .int .i64 0, .slice none 0 0] 34 (0, 0)) (by (with_reducible repeat (first | refine blk_drewN ?_ _ | refine blk_drew ?_ | refine blk_alloc ?_ _)); exact y22_.out) hb)
             have z19_ := Aside0.mk (KeepBut.trans (by repeat (first | (with_reducible first | exact HK.out | apply KeepBut.set_ | apply keep_drewN | apply keep_drew | apply keep_alloc | refine keep_far ?_ z22_.out _ | refine keep_far ?_ z33_.out _ | refine keep_far ?_ y23_.out _) | exact HK.out)) (KeepBut.of_below hb g none) (.inl rfl))
             have z20_ := Aside0.mk (below_step (by repeat (first | (with_reducible first | exact HB.out | apply below_alloc | apply pw_below_drewN | apply below_drew1 | refine below_set ?_ (IsS124.ge z3_.out) | refine below_set ?_ z23_.out | refine below_set ?_ z34_.out | refine below_set ?_ y24_.out) | exact HB.out)) hb)
             clear z57_
             clear z21_
             clear z32_
             clear z3_
             clear y22_
             clear HK
             clear HB
             have z57_ := z13_
             have y14_ := z14_
             have z21_ := z15_
             have z32_ := z16_
             have z3_ := z17_
             have y22_ := z18_
             have HK := z19_
             have HB := z20_
             clear z13_ z14_ z15_ z16_ z17_ z18_ z19_ z20_
             (try clear hb)
             (try clear hb2)
             (try clear hk)
             (try clear hi)
             (try clear y13_)
             refine hK.out _ _ ⟨(blk_cell z32_.out 0).trans rfl, (blk_cell z32_.out 1).trans rfl, (blk_cell z32_.out 2).trans rfl⟩ (fun hHeld => ?_)
             clear hK K
             refine norm_ (a' := ?_) ?_ ?_
             rotate_left
             · show Act.put _ (some 24) _ = _
               simp only [Act.put, List.setIfInBounds_toArray, List.set_cons_zero, List.set_cons_succ, i64_w, i32_w]
               rfl
             refine pure_ (i := 8) (N := some 16) (v := ?_) (a' := ?_) #[true, true, true, true, true, true, true, true, true, false, false, true, false, false] rfl rfl (any_of HT_.out (by kernel_rfl)) (fun _ _ _ h => h) (Or.inl ⟨by rfl, ?_⟩) ?_ ?_
             rotate_left
             · intro w'
               go_simp
               with_reducible rfl
             rotate_left
             · simp only [Act.put, List.setIfInBounds_toArray, List.set_cons_zero, List.set_cons_succ, i64_w, i32_w]
               rfl
             refine pure_ (i := 9) (N := some 25) (v := ?_) (a' := ?_) #[true, true, true, true, true, true, true, true, true, true, false, true, false, false] rfl rfl (any_of HT_.out (by kernel_rfl)) (fun _ _ _ h => h) (Or.inl ⟨by rfl, ?_⟩) ?_ ?_
             rotate_left
             · intro w'
               go_simp
               with_reducible rfl
             rotate_left
             · simp only [Act.put, List.setIfInBounds_toArray, List.set_cons_zero, List.set_cons_succ, i64_w, i32_w]
               rfl
             refine pure_ (i := 10) (N := some 26) (v := ?_) (a' := ?_) #[true, true, true, true, true, true, true, true, true, true, true, true, false, false] rfl rfl (any_of HT_.out (by kernel_rfl)) (fun _ _ _ h => h) (Or.inl ⟨by rfl, ?_⟩) ?_ ?_
             rotate_left
             · intro w'
               go_simp
               with_reducible rfl
             rotate_left
             · simp only [Act.put, List.setIfInBounds_toArray, List.set_cons_zero, List.set_cons_succ, i64_w, i32_w]
               rfl
             exact norm_ (by simp only [putAll, Act.put, List.setIfInBounds_toArray, List.set_cons_zero, List.set_cons_succ]) (hCont (y12_, y15_) _ ⟨hHeld, (by (with_reducible repeat (first | apply Kd.R_alloc | apply Kd.R_drewN | apply Kd.R_drew)); exact Kd.R_mono y14_.out (fun _ hk => hk.2)), (by (with_reducible repeat (first | apply Kd.R_alloc | apply Kd.R_drewN | apply Kd.R_drew)); exact Kd.R_mono z57_.out (fun _ hk => hk.2)), (by (with_reducible repeat (first | refine blk_drewN ?_ _ | refine blk_drew ?_ | refine blk_alloc ?_ _)); exact z21_.out), (by (with_reducible repeat (first | refine blk_drewN ?_ _ | refine blk_drew ?_ | refine blk_alloc ?_ _)); exact z32_.out), (by (with_reducible repeat (first | refine blk_drewN ?_ _ | refine blk_drew ?_ | refine blk_alloc ?_ _)); exact y22_.out), y23_.out, y24_.out, y29_.out, y30_.out, y25_.out, y26_.out, y27_.out, y28_.out, (by repeat (first | (with_reducible first | exact z3_.out | apply IsS124.alloc | apply IsS124.drewN | apply IsS124.drew | apply IsS124.set_1 | apply IsS124.set_2 | refine IsS124.far ?_ z24_.out _ | refine IsS124.far ?_ z37_.out _ | refine IsS124.far ?_ y29_.out _) | exact z3_.out)), (by repeat (first | (with_reducible first | exact HK.out | apply KeepBut.set_ | apply keep_drewN | apply keep_drew | apply keep_alloc | refine keep_far ?_ z22_.out _ | refine keep_far ?_ z33_.out _ | refine keep_far ?_ y23_.out _) | exact HK.out)), (by repeat (first | (with_reducible first | exact HB.out | apply below_alloc | apply pw_below_drewN | apply below_drew1 | refine below_set ?_ (IsS124.ge z3_.out) | refine below_set ?_ z23_.out | refine below_set ?_ z34_.out | refine below_set ?_ y24_.out) | exact HB.out))⟩)
         rintro ⟨y12_, y15_⟩ y31_ ⟨hS_, y32_, y33_, y34_, y35_, y36_, y37_, y38_, y39_, y40_, y41_, y42_, y43_, y44_, y45_, y46_, y47_⟩
         have z13_ : Aside0 (Kd.R (Kd.int .i64) 3 y31_ w.heap.size (fun k_ => some k_ ≠ (.slice y2_ z54_.length y3_ : Value).ownBlock) y12_ z76_) := ⟨y32_⟩
         have z14_ : Aside0 (Kd.R (Kd.int .i64) 3 y31_ w.heap.size (fun k_ => some k_ ≠ (y12_ : Value).ownBlock) (.slice y2_ z54_.length y3_) z54_) := ⟨y33_⟩
         have z15_ : Aside0 (y31_.heap[z11_]? = some (.cells #[.int .i64 0, .int .i64 0, .slice none 0 0] 34 (0, 0))) := ⟨y34_⟩
         have z16_ : Aside0 (y31_.heap[z27_]? = some (.cells #[.int .i64 z52_, .int .i64 z53_, .slice y2_ z54_.length y3_] 34 (0, 0))) := ⟨y35_⟩
         have z17_ : Aside0 (y31_.heap[y15_]? = some (.cells #[.int .i64 0, .int .i64 0, .slice none 0 0] 34 (0, 0))) := ⟨y36_⟩
         have z18_ : Aside0 (w.heap.size ≤ y15_) := ⟨y37_⟩
         have z19_ : Aside0 (w0.heap.size ≤ y15_) := ⟨y38_⟩
         have z20_ : Aside0 (g ≠ y15_) := ⟨y39_⟩
         have z29_ : Aside0 (y15_ ≠ g) := ⟨y40_⟩
         have z30_ : Aside0 (z11_ ≠ y15_) := ⟨y41_⟩
         have z31_ : Aside0 (y15_ ≠ z11_) := ⟨y42_⟩
         have y17_ : Aside0 (z27_ ≠ y15_) := ⟨y43_⟩
         have y18_ : Aside0 (y15_ ≠ z27_) := ⟨y44_⟩
         have y19_ : Aside0 (IsS124 w0 y31_ g s0_0 z70_ z71_) := ⟨y45_⟩
         have y20_ : Aside0 (KeepBut w y31_ g none) := ⟨y46_⟩
         have y21_ : Aside0 (Below w0.heap.size w0 y31_) := ⟨y47_⟩
         clear z57_
         clear z21_
         clear z32_
         clear z3_
         clear HK
         clear HB
         clear y32_ y33_ y34_ y35_ y36_ y37_ y38_ y39_ y40_ y41_ y42_ y43_ y44_ y45_ y46_ y47_
         have y14_ := z13_
         have z57_ := z14_
         have z21_ := z15_
         have z32_ := z16_
         have y22_ := z17_
         have y23_ := z18_
         have y24_ := z19_
         have y29_ := z20_
         have y30_ := z29_
         have y25_ := z30_
         have y26_ := z31_
         have y27_ := y17_
         have y28_ := y18_
         have z3_ := y19_
         have HK := y20_
         have HB := y21_
         clear z13_ z14_ z15_ z16_ z17_ z18_ z19_ z20_ z29_ z30_ z31_ y17_ y18_ y19_ y20_ y21_
         have hHeld : y31_.cell? ⟨z27_, 0, none⟩ = some (.int .i64 z52_) ∧ y31_.cell? ⟨z27_, 1, none⟩ = some (.int .i64 z53_) ∧ y31_.cell? ⟨z27_, 2, none⟩ = some (.slice y2_ z54_.length y3_) := hS_
         obtain ⟨y48_, y49_, y50_⟩ := Kd.R_slice y14_.out
         (first | subst y50_ | (injection y50_ with f1_ f2_ f3_; have y51_ := f1_.symm; have y52_ := f3_.symm; clear f1_ f2_ f3_; subst y51_; subst y52_))
         refine norm_ (a' := ?_) ?_ ?_
         rotate_left
         · simp only [putAll, Act.put, List.setIfInBounds_toArray, List.set_cons_zero, List.set_cons_succ]
           rfl
         refine one_ (i := 12) (N := none) #[true, true, true, true, true, true, true, true, true, true, true, true, true, false] rfl rfl (one_of HT_.out (by kernel_rfl)) (by decide) (fun K hK => ?_)
         have y53_ : y31_.cell? ⟨y15_, 0, none⟩ = some (.int .i64 0) := (blk_cell y22_.out 0).trans rfl
         have y54_ := blk_frozen y22_.out 0
         have y55_ := y25_.out
         have y56_ := y27_.out
         have y57_ := y26_.out
         have y58_ := y28_.out
         have y59_ : y31_.cell? ⟨y15_, 1, none⟩ = some (.int .i64 0) := (blk_cell y22_.out 1).trans rfl
         have y60_ := blk_frozen y22_.out 1
         have y61_ := y25_.out
         have y62_ := y27_.out
         have y63_ := y26_.out
         have y64_ := y28_.out
         have y65_ : y31_.cell? ⟨y15_, 2, none⟩ = some (.slice none 0 0) := (blk_cell y22_.out 2).trans rfl
         have y66_ := blk_frozen y22_.out 2
         have y67_ := y25_.out
         have y68_ := y27_.out
         have y69_ := y26_.out
         have y70_ := y28_.out
         refine skip_ (w1 := ?_) (by rfl) rfl ?_ ?_
         rotate_left
         · go_simp
           rfl
         refine hK.out _ _ ⟨((cell_far (p := ⟨y15_, _, none⟩) y27_.out _).trans (((cell_far (p := ⟨y15_, _, none⟩) y27_.out _).trans (((cell_far (p := ⟨y15_, _, none⟩) y27_.out _).trans (hHeld.1)))))), ((cell_far (p := ⟨y15_, _, none⟩) y27_.out _).trans (((cell_far (p := ⟨y15_, _, none⟩) y27_.out _).trans (((cell_far (p := ⟨y15_, _, none⟩) y27_.out _).trans (hHeld.2.1)))))), ((cell_far (p := ⟨y15_, _, none⟩) y27_.out _).trans (((cell_far (p := ⟨y15_, _, none⟩) y27_.out _).trans (((cell_far (p := ⟨y15_, _, none⟩) y27_.out _).trans (hHeld.2.2))))))⟩ (fun hHeld => ?_)
         clear hK K
         refine pure_ (i := 13) (N := some 6) (v := ?_) (a' := ?_) #[true, true, true, true, true, true, true, true, true, true, true, true, true, true] rfl rfl (any_of HT_.out (by kernel_rfl)) (fun _ _ _ h => h) (Or.inl ⟨by rfl, ?_⟩) ?_ ?_
         rotate_left
         · intro w'
           go_simp
           with_reducible rfl
         rotate_left
         · simp only [Act.put, List.setIfInBounds_toArray, List.set_cons_zero, List.set_cons_succ, i64_w, i32_w]
           rfl
         refine done_ (done_of HT_.out (by kernel_rfl)) ?_
         have y71_ := y26_.out
         have y72_ := y25_.out
         have y73_ := y28_.out
         have y74_ := y27_.out
         have y75_ := y30_.out
         have y76_ := y29_.out
         have y77_ : y31_.cell? ⟨y15_, 0, none⟩ = some (.int .i64 0) := (blk_cell y22_.out 0).trans rfl
         have y78_ : y31_.cell? ⟨y15_, 1, none⟩ = some (.int .i64 0) := (blk_cell y22_.out 1).trans rfl
         have y79_ : y31_.cell? ⟨y15_, 2, none⟩ = some (.slice none 0 0) := (blk_cell y22_.out 2).trans rfl
         have y80_ := blk_frozen y22_.out 0
         have y81_ := blk_frozen y22_.out 1
         have y82_ := blk_frozen y22_.out 2
         try go_wp2_with (first | ((with_reducible refine gate_callee (f := 86) rfl ?_); refine goesL_ (some 28) rfl rfl Try.func86 (by kernel_rfl) rfl #[.agg #[.int .i64 z74_, .int .i64 z75_, .slice y48_ z76_.length y49_]] rfl (by (try simp only [List.map_toArray, List.map_cons, List.map_nil]); first | done | rfl | (simp only [List.length_drop, List.length_take]; rfl)) ?_; (with_reducible refine (spec_IsConnected.calls _ _ _ _ _ _ _ _ ?side1 ?side2 z82_.out).mono ?_); (case side1 => refine (Kd.R_reads' (e := 3) (base := w.heap.size) (ok := fun k_ => some k_ ≠ (.slice y2_ z54_.length y3_ : Value).ownBlock) (n := z76_.length) (c := y49_) ?_).2.2; exact (by (with_reducible repeat (first | apply Kd.R_alloc | apply Kd.R_drewN | apply Kd.R_drew)); exact (Kd.R_mono (Kd.R_far (p := ⟨y15_, 2, none⟩) (Kd.R_far (p := ⟨y15_, 1, none⟩) (Kd.R_far (p := ⟨y15_, 0, none⟩) (Kd.R_types y14_.out y22_.out (by decide)) (fun _ hk => hk.2) (.int .i64 z74_)) (fun _ hk => hk.2) (.int .i64 z75_)) (fun _ hk => hk.2) (.slice y48_ z76_.length y49_)) (fun _ h_ => h_.1)))); (case side2 => exact (Kd.R_reads' y14_.out).2.1); rintro e y83_ ⟨rfl, hb⟩; refine ⟨_, rfl, ?_⟩; have z13_ := Aside0.mk (Kd.R_below (by (with_reducible repeat (first | apply Kd.R_alloc | apply Kd.R_drewN | apply Kd.R_drew)); exact (Kd.R_mono (Kd.R_far (p := ⟨y15_, 2, none⟩) (Kd.R_far (p := ⟨y15_, 1, none⟩) (Kd.R_far (p := ⟨y15_, 0, none⟩) (Kd.R_types z57_.out y22_.out (by decide)) (fun _ hk => hk.2) (.int .i64 z74_)) (fun _ hk => hk.2) (.int .i64 z75_)) (fun _ hk => hk.2) (.slice y48_ z76_.length y49_)) (fun _ h_ => h_.1))) hb); have z14_ := Aside0.mk (Kd.R_below (by (with_reducible repeat (first | apply Kd.R_alloc | apply Kd.R_drewN | apply Kd.R_drew)); exact (Kd.R_mono (Kd.R_far (p := ⟨y15_, 2, none⟩) (Kd.R_far (p := ⟨y15_, 1, none⟩) (Kd.R_far (p := ⟨y15_, 0, none⟩) (Kd.R_types y14_.out y22_.out (by decide)) (fun _ hk => hk.2) (.int .i64 z74_)) (fun _ hk => hk.2) (.int .i64 z75_)) (fun _ hk => hk.2) (.slice y48_ z76_.length y49_)) (fun _ h_ => h_.1))) hb); have z15_ := Aside0.mk (blk_below (g := z11_) (o := .cells #[.int .i64 0, .int .i64 0, .slice none 0 0] 34 (0, 0)) (by (with_reducible repeat (first | refine blk_drewN ?_ _ | refine blk_drew ?_ | refine blk_alloc ?_ _)); refine blk_far ?_ y25_.out _; (with_reducible repeat (first | refine blk_drewN ?_ _ | refine blk_drew ?_ | refine blk_alloc ?_ _)); refine blk_far ?_ y25_.out _; (with_reducible repeat (first | refine blk_drewN ?_ _ | refine blk_drew ?_ | refine blk_alloc ?_ _)); refine blk_far ?_ y25_.out _; (with_reducible repeat (first | refine blk_drewN ?_ _ | refine blk_drew ?_ | refine blk_alloc ?_ _)); exact z21_.out) hb); have z16_ := Aside0.mk (blk_below (g := z27_) (o := .cells #[.int .i64 z52_, .int .i64 z53_, .slice y2_ z54_.length y3_] 34 (0, 0)) (by (with_reducible repeat (first | refine blk_drewN ?_ _ | refine blk_drew ?_ | refine blk_alloc ?_ _)); refine blk_far ?_ y27_.out _; (with_reducible repeat (first | refine blk_drewN ?_ _ | refine blk_drew ?_ | refine blk_alloc ?_ _)); refine blk_far ?_ y27_.out _; (with_reducible repeat (first | refine blk_drewN ?_ _ | refine blk_drew ?_ | refine blk_alloc ?_ _)); refine blk_far ?_ y27_.out _; (with_reducible repeat (first | refine blk_drewN ?_ _ | refine blk_drew ?_ | refine blk_alloc ?_ _)); exact z32_.out) hb); have z17_ := Aside0.mk (IsS124.below (show IsS124 w0 (((y31_.setCell ⟨y15_, 0, none⟩ (.int .i64 z74_)).setCell ⟨y15_, 1, none⟩ (.int .i64 z75_)).setCell ⟨y15_, 2, none⟩ (.slice y48_ z76_.length y49_)) g s0_0 z70_ z71_ from by repeat (first | (with_reducible first | exact z3_.out | apply IsS124.alloc | apply IsS124.drewN | apply IsS124.drew | apply IsS124.set_1 | apply IsS124.set_2 | refine IsS124.far ?_ z24_.out _ | refine IsS124.far ?_ z37_.out _ | refine IsS124.far ?_ y29_.out _) | exact z3_.out)) hb); have z18_ := Aside0.mk (blk_below (g := y15_) (o := .cells #[.int .i64 z74_, .int .i64 z75_, .slice y48_ z76_.length y49_] 34 (0, 0)) (by (with_reducible repeat (first | refine blk_drewN ?_ _ | refine blk_drew ?_ | refine blk_alloc ?_ _)); refine blk_put (cs := #[.int .i64 z74_, .int .i64 z75_, .slice none 0 0]) ?_ 2 _ rfl; (with_reducible repeat (first | refine blk_drewN ?_ _ | refine blk_drew ?_ | refine blk_alloc ?_ _)); refine blk_put (cs := #[.int .i64 z74_, .int .i64 0, .slice none 0 0]) ?_ 1 _ rfl; (with_reducible repeat (first | refine blk_drewN ?_ _ | refine blk_drew ?_ | refine blk_alloc ?_ _)); refine blk_put (cs := #[.int .i64 0, .int .i64 0, .slice none 0 0]) ?_ 0 _ rfl; (with_reducible repeat (first | refine blk_drewN ?_ _ | refine blk_drew ?_ | refine blk_alloc ?_ _)); exact y22_.out) hb); have z19_ := Aside0.mk (KeepBut.trans (by repeat (first | (with_reducible first | exact HK.out | apply KeepBut.set_ | apply keep_drewN | apply keep_drew | apply keep_alloc | refine keep_far ?_ z22_.out _ | refine keep_far ?_ z33_.out _ | refine keep_far ?_ y23_.out _) | exact HK.out)) (KeepBut.of_below hb g none) (.inl rfl)); have z20_ := Aside0.mk (below_step (by repeat (first | (with_reducible first | exact HB.out | apply below_alloc | apply pw_below_drewN | apply below_drew1 | refine below_set ?_ (IsS124.ge z3_.out) | refine below_set ?_ z23_.out | refine below_set ?_ z34_.out | refine below_set ?_ y24_.out) | exact HB.out)) hb); clear z57_; clear y14_; clear z21_; clear z32_; clear z3_; clear y22_; clear HK; clear HB; have z57_ := z13_; have y14_ := z14_; have z21_ := z15_; have z32_ := z16_; have z3_ := z17_; have y22_ := z18_; have HK := z19_; have HB := z20_; clear z13_ z14_ z15_ z16_ z17_ z18_ z19_ z20_; (try clear hb); (try clear hb2); (try clear hk); (try clear hi); have y84_ : y83_.cell? ⟨y15_, 0, none⟩ = some (.int .i64 z74_) := (blk_cell y22_.out 0).trans rfl; have y85_ : y83_.cell? ⟨y15_, 1, none⟩ = some (.int .i64 z75_) := (blk_cell y22_.out 1).trans rfl; have y86_ : y83_.cell? ⟨y15_, 2, none⟩ = some (.slice y48_ z76_.length y49_) := (blk_cell y22_.out 2).trans rfl; have y87_ := blk_frozen y22_.out 0; have y88_ := blk_frozen y22_.out 1; have y89_ := blk_frozen y22_.out 2; have y90_ := z36_.out; have y91_ := z35_.out; have y92_ := z38_.out; have y93_ := z37_.out; have y94_ : y83_.cell? ⟨z27_, 0, none⟩ = some (.int .i64 z52_) := (blk_cell z32_.out 0).trans rfl; have y95_ : y83_.cell? ⟨z27_, 1, none⟩ = some (.int .i64 z53_) := (blk_cell z32_.out 1).trans rfl; have y96_ : y83_.cell? ⟨z27_, 2, none⟩ = some (.slice y2_ z54_.length y3_) := (blk_cell z32_.out 2).trans rfl; have y97_ := blk_frozen z32_.out 0; have y98_ := blk_frozen z32_.out 1; have y99_ := blk_frozen z32_.out 2))
         go_roundg z58_
         case measure => have := z56_.out; omega
         case rel => exact ⟨(wrap64 (z49_ + 1)), (z70_), (z71_), (z74_), (z75_), (z76_), (.slice y48_ z76_.length y49_), (by first | rfl | (simp; done) | (simp [*]; done)), H', ⟨by have := z56_.out; omega⟩, ⟨by (with_reducible repeat (first | apply Kd.R_alloc | apply Kd.R_drewN | apply Kd.R_drew)); exact Kd.R_mono (Kd.R_far (p := ⟨z27_, 2, none⟩) (Kd.R_far (p := ⟨z27_, 1, none⟩) (Kd.R_far (p := ⟨z27_, 0, none⟩) (Kd.R_types y14_.out z32_.out (by decide)) (fun _ hk => hk.2) (.int .i64 z74_)) (fun _ hk => hk.2) (.int .i64 z75_)) (fun _ hk => hk.2) (.slice y48_ z76_.length y49_)) (fun _ hk => trivial)⟩, ⟨by (with_reducible repeat (first | refine blk_drewN ?_ _ | refine blk_drew ?_ | refine blk_alloc ?_ _)); refine blk_far ?_ z35_.out _; (with_reducible repeat (first | refine blk_drewN ?_ _ | refine blk_drew ?_ | refine blk_alloc ?_ _)); refine blk_far ?_ z35_.out _; (with_reducible repeat (first | refine blk_drewN ?_ _ | refine blk_drew ?_ | refine blk_alloc ?_ _)); refine blk_far ?_ z35_.out _; (with_reducible repeat (first | refine blk_drewN ?_ _ | refine blk_drew ?_ | refine blk_alloc ?_ _)); exact z21_.out⟩, ⟨by (with_reducible repeat (first | refine blk_drewN ?_ _ | refine blk_drew ?_ | refine blk_alloc ?_ _)); refine blk_put (cs := #[.int .i64 z74_, .int .i64 z75_, .slice y2_ z54_.length y3_]) ?_ 2 _ rfl; (with_reducible repeat (first | refine blk_drewN ?_ _ | refine blk_drew ?_ | refine blk_alloc ?_ _)); refine blk_put (cs := #[.int .i64 z74_, .int .i64 z53_, .slice y2_ z54_.length y3_]) ?_ 1 _ rfl; (with_reducible repeat (first | refine blk_drewN ?_ _ | refine blk_drew ?_ | refine blk_alloc ?_ _)); refine blk_put (cs := #[.int .i64 z52_, .int .i64 z53_, .slice y2_ z54_.length y3_]) ?_ 0 _ rfl; (with_reducible repeat (first | refine blk_drewN ?_ _ | refine blk_drew ?_ | refine blk_alloc ?_ _)); exact z32_.out⟩, ⟨by repeat (first | (with_reducible first | exact z3_.out | apply IsS124.alloc | apply IsS124.drewN | apply IsS124.drew | apply IsS124.set_1 | apply IsS124.set_2 | refine IsS124.far ?_ z24_.out _ | refine IsS124.far ?_ z37_.out _ | refine IsS124.far ?_ y29_.out _) | exact z3_.out)⟩, ⟨by repeat (first | (with_reducible first | exact HK.out | apply KeepBut.set_ | apply keep_drewN | apply keep_drew | apply keep_alloc | refine keep_far ?_ z22_.out _ | refine keep_far ?_ z33_.out _ | refine keep_far ?_ y23_.out _) | exact HK.out)⟩, ⟨by repeat (first | (with_reducible first | exact HB.out | apply below_alloc | apply pw_below_drewN | apply below_drew1 | refine below_set ?_ (IsS124.ge z3_.out) | refine below_set ?_ z23_.out | refine below_set ?_ z34_.out | refine below_set ?_ y24_.out) | exact HB.out)⟩⟩
       | skip
         go_wp2_with (first | ((with_reducible refine gate_callee (f := 72) rfl ?_); refine goesL_ (some 12) rfl rfl Try.func72 (by kernel_rfl) rfl #[.pointer (some ⟨g, 0, none⟩), .int .i64 5] rfl (by (try simp only [List.map_toArray, List.map_cons, List.map_nil]); first | done | rfl | (simp only [List.length_drop, List.length_take]; rfl)) ?_; (with_reducible refine (spec_l01Below.calls _ _ _ _ _ _ _ _ w0 _ ?side1 ?side2 z63_.out).mono ?_); (case side1 => repeat (first | (with_reducible first | exact z3_.out | apply IsS124.alloc | apply IsS124.drewN | apply IsS124.drew | apply IsS124.set_1 | apply IsS124.set_2 | refine IsS124.far ?_ z24_.out _ | refine IsS124.far ?_ z37_.out _) | exact z3_.out)); (case side2 => repeat (first | (with_reducible first | exact HB.out | apply below_alloc | apply pw_below_drewN | apply below_drew1 | refine below_set ?_ (IsS124.ge z3_.out) | refine below_set ?_ z23_.out | refine below_set ?_ z34_.out) | exact HB.out)); rintro e y1_ ⟨rfl, hi, hb, hk⟩; refine ⟨_, rfl, ?_⟩; have z13_ := Aside0.mk (Kd.R_mono (Kd.R_keep (IsS124.apart (show IsS124 w0 _ g s0_0 z50_ z51_ from by repeat (first | (with_reducible first | exact z3_.out | apply IsS124.alloc | apply IsS124.drewN | apply IsS124.drew | apply IsS124.set_1 | apply IsS124.set_2 | refine IsS124.far ?_ z24_.out _ | refine IsS124.far ?_ z37_.out _) | exact z3_.out)) (by (with_reducible repeat (first | apply Kd.R_alloc | apply Kd.R_drewN | apply Kd.R_drew)); exact z57_.out) (by decide)) hk (fun _ h => h.2)) (fun _ h => h.1)); have z14_ := Aside0.mk (KeepBut.blk hk (g' := z11_) (o := .cells #[.int .i64 0, .int .i64 0, .slice none 0 0] 34 (0, 0)) (by (with_reducible repeat (first | refine blk_drewN ?_ _ | refine blk_drew ?_ | refine blk_alloc ?_ _)); exact z21_.out) z25_.out (by simp)); have z15_ := Aside0.mk (KeepBut.blk hk (g' := z27_) (o := .cells #[.int .i64 z52_, .int .i64 z53_, z55_] 34 (0, 0)) (by (with_reducible repeat (first | refine blk_drewN ?_ _ | refine blk_drew ?_ | refine blk_alloc ?_ _)); exact z32_.out) z38_.out (by simp)); have z16_ := Aside0.mk (KeepBut.trans (by repeat (first | (with_reducible first | exact HK.out | apply KeepBut.set_ | apply keep_drewN | apply keep_drew | apply keep_alloc | refine keep_far ?_ z22_.out _ | refine keep_far ?_ z33_.out _) | exact HK.out)) hk (.inl rfl)); have z17_ := Aside0.mk (hb); have z18_ := Aside0.mk (hi); clear z57_; clear z21_; clear z32_; clear HK; clear HB; clear z3_; have z57_ := z13_; have z21_ := z14_; have z32_ := z15_; have HK := z16_; have HB := z17_; have z3_ := z18_; clear z13_ z14_ z15_ z16_ z17_ z18_; (try clear hb); (try clear hb2); (try clear hk); (try clear hi); have y2_ := z36_.out; have y3_ := z35_.out; have y4_ := z38_.out; have y5_ := z37_.out; have y6_ : y1_.cell? ⟨z27_, 0, none⟩ = some (.int .i64 z52_) := (blk_cell z32_.out 0).trans rfl; have y7_ : y1_.cell? ⟨z27_, 1, none⟩ = some (.int .i64 z53_) := (blk_cell z32_.out 1).trans rfl; have y8_ : y1_.cell? ⟨z27_, 2, none⟩ = some (z55_) := (blk_cell z32_.out 2).trans rfl; have y9_ := blk_frozen z32_.out 0; have y10_ := blk_frozen z32_.out 1; have y11_ := blk_frozen z32_.out 2; have y12_ := z25_.out; have y13_ := z24_.out; have y14_ : y1_.cell? ⟨z11_, 0, none⟩ = some (.int .i64 0) := (blk_cell z21_.out 0).trans rfl; have y15_ : y1_.cell? ⟨z11_, 1, none⟩ = some (.int .i64 0) := (blk_cell z21_.out 1).trans rfl; have y16_ : y1_.cell? ⟨z11_, 2, none⟩ = some (.slice none 0 0) := (blk_cell z21_.out 2).trans rfl; have y17_ := blk_frozen z21_.out 0; have y18_ := blk_frozen z21_.out 1; have y19_ := blk_frozen z21_.out 2; obtain ⟨y20_, y21_, y22_⟩ := Kd.R_slice z57_.out; subst y22_))
         refine bodyPost_ret (results_cell_row rfl _ _ z11_ 34 #[.int .i64 z52_, .int .i64 z53_, .slice y20_ z54_.length y21_] (0, 0) _ rfl (by (with_reducible repeat (first | refine blk_drewN ?_ _ | refine blk_drew ?_ | refine blk_alloc ?_ _)); refine blk_put (cs := #[.int .i64 z52_, .int .i64 z53_, .slice none 0 0]) ?_ 2 _ rfl; (with_reducible repeat (first | refine blk_drewN ?_ _ | refine blk_drew ?_ | refine blk_alloc ?_ _)); refine blk_put (cs := #[.int .i64 z52_, .int .i64 0, .slice none 0 0]) ?_ 1 _ rfl; (with_reducible repeat (first | refine blk_drewN ?_ _ | refine blk_drew ?_ | refine blk_alloc ?_ _)); refine blk_put (cs := #[.int .i64 0, .int .i64 0, .slice none 0 0]) ?_ 0 _ rfl; (with_reducible repeat (first | refine blk_drewN ?_ _ | refine blk_drew ?_ | refine blk_alloc ?_ _)); exact z21_.out) Try.underlying34 rfl (by kernel_rfl)) rfl ?_
         exact ⟨_, by first | rfl | (simp [errW_none, errW_some] <;> rfl) | (simp [*, errW_none, errW_some] <;> rfl), by (with_reducible repeat (first | apply Kd.R_alloc | apply Kd.R_drewN | apply Kd.R_drew)); exact Kd.R_mono (Kd.R_far (p := ⟨z11_, 2, none⟩) (Kd.R_far (p := ⟨z11_, 1, none⟩) (Kd.R_far (p := ⟨z11_, 0, none⟩) (Kd.R_types z57_.out z21_.out (by decide)) (fun _ hk => hk.2) (.int .i64 z52_)) (fun _ hk => hk.2) (.int .i64 z53_)) (fun _ hk => hk.2) (.slice y20_ z54_.length y21_)) (fun _ hk => trivial), by repeat (first | (with_reducible first | exact z3_.out | apply IsS124.alloc | apply IsS124.drewN | apply IsS124.drew | apply IsS124.set_1 | apply IsS124.set_2 | refine IsS124.far ?_ z24_.out _ | refine IsS124.far ?_ z37_.out _) | exact z3_.out), by repeat (first | (with_reducible first | exact HB.out | apply below_alloc | apply pw_below_drewN | apply below_drew1 | refine below_set ?_ (IsS124.ge z3_.out) | refine below_set ?_ z23_.out | refine below_set ?_ z34_.out) | exact HB.out), by repeat (first | (with_reducible first | exact HK.out | apply KeepBut.set_ | apply keep_drewN | apply keep_drew | apply keep_alloc | refine keep_far ?_ z22_.out _ | refine keep_far ?_ z33_.out _) | exact HK.out)⟩
end Go.Proofs.Ytkkoenbmokbglaa.F
end
