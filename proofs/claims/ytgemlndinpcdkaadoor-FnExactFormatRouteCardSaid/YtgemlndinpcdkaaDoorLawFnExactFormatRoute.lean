/- The law FnExactFormatRoute of the laws' package holds for every input: the call returns true and leaves its arguments as they were. No condition. -/
import Derived.Test.YtgemlndinpcdkaaDoorRows
import Derived.Test.YtgemlndinpcdkaaDoorKM0
import Derived.Test.YtgemlndinpcdkaaDoorKM1
import Derived.Test.YtgemlndinpcdkaaDoorKFnExactFormatRoute0
import Derived.Test.YtgemlndinpcdkaaDoorTie
import Derived.Test.YtgemlndinpcdkaaDoorCards
import Derived.WalkKit
import Derived.ProofKit
import Derived.OpenShut
import Derived.ShutString
import Derived.ChangeOld
import Derived.Below
import Derived.SizedLaws
import Derived.LaidMore
import Derived.Stop.Joined
import Derived.SevenTiedAt
namespace Go.Proofs.YtgemlndinpcdkaaDoor.fnExactFormatRoute
open Go.ChangeShapes Go.WideShapes Go.ChangeAt Go.RowKit Go.VM
open Go.ChangeMaps (open_string shut_string)
set_option linter.all false
theorem own : ownKnob Tryd.prog.godebug = none := by kernel_rfl
theorem laidOut : laidOutB Tryd.prog = true := by kernel_rfl
theorem o3 : VM.Opens Tryd.prog 3 (Kn.int .i64) (fun x => (Lit.int .i64 x).wf = true) := opens_int Tryd.underlying3 (by kernel_rfl)
theorem o37 : VM.Opens Tryd.prog 37 (Kn.pair (Kn.int .i64) (Kn.int .i64)) (fun x => ((Lit.int .i64 x.1).wf = true) ∧ ((Lit.int .i64 x.2).wf = true)) := opens_struct Tryd.underlying37 (by kernel_rfl) (opens_cons rfl o3 rfl (opens_one rfl o3)) (fun _ h => h)
theorem o38 : VM.Opens Tryd.prog 38 (Kn.slice (Kn.int .i64)) (fun x => x.length ≤ maxLen ∧ ∀ x2 ∈ x, (Lit.int .i64 x2).wf = true) := opens_slice Tryd.underlying38 (by kernel_rfl) (by decide) o3
theorem o40 : VM.Opens Tryd.prog 40 (Kn.pair (Kn.pair (Kn.int .i64) (Kn.int .i64)) (Kn.slice (Kn.int .i64))) (fun x => (((Lit.int .i64 x.1.1).wf = true) ∧ ((Lit.int .i64 x.1.2).wf = true)) ∧ (x.2.length ≤ maxLen ∧ ∀ x1 ∈ x.2, (Lit.int .i64 x1).wf = true)) := opens_struct Tryd.underlying40 (by kernel_rfl) (opens_cons rfl o37 rfl (opens_one rfl o38)) (fun _ h => h)
set_option maxRecDepth 100000 in
theorem door_met (os : Os) (args : Array Value) : laidMetH Tryd.prog Rows.fnExactFormatRouteRow.laid ((World.doorLaid Tryd.prog 86 os).forCall (fun _ _ => 0) ⟨#[], args, []⟩).memory :=
  laidMetH_of_parts3 (fuel := 8) (laidMet_of_run' 8 (by kernel_rfl) (by kernel_rfl)) (by kernel_rfl) (by kernel_rfl)
set_option maxRecDepth 100000 in
theorem lifted (os : Os) (started : os.Started) (H : Type) (enc : TypeId × Value → H) :
    ReturnsInHanded {} Tryd.checked os 5 .any (fun w args => (Rows.fnExactFormatRouteSpec.pre enc Tryd.prog Tryd.f5 [] false w args ∧ laidMetH Tryd.prog Rows.fnExactFormatRouteRow.laid w) ∧ sizedMet enc Tryd.prog Tryd.f5 (OpenSpec.ofChange Rows.fnExactFormatRouteSpec) false w args) (Rows.fnExactFormatRouteSpec.post enc Tryd.prog Tryd.f5 false true false false) := by
  refine returnsInHanded_of_change_and (C := Tryd.checked) (X := fun w _ => laidMetH Tryd.prog Rows.fnExactFormatRouteRow.laid w) (fun _ _ _ hh h => h.of_heap hh) own started (by kernel_rfl) Tryd.func5
    (ChangeSpec.witness_shaped (enc := enc) (C := Tryd.checked) (os := os) (X := fun w _ => laidMetH Tryd.prog Rows.fnExactFormatRouteRow.laid w) false (World.doorLaid Tryd.prog 86 os) #[.agg #[.int .i64 0, .int .i64 0, .slice none 0 0], .slice none 0 0] 8 rfl (World.shaped_of_RefB (by kernel_rfl) (by kernel_rfl)) (by kernel_rfl) (by kernel_rfl) (by kernel_rfl) (door_met os _)) ?_
  intro W base args ds gs before hval0 hW _ _ hL _
  have hval : ∀ (j : Nat) t v, Tryd.f5.params[j]? = some t → args[j]? = some v → Value.okWide Tryd.prog W .any base t v := hval0
  have hW' := hW
  obtain ⟨p, q, hA0, hV, rfl, hfz, hnd⟩ := hW
  have hA : DataW.TrodAll enc Tryd.prog W 0 (fun _ => true) true Tryd.f5.params.toList args.toList ds p := hA0
  rw [Tryd.params5] at hA hval
  obtain ⟨v0, vs0, d0, ds0, p0, q0, hargs, rfl, rfl, h0, r0⟩ := trodAll_cons hA
  obtain ⟨v1, vs1, d1, ds1, p1, q1, rfl, rfl, rfl, h1, r1⟩ := trodAll_cons r0
  obtain ⟨rfl, rfl, rfl⟩ := trodAll_nil r1
  obtain rfl : args = #[v0, v1] := by cases args; simp_all
  obtain ⟨rfl, rfl⟩ := trodVars_none hV
  have k0 := h0
  have lt0 : ∀ x ∈ p0, x.block < W.heap.size := by obtain ⟨m, hm⟩ := k0; exact DataW.trod_lt m _ _ _ hm
  obtain ⟨m0, L0, ι0, c0, A0, E0, V0, K0, w0⟩ := VM.open_arg o40 Tryd.underlying40 (hval 0 40 v0 rfl rfl) h0 (Args.nil (P := Tryd.prog) (W := W))
  have k1 := h1
  have lt1 : ∀ x ∈ p1, x.block < W.heap.size := by obtain ⟨m, hm⟩ := k1; exact DataW.trod_lt m _ _ _ hm
  obtain ⟨m1, L1, ι1, c1, A1, E1, V1, K1, w1⟩ := open_sl o38 Tryd.underlying38 (hval 1 38 v1 rfl rfl) h1 A0
  replace V0 := V0.mono E1
  replace K0 := (Kn.pair (Kn.pair (Kn.int .i64) (Kn.int .i64)) (Kn.slice (Kn.int .i64))).app (L := L1) K0
  obtain ⟨⟨a0_0, a0_1⟩, a0_2⟩ := m0
  obtain ⟨_, _, rfl, ⟨_, _, rfl, rfl, rfl⟩, ⟨u0_2, rfl, s0_2⟩⟩ := K0
  clear hA0 hval0
  have hc := fun F => V.law_FnExactFormatRoute (frz := F) s0_2 K1 w0 w1
  obtain ⟨_, snd⟩ := vcall_sound V.drawn 5 _ _ _ _ (hc _) (Nat.le_refl _)
  refine (snd _ W _ W [_, _] A1 (LRel.cons' V0 (LRel.cons' V1 LRel.nil'))).mono fun e W' hE => ?_
  obtain ⟨c, ι', rfl, hv, _, R⟩ := hE
  cases hv
  have bel := R.below
  exact ⟨_, rfl, _, _, _, [], _, [], hW', trodAll_mk1 (shut_bool Tryd.underlying4 _), (trodAll_cons_mk (Below.trod laidOut (by kernel_rfl) (of_decide_eq_true (by kernel_rfl)) k0 bel lt0) (trodAll_cons_mk (Below.trod laidOut (by kernel_rfl) (of_decide_eq_true (by kernel_rfl)) k1 bel lt1) trodAll_mk0)), rfl, bel.frame _, fun h => by cases h⟩
theorem over : Rows.fnExactFormatRouteRow.holds Tryd.pinned (OpenSpec.ofChange Rows.fnExactFormatRouteSpec) :=
  OpenClaim.holds_of_wide 5 Tryd.f5 rfl rfl rfl rfl rfl rfl rfl ⟨rfl, rfl, rfl, rfl, rfl⟩ rfl rfl rfl rfl rfl (by kernel_rfl) Tryd.func5 (by kernel_rfl)
    (of_decide_eq_true (by kernel_rfl)) (by unfold Func.isWrapper; first | (rw [if_pos (by decide +kernel)]; kernel_rfl) | (rw [if_neg (by decide +kernel)]; exact ⟨rfl, rfl⟩))
    (fun os started H enc _ => lifted os started H enc)
theorem proved : Rows.FnExactFormatRouteCardSaid :=
  Claim7.holds_tied_plain_at .later [] [.data, .data, .data] true (true, "c03279e26982c03393b9142d10a24c3b56d5fef0adae6ac50daa25b292849580") true
    over (fun _ h => by cases h) (by kernel_rfl) (fun _ h => by cases h) fnExactFormatRoute_row_tie rfl ⟨rfl, rfl⟩ (by kernel_rfl) rfl
    (fun f fn hf hfn => by
      obtain rfl : f = 5 := Option.some.inj ((show Tryd.prog.funcNamed "loop.example/g00984/laws.FnExactFormatRoute" = some 5 by kernel_rfl).symm.trans hf) |>.symm
      obtain rfl : fn = Tryd.f5 := (Option.some.inj (Tryd.func5.symm.trans hfn)).symm
      exact ⟨by kernel_rfl, fun j t ht => by
        rw [Tryd.params5] at ht
        have hm : t ∈ [40, 38] := by simpa using Array.mem_of_getElem? ht
        have hall : ([40, 38].all fun u => !Tryd.prog.wantsStandIn u) = true := by kernel_rfl
        exact (show Tryd.prog.wantsStandIn t = false by simpa using List.all_eq_true.1 hall t hm)⟩)
    (by kernel_rfl)
end Go.Proofs.YtgemlndinpcdkaaDoor.fnExactFormatRoute
namespace Go.Proofs.YtgemlndinpcdkaaDoor
theorem fnExactFormatRoute_holds : Rows.FnExactFormatRouteCardSaid := fnExactFormatRoute.proved
#print axioms fnExactFormatRoute_holds
end Go.Proofs.YtgemlndinpcdkaaDoor
