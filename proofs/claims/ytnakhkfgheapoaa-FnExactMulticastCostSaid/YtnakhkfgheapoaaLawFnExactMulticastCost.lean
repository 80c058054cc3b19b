/- The law FnExactMulticastCost of the laws' package holds for every input: the call returns true and leaves its arguments as they were. No condition. -/
import Derived.Test.YtnakhkfgheapoaaRows
import Derived.Test.YtnakhkfgheapoaaKM0
import Derived.Test.YtnakhkfgheapoaaKM1
import Derived.Test.YtnakhkfgheapoaaKFnExactMulticastCost0
import Derived.Test.YtnakhkfgheapoaaKFnExactMulticastCost1
import Derived.Test.YtnakhkfgheapoaaKFnExactMulticastCost2
import Derived.WalkKit
import Derived.ProofKit
import Derived.OpenShut
import Derived.ShutString
import Derived.ChangeOld
import Derived.Below
import Derived.SizedLaws
namespace Go.Proofs.Ytnakhkfgheapoaa.fnExactMulticastCost
open Go.ChangeShapes Go.WideShapes Go.ChangeAt Go.RowKit Go.VM
open Go.ChangeMaps (open_string shut_string)
set_option linter.all false
theorem own : ownKnob Try.prog.godebug = none := by kernel_rfl
theorem laidOut : laidOutB Try.prog = true := by kernel_rfl
theorem o3 : VM.Opens Try.prog 3 (Kn.int .i64) (fun x => (Lit.int .i64 x).wf = true) := opens_int Try.underlying3 (by kernel_rfl)
theorem o43 : VM.Opens Try.prog 43 (Kn.pair (Kn.int .i64) (Kn.int .i64)) (fun x => ((Lit.int .i64 x.1).wf = true) ∧ ((Lit.int .i64 x.2).wf = true)) := opens_struct Try.underlying43 (by kernel_rfl) (opens_cons rfl o3 rfl (opens_one rfl o3)) (fun _ h => h)
theorem o22 : VM.Opens Try.prog 22 (Kn.slice (Kn.int .i64)) (fun x => x.length ≤ maxLen ∧ ∀ x2 ∈ x, (Lit.int .i64 x2).wf = true) := opens_slice Try.underlying22 (by kernel_rfl) (by decide) o3
theorem o45 : VM.Opens Try.prog 45 (Kn.pair (Kn.pair (Kn.int .i64) (Kn.int .i64)) (Kn.slice (Kn.int .i64))) (fun x => (((Lit.int .i64 x.1.1).wf = true) ∧ ((Lit.int .i64 x.1.2).wf = true)) ∧ (x.2.length ≤ maxLen ∧ ∀ x1 ∈ x.2, (Lit.int .i64 x1).wf = true)) := opens_struct Try.underlying45 (by kernel_rfl) (opens_cons rfl o43 rfl (opens_one rfl o22)) (fun _ h => h)
theorem o68 : VM.Opens Try.prog 68 (Kn.slice (Kn.int .i64)) (fun x => (x.length ≤ maxLen ∧ ∀ x3 ∈ x, (Lit.int .i64 x3).wf = true)) := opens_struct Try.underlying68 (by kernel_rfl) (opens_one rfl o22) (fun _ h => h)
set_option maxRecDepth 100000 in
theorem lifted (os : Os) (started : os.Started) (H : Type) (enc : TypeId × Value → H) :
    ReturnsInHanded {} Try.checked os 12 .any (Rows.fnExactMulticastCostSpec.pre6 enc Try.prog Try.f12 Rows.fnExactMulticastCostRow.domain false) (Rows.fnExactMulticastCostSpec.post enc Try.prog Try.f12 false true false false) := by
  refine returnsInHanded_of_change_sized (C := Try.checked) own started (by kernel_rfl) Try.func12
    (ChangeSpec.witness6 (enc := enc) (C := Try.checked) false ⟨#[], #[.agg #[.int .i64 0, .int .i64 0, .slice none 0 0], .agg #[.slice none 0 0], .int .i64 0, .slice none 0 0], []⟩ 8 (by kernel_rfl) (by kernel_rfl) (by kernel_rfl) (by kernel_rfl)) ?_
  intro W base args ds gs before hval0 hW hcnd hsz0 _
  have hval : ∀ (j : Nat) t v, Try.f12.params[j]? = some t → args[j]? = some v → Value.okWide Try.prog W .any base t v := hval0
  have hW' := hW
  obtain ⟨p, q, hA0, hV, rfl, hfz, hnd⟩ := hW
  have hA : DataW.TrodAll enc Try.prog W 0 (fun _ => true) true Try.f12.params.toList args.toList ds p := hA0
  rw [Try.params12] at hA hval
  obtain ⟨v0, vs0, d0, ds0, p0, q0, hargs, rfl, rfl, h0, r0⟩ := trodAll_cons hA
  obtain ⟨v1, vs1, d1, ds1, p1, q1, rfl, rfl, rfl, h1, r1⟩ := trodAll_cons r0
  obtain ⟨v2, vs2, d2, ds2, p2, q2, rfl, rfl, rfl, h2, r2⟩ := trodAll_cons r1
  obtain ⟨v3, vs3, d3, ds3, p3, q3, rfl, rfl, rfl, h3, r3⟩ := trodAll_cons r2
  obtain ⟨rfl, rfl, rfl⟩ := trodAll_nil r3
  obtain rfl : args = #[v0, v1, v2, v3] := by cases args; simp_all
  obtain ⟨rfl, rfl⟩ := trodVars_none hV
  have k0 := h0
  have lt0 : ∀ x ∈ p0, x.block < W.heap.size := by obtain ⟨m, hm⟩ := k0; exact DataW.trod_lt m _ _ _ hm
  obtain ⟨m0, L0, ι0, c0, A0, E0, V0, K0, w0⟩ := VM.open_arg o45 Try.underlying45 (hval 0 45 v0 rfl rfl) h0 (Args.nil (P := Try.prog) (W := W))
  have k1 := h1
  have lt1 : ∀ x ∈ p1, x.block < W.heap.size := by obtain ⟨m, hm⟩ := k1; exact DataW.trod_lt m _ _ _ hm
  obtain ⟨m1, L1, ι1, c1, A1, E1, V1, K1, w1⟩ := VM.open_arg o68 Try.underlying68 (hval 1 68 v1 rfl rfl) h1 A0
  replace V0 := V0.mono E1
  replace K0 := (Kn.pair (Kn.pair (Kn.int .i64) (Kn.int .i64)) (Kn.slice (Kn.int .i64))).app (L := L1) K0
  obtain ⟨a2, rfl, rfl, rfl, w2⟩ := open_int Try.underlying3 (hval 2 3 v2 rfl rfl) h2
  have k3 := h3
  have lt3 : ∀ x ∈ p3, x.block < W.heap.size := by obtain ⟨m, hm⟩ := k3; exact DataW.trod_lt m _ _ _ hm
  obtain ⟨m3, L3, ι3, c3, A3, E3, V3, K3, w3⟩ := open_sl o22 Try.underlying22 (hval 3 22 v3 rfl rfl) h3 A1
  replace V0 := V0.mono E3
  replace K0 := (Kn.pair (Kn.pair (Kn.int .i64) (Kn.int .i64)) (Kn.slice (Kn.int .i64))).app (L := L3) K0
  replace V1 := V1.mono E3
  replace K1 := (Kn.slice (Kn.int .i64)).app (L := L3) K1
  obtain ⟨⟨a0_0, a0_1⟩, a0_2⟩ := m0
  obtain ⟨_, _, rfl, ⟨_, _, rfl, rfl, rfl⟩, ⟨u0_2, rfl, s0_2⟩⟩ := K0
  obtain a1_0 := m1
  obtain ⟨u1_0, rfl, s1_0⟩ := K1
  clear hA0 hval0 hsz0
  have hc := fun F => V.law_FnExactMulticastCost (frz := F) s0_2 s1_0 K3 w0 w1 w2 w3
  obtain ⟨_, snd⟩ := vcall_sound V.drawn 12 _ _ _ _ (hc _) (Nat.le_refl _)
  refine (snd _ W _ W [_, _, _, _] A3 (LRel.cons' V0 (LRel.cons' V1 (LRel.cons' (.int _ _) (LRel.cons' V3 LRel.nil'))))).mono fun e W' hE => ?_
  obtain ⟨c, ι', rfl, hv, _, R⟩ := hE
  cases hv
  have bel := R.below
  exact ⟨_, rfl, _, _, _, [], _, [], hW', trodAll_mk1 (shut_bool Try.underlying4 _), (trodAll_cons_mk (Below.trod laidOut (by kernel_rfl) (of_decide_eq_true (by kernel_rfl)) k0 bel lt0) (trodAll_cons_mk (Below.trod laidOut (by kernel_rfl) (of_decide_eq_true (by kernel_rfl)) k1 bel lt1) (trodAll_cons_mk (shut_int Try.underlying3 w2) (trodAll_cons_mk (Below.trod laidOut (by kernel_rfl) (of_decide_eq_true (by kernel_rfl)) k3 bel lt3) trodAll_mk0)))), rfl, bel.frame _, fun h => by cases h⟩
theorem over : Rows.fnExactMulticastCostRow.holds Try.pinned (OpenSpec.ofChange Rows.fnExactMulticastCostSpec) :=
  OpenClaim.holds_of_wide 12 Try.f12 rfl rfl rfl rfl rfl rfl rfl ⟨rfl, rfl, rfl, rfl, rfl⟩ rfl rfl rfl rfl rfl (by kernel_rfl) Try.func12 (by kernel_rfl)
    (of_decide_eq_true (by kernel_rfl)) (by unfold Func.isWrapper; first | (rw [if_pos (by decide +kernel)]; kernel_rfl) | (rw [if_neg (by decide +kernel)]; exact ⟨rfl, rfl⟩))
    (fun os started H enc _ => lifted os started H enc)
theorem proved : Rows.FnExactMulticastCostSaid := over
end Go.Proofs.Ytnakhkfgheapoaa.fnExactMulticastCost
namespace Go.Proofs.Ytnakhkfgheapoaa
theorem fnExactMulticastCost_holds : Rows.FnExactMulticastCostSaid := fnExactMulticastCost.proved
#print axioms fnExactMulticastCost_holds
end Go.Proofs.Ytnakhkfgheapoaa
