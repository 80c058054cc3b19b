/- The law FnExactRepliesSafe of the laws' package holds for every input: the call returns true and leaves its arguments as they were. No condition. -/
import Derived.Test.YtlbbalmeaedbdaaRows
import Derived.Test.YtlbbalmeaedbdaaKM0
import Derived.Test.YtlbbalmeaedbdaaKM1
import Derived.Test.YtlbbalmeaedbdaaKM2
import Derived.Test.YtlbbalmeaedbdaaKFnExactRepliesSafe0
import Derived.Test.YtlbbalmeaedbdaaKFnExactRepliesSafe1
import Derived.Test.YtlbbalmeaedbdaaKFnExactRepliesSafe2
import Derived.WalkKit
import Derived.ProofKit
import Derived.OpenShut
import Derived.ShutString
import Derived.ChangeOld
import Derived.Below
import Derived.SizedLaws
namespace Go.Proofs.Ytlbbalmeaedbdaa.fnExactRepliesSafe
open Go.ChangeShapes Go.WideShapes Go.ChangeAt Go.RowKit Go.VM
open Go.ChangeMaps (open_string shut_string)
set_option linter.all false
theorem own : ownKnob Try.prog.godebug = none := by kernel_rfl
theorem laidOut : laidOutB Try.prog = true := by kernel_rfl
theorem o3 : VM.Opens Try.prog 3 (Kn.int .i64) (fun x => (Lit.int .i64 x).wf = true) := opens_int Try.underlying3 (by kernel_rfl)
theorem o23 : VM.Opens Try.prog 23 (Kn.pair (Kn.int .i64) (Kn.int .i64)) (fun x => ((Lit.int .i64 x.1).wf = true) ∧ ((Lit.int .i64 x.2).wf = true)) := opens_struct Try.underlying23 (by kernel_rfl) (opens_cons rfl o3 rfl (opens_one rfl o3)) (fun _ h => h)
theorem o24 : VM.Opens Try.prog 24 (Kn.slice (Kn.int .i64)) (fun x => x.length ≤ maxLen ∧ ∀ x2 ∈ x, (Lit.int .i64 x2).wf = true) := opens_slice Try.underlying24 (by kernel_rfl) (by decide) o3
theorem o26 : VM.Opens Try.prog 26 (Kn.pair (Kn.pair (Kn.int .i64) (Kn.int .i64)) (Kn.slice (Kn.int .i64))) (fun x => (((Lit.int .i64 x.1.1).wf = true) ∧ ((Lit.int .i64 x.1.2).wf = true)) ∧ (x.2.length ≤ maxLen ∧ ∀ x1 ∈ x.2, (Lit.int .i64 x1).wf = true)) := opens_struct Try.underlying26 (by kernel_rfl) (opens_cons rfl o23 rfl (opens_one rfl o24)) (fun _ h => h)
theorem o28 : VM.Opens Try.prog 28 (Kn.slice (Kn.int .i64)) (fun x => (x.length ≤ maxLen ∧ ∀ x5 ∈ x, (Lit.int .i64 x5).wf = true)) := opens_struct Try.underlying28 (by kernel_rfl) (opens_one rfl o24) (fun _ h => h)
theorem o30 : VM.Opens Try.prog 30 (Kn.pair (Kn.slice (Kn.int .i64)) (Kn.slice (Kn.int .i64))) (fun x => ((x.1.length ≤ maxLen ∧ ∀ x3 ∈ x.1, (Lit.int .i64 x3).wf = true)) ∧ ((x.2.length ≤ maxLen ∧ ∀ x4 ∈ x.2, (Lit.int .i64 x4).wf = true))) := opens_struct Try.underlying30 (by kernel_rfl) (opens_cons rfl o28 rfl (opens_one rfl o28)) (fun _ h => h)
theorem o4 : VM.Opens Try.prog 4 Kn.bool (fun x => True) := opens_bool Try.underlying4 (by kernel_rfl)
set_option maxRecDepth 100000 in
theorem lifted (os : Os) (started : os.Started) (H : Type) (enc : TypeId × Value → H) :
    ReturnsInHanded {} Try.checked os 4 .any (Rows.fnExactRepliesSafeSpec.pre6 enc Try.prog Try.f4 Rows.fnExactRepliesSafeRow.domain false) (Rows.fnExactRepliesSafeSpec.post enc Try.prog Try.f4 false true false false) := by
  refine returnsInHanded_of_change_sized (C := Try.checked) own started (by kernel_rfl) Try.func4
    (ChangeSpec.witness6 (enc := enc) (C := Try.checked) false ⟨#[], #[.agg #[.int .i64 0, .int .i64 0, .slice none 0 0], .agg #[.slice none 0 0, .slice none 0 0], .bool false], []⟩ 8 (by kernel_rfl) (by kernel_rfl) (by kernel_rfl) (by kernel_rfl)) ?_
  intro W base args ds gs before hval0 hW hcnd hsz0 _
  have hval : ∀ (j : Nat) t v, Try.f4.params[j]? = some t → args[j]? = some v → Value.okWide Try.prog W .any base t v := hval0
  have hW' := hW
  obtain ⟨p, q, hA0, hV, rfl, hfz, hnd⟩ := hW
  have hA : DataW.TrodAll enc Try.prog W 0 (fun _ => true) true Try.f4.params.toList args.toList ds p := hA0
  rw [Try.params4] at hA hval
  obtain ⟨v0, vs0, d0, ds0, p0, q0, hargs, rfl, rfl, h0, r0⟩ := trodAll_cons hA
  obtain ⟨v1, vs1, d1, ds1, p1, q1, rfl, rfl, rfl, h1, r1⟩ := trodAll_cons r0
  obtain ⟨v2, vs2, d2, ds2, p2, q2, rfl, rfl, rfl, h2, r2⟩ := trodAll_cons r1
  obtain ⟨rfl, rfl, rfl⟩ := trodAll_nil r2
  obtain rfl : args = #[v0, v1, v2] := by cases args; simp_all
  obtain ⟨rfl, rfl⟩ := trodVars_none hV
  have k0 := h0
  have lt0 : ∀ x ∈ p0, x.block < W.heap.size := by obtain ⟨m, hm⟩ := k0; exact DataW.trod_lt m _ _ _ hm
  obtain ⟨m0, L0, ι0, c0, A0, E0, V0, K0, w0⟩ := VM.open_arg o26 Try.underlying26 (hval 0 26 v0 rfl rfl) h0 (Args.nil (P := Try.prog) (W := W))
  have k1 := h1
  have lt1 : ∀ x ∈ p1, x.block < W.heap.size := by obtain ⟨m, hm⟩ := k1; exact DataW.trod_lt m _ _ _ hm
  obtain ⟨m1, L1, ι1, c1, A1, E1, V1, K1, w1⟩ := VM.open_arg o30 Try.underlying30 (hval 1 30 v1 rfl rfl) h1 A0
  replace V0 := V0.mono E1
  replace K0 := (Kn.pair (Kn.pair (Kn.int .i64) (Kn.int .i64)) (Kn.slice (Kn.int .i64))).app (L := L1) K0
  obtain ⟨a2, rfl, rfl, rfl⟩ := open_bool Try.underlying4 (hval 2 4 v2 rfl rfl) h2
  obtain ⟨⟨a0_0, a0_1⟩, a0_2⟩ := m0
  obtain ⟨_, _, rfl, ⟨_, _, rfl, rfl, rfl⟩, ⟨u0_2, rfl, s0_2⟩⟩ := K0
  obtain ⟨a1_0, a1_1⟩ := m1
  obtain ⟨_, _, rfl, ⟨u1_0, rfl, s1_0⟩, ⟨u1_1, rfl, s1_1⟩⟩ := K1
  clear hA0 hval0 hsz0
  have hc := fun F => V.law_FnExactRepliesSafe (frz := F) (a2 := a2) s0_2 s1_0 s1_1 w0 w1
  obtain ⟨_, snd⟩ := vcall_sound V.drawn 4 _ _ _ _ (hc _) (Nat.le_refl _)
  refine (snd _ W _ W [_, _, _] A1 (LRel.cons' V0 (LRel.cons' V1 (LRel.cons' (.bool _) LRel.nil')))).mono fun e W' hE => ?_
  obtain ⟨c, ι', rfl, hv, _, R⟩ := hE
  cases hv
  have bel := R.below
  exact ⟨_, rfl, _, _, _, [], _, [], hW', trodAll_mk1 (shut_bool Try.underlying4 _), (trodAll_cons_mk (Below.trod laidOut (by kernel_rfl) (of_decide_eq_true (by kernel_rfl)) k0 bel lt0) (trodAll_cons_mk (Below.trod laidOut (by kernel_rfl) (of_decide_eq_true (by kernel_rfl)) k1 bel lt1) (trodAll_cons_mk (shut_bool Try.underlying4 _) trodAll_mk0))), rfl, bel.frame _, fun h => by cases h⟩
theorem over : Rows.fnExactRepliesSafeRow.holds Try.pinned (OpenSpec.ofChange Rows.fnExactRepliesSafeSpec) :=
  OpenClaim.holds_of_wide 4 Try.f4 rfl rfl rfl rfl rfl rfl rfl ⟨rfl, rfl, rfl, rfl, rfl⟩ rfl rfl rfl rfl rfl (by kernel_rfl) Try.func4 (by kernel_rfl)
    (of_decide_eq_true (by kernel_rfl)) (by unfold Func.isWrapper; first | (rw [if_pos (by decide +kernel)]; kernel_rfl) | (rw [if_neg (by decide +kernel)]; exact ⟨rfl, rfl⟩))
    (fun os started H enc _ => lifted os started H enc)
theorem proved : Rows.FnExactRepliesSafeSaid := over
end Go.Proofs.Ytlbbalmeaedbdaa.fnExactRepliesSafe
namespace Go.Proofs.Ytlbbalmeaedbdaa
theorem fnExactRepliesSafe_holds : Rows.FnExactRepliesSafeSaid := fnExactRepliesSafe.proved
#print axioms fnExactRepliesSafe_holds
end Go.Proofs.Ytlbbalmeaedbdaa
