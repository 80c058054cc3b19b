/- The law FnExactChipNew of the laws' package holds for every input: the call returns true and leaves its arguments as they were. No condition. -/
import Derived.Test.YtcigpclbhfkgaaaRows
import Derived.Test.YtcigpclbhfkgaaaKM0
import Derived.Test.YtcigpclbhfkgaaaKM1
import Derived.Test.YtcigpclbhfkgaaaKFnExactChipNew0
import Derived.Test.YtcigpclbhfkgaaaKFnExactChipNew1
import Derived.Test.YtcigpclbhfkgaaaKFnExactChipNew2
import Derived.WalkKit
import Derived.ProofKit
import Derived.OpenShut
import Derived.ShutString
import Derived.ChangeOld
import Derived.Below
import Derived.SizedLaws
namespace Go.Proofs.Ytcigpclbhfkgaaa.fnExactChipNew
open Go.ChangeShapes Go.WideShapes Go.ChangeAt Go.RowKit Go.VM
open Go.ChangeMaps (open_string shut_string)
set_option linter.all false
theorem own : ownKnob Try.prog.godebug = none := by kernel_rfl
theorem laidOut : laidOutB Try.prog = true := by kernel_rfl
theorem o3 : VM.Opens Try.prog 3 (Kn.int .i64) (fun x => (Lit.int .i64 x).wf = true) := opens_int Try.underlying3 (by kernel_rfl)
theorem o23 : VM.Opens Try.prog 23 (Kn.pair (Kn.int .i64) (Kn.int .i64)) (fun x => ((Lit.int .i64 x.1).wf = true) ∧ ((Lit.int .i64 x.2).wf = true)) := opens_struct Try.underlying23 (by kernel_rfl) (opens_cons rfl o3 rfl (opens_one rfl o3)) (fun _ h => h)
set_option maxRecDepth 100000 in
theorem lifted (os : Os) (started : os.Started) (H : Type) (enc : TypeId × Value → H) :
    ReturnsInHanded {} Try.checked os 6 .any (Rows.fnExactChipNewSpec.pre6 enc Try.prog Try.f6 Rows.fnExactChipNewRow.domain false) (Rows.fnExactChipNewSpec.post enc Try.prog Try.f6 false true false false) := by
  refine returnsInHanded_of_change_sized (C := Try.checked) own started (by kernel_rfl) Try.func6
    (ChangeSpec.witness6 (enc := enc) (C := Try.checked) false ⟨#[], #[.agg #[.int .i64 0, .int .i64 0]], []⟩ 8 (by kernel_rfl) (by kernel_rfl) (by kernel_rfl) (by kernel_rfl)) ?_
  intro W base args ds gs before hval0 hW hcnd hsz0 _
  have hval : ∀ (j : Nat) t v, Try.f6.params[j]? = some t → args[j]? = some v → Value.okWide Try.prog W .any base t v := hval0
  have hW' := hW
  obtain ⟨p, q, hA0, hV, rfl, hfz, hnd⟩ := hW
  have hA : DataW.TrodAll enc Try.prog W 0 (fun _ => true) true Try.f6.params.toList args.toList ds p := hA0
  rw [Try.params6] at hA hval
  obtain ⟨v0, vs0, d0, ds0, p0, q0, hargs, rfl, rfl, h0, r0⟩ := trodAll_cons hA
  obtain ⟨rfl, rfl, rfl⟩ := trodAll_nil r0
  obtain rfl : args = #[v0] := by cases args; simp_all
  obtain ⟨rfl, rfl⟩ := trodVars_none hV
  have k0 := h0
  have lt0 : ∀ x ∈ p0, x.block < W.heap.size := by obtain ⟨m, hm⟩ := k0; exact DataW.trod_lt m _ _ _ hm
  obtain ⟨m0, L0, ι0, c0, A0, E0, V0, K0, w0⟩ := VM.open_arg o23 Try.underlying23 (hval 0 23 v0 rfl rfl) h0 (Args.nil (P := Try.prog) (W := W))
  obtain ⟨a0_0, a0_1⟩ := m0
  obtain ⟨_, _, rfl, rfl, rfl⟩ := K0
  clear hA0 hval0 hsz0
  have hc := fun F => V.law_FnExactChipNew (frz := F) (H := [] ++ L0)  w0
  obtain ⟨_, snd⟩ := vcall_sound V.drawn 6 _ _ _ _ (hc _) (Nat.le_refl _)
  refine (snd _ W _ W [_] A0 (LRel.cons' V0 LRel.nil')).mono fun e W' hE => ?_
  obtain ⟨c, ι', rfl, hv, _, R⟩ := hE
  cases hv
  have bel := R.below
  exact ⟨_, rfl, _, _, _, [], _, [], hW', trodAll_mk1 (shut_bool Try.underlying4 _), (trodAll_cons_mk (Below.trod laidOut (by kernel_rfl) (of_decide_eq_true (by kernel_rfl)) k0 bel lt0) trodAll_mk0), rfl, bel.frame _, fun h => by cases h⟩
theorem over : Rows.fnExactChipNewRow.holds Try.pinned (OpenSpec.ofChange Rows.fnExactChipNewSpec) :=
  OpenClaim.holds_of_wide 6 Try.f6 rfl rfl rfl rfl rfl rfl rfl ⟨rfl, rfl, rfl, rfl, rfl⟩ rfl rfl rfl rfl rfl (by kernel_rfl) Try.func6 (by kernel_rfl)
    (of_decide_eq_true (by kernel_rfl)) (by unfold Func.isWrapper; first | (rw [if_pos (by decide +kernel)]; kernel_rfl) | (rw [if_neg (by decide +kernel)]; exact ⟨rfl, rfl⟩))
    (fun os started H enc _ => lifted os started H enc)
theorem proved : Rows.FnExactChipNewSaid := over
end Go.Proofs.Ytcigpclbhfkgaaa.fnExactChipNew
namespace Go.Proofs.Ytcigpclbhfkgaaa
theorem fnExactChipNew_holds : Rows.FnExactChipNewSaid := fnExactChipNew.proved
#print axioms fnExactChipNew_holds
end Go.Proofs.Ytcigpclbhfkgaaa
