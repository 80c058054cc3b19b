/- The law FnExactTreeNodes of the laws' package holds for every input: the call returns true and leaves its arguments as they were. No condition. -/
import Derived.Test.YtnakhkfgheapoaaRows
import Derived.Test.YtnakhkfgheapoaaVM22
import Derived.Test.YtnakhkfgheapoaaVW_FnExactTreeNodes
import Derived.WalkKit
import Derived.ProofKit
import Derived.OpenShut
import Derived.ShutString
import Derived.ChangeOld
import Derived.Below
import Derived.SizedLaws
namespace Go.Proofs.Ytnakhkfgheapoaa.fnExactTreeNodes
open Go.ChangeShapes Go.WideShapes Go.ChangeAt Go.RowKit Go.VM
open Go.ChangeMaps (open_string shut_string)
set_option linter.all false
theorem own : ownKnob Try.prog.godebug = none := by kernel_rfl
theorem laidOut : laidOutB Try.prog = true := by kernel_rfl
theorem o3 : VM.Opens Try.prog 3 (Kn.int .i64) (fun x => (Lit.int .i64 x).wf = true) := opens_int Try.underlying3 (by kernel_rfl)
theorem o22 : VM.Opens Try.prog 22 (Kn.slice (Kn.int .i64)) (fun x => x.length ≤ maxLen ∧ ∀ x1 ∈ x, (Lit.int .i64 x1).wf = true) := opens_slice Try.underlying22 (by kernel_rfl) (by decide) o3
set_option maxRecDepth 100000 in
theorem lifted (os : Os) (started : os.Started) (H : Type) (enc : TypeId × Value → H) :
    ReturnsInHanded {} Try.checked os 3 .any (Rows.fnExactTreeNodesSpec.pre6 enc Try.prog Try.f3 Rows.fnExactTreeNodesRow.domain false) (Rows.fnExactTreeNodesSpec.post enc Try.prog Try.f3 false true false false) := by
  refine returnsInHanded_of_change_sized (C := Try.checked) own started (by kernel_rfl) Try.func3
    (ChangeSpec.witness6 (enc := enc) (C := Try.checked) false ⟨#[], #[.slice none 0 0, .int .i64 0, .int .i64 0], []⟩ 8 (by kernel_rfl) (by kernel_rfl) (by kernel_rfl) (by kernel_rfl)) ?_
  intro W base args ds gs before hval0 hW hcnd hsz0 _
  have hval : ∀ (j : Nat) t v, Try.f3.params[j]? = some t → args[j]? = some v → Value.okWide Try.prog W .any base t v := hval0
  have hW' := hW
  obtain ⟨p, q, hA0, hV, rfl, hfz, hnd⟩ := hW
  have hA : DataW.TrodAll enc Try.prog W 0 (fun _ => true) true Try.f3.params.toList args.toList ds p := hA0
  rw [Try.params3] at hA hval
  obtain ⟨v0, vs0, d0, ds0, p0, q0, hargs, rfl, rfl, h0, r0⟩ := trodAll_cons hA
  obtain ⟨v1, vs1, d1, ds1, p1, q1, rfl, rfl, rfl, h1, r1⟩ := trodAll_cons r0
  obtain ⟨v2, vs2, d2, ds2, p2, q2, rfl, rfl, rfl, h2, r2⟩ := trodAll_cons r1
  obtain ⟨rfl, rfl, rfl⟩ := trodAll_nil r2
  obtain rfl : args = #[v0, v1, v2] := by cases args; simp_all
  obtain ⟨rfl, rfl⟩ := trodVars_none hV
  have k0 := h0
  have lt0 : ∀ x ∈ p0, x.block < W.heap.size := by obtain ⟨m, hm⟩ := k0; exact DataW.trod_lt m _ _ _ hm
  obtain ⟨m0, L0, ι0, c0, A0, E0, V0, K0, w0⟩ := open_sl o22 Try.underlying22 (hval 0 22 v0 rfl rfl) h0 (Args.nil (P := Try.prog) (W := W))
  obtain ⟨a1, rfl, rfl, rfl, w1⟩ := open_int Try.underlying3 (hval 1 3 v1 rfl rfl) h1
  obtain ⟨a2, rfl, rfl, rfl, w2⟩ := open_int Try.underlying3 (hval 2 3 v2 rfl rfl) h2
  clear hA0 hval0 hsz0
  have hc := fun F => V.law_FnExactTreeNodes (frz := F) K0 w0 w1 w2
  obtain ⟨_, snd⟩ := vcall_sound V.drawn 3 _ _ _ _ (hc _) (Nat.le_refl _)
  refine (snd _ W _ W [_, _, _] A0 (LRel.cons' V0 (LRel.cons' (.int _ _) (LRel.cons' (.int _ _) LRel.nil')))).mono fun e W' hE => ?_
  obtain ⟨c, ι', rfl, hv, _, R⟩ := hE
  cases hv
  have bel := R.below
  exact ⟨_, rfl, _, _, _, [], _, [], hW', trodAll_mk1 (shut_bool Try.underlying4 _), (trodAll_cons_mk (Below.trod laidOut (by kernel_rfl) (of_decide_eq_true (by kernel_rfl)) k0 bel lt0) (trodAll_cons_mk (shut_int Try.underlying3 w1) (trodAll_cons_mk (shut_int Try.underlying3 w2) trodAll_mk0))), rfl, bel.frame _, fun h => by cases h⟩
theorem over : Rows.fnExactTreeNodesRow.holds Try.pinned (OpenSpec.ofChange Rows.fnExactTreeNodesSpec) :=
  OpenClaim.holds_of_wide 3 Try.f3 rfl rfl rfl rfl rfl rfl rfl ⟨rfl, rfl, rfl, rfl, rfl⟩ rfl rfl rfl rfl rfl (by kernel_rfl) Try.func3 (by kernel_rfl)
    (of_decide_eq_true (by kernel_rfl)) (by unfold Func.isWrapper; first | (rw [if_pos (by decide +kernel)]; kernel_rfl) | (rw [if_neg (by decide +kernel)]; exact ⟨rfl, rfl⟩))
    (fun os started H enc _ => lifted os started H enc)
theorem proved : Rows.FnExactTreeNodesSaid := over
end Go.Proofs.Ytnakhkfgheapoaa.fnExactTreeNodes
namespace Go.Proofs.Ytnakhkfgheapoaa
theorem fnExactTreeNodes_holds : Rows.FnExactTreeNodesSaid := fnExactTreeNodes.proved
#print axioms fnExactTreeNodes_holds
end Go.Proofs.Ytnakhkfgheapoaa
