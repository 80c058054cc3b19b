/- The law FnReplies of the laws' package holds for every input: the call returns true and leaves its arguments as they were. No condition. -/
import Derived.Test.YtaldglgobgjeaaaRows
import Derived.Test.YtaldglgobgjeaaaKM0
import Derived.Test.YtaldglgobgjeaaaKM1
import Derived.Test.YtaldglgobgjeaaaKFnReplies0
import Derived.Test.YtaldglgobgjeaaaKFnReplies1
import Derived.WalkKit
import Derived.ProofKit
import Derived.OpenShut
import Derived.ShutString
import Derived.ChangeOld
import Derived.Below
import Derived.SizedLaws
namespace Go.Proofs.Ytaldglgobgjeaaa.fnReplies
open Go.ChangeShapes Go.WideShapes Go.ChangeAt Go.RowKit Go.VM
open Go.ChangeMaps (open_string shut_string)
set_option linter.all false
theorem own : ownKnob Try.prog.godebug = none := by kernel_rfl
theorem laidOut : laidOutB Try.prog = true := by kernel_rfl
theorem o5 : VM.Opens Try.prog 5 (Kn.int .u8) (fun x => (Lit.int .u8 x).wf = true) := opens_int Try.underlying5 (by kernel_rfl)
theorem o22 : VM.Opens Try.prog 22 (Kn.slice (Kn.int .u8)) (fun x => x.length ≤ maxLen ∧ ∀ x1 ∈ x, (Lit.int .u8 x1).wf = true) := opens_slice Try.underlying22 (by kernel_rfl) (by decide) o5
set_option maxRecDepth 100000 in
theorem lifted (os : Os) (started : os.Started) (H : Type) (enc : TypeId × Value → H) :
    ReturnsInHanded {} Try.checked os 3 .any (Rows.fnRepliesSpec.pre6 enc Try.prog Try.f3 Rows.fnRepliesRow.domain false) (Rows.fnRepliesSpec.post enc Try.prog Try.f3 false true false false) := by
  refine returnsInHanded_of_change_sized (C := Try.checked) own started (by kernel_rfl) Try.func3
    (ChangeSpec.witness6 (enc := enc) (C := Try.checked) false ⟨#[], #[.slice none 0 0], []⟩ 8 (by kernel_rfl) (by kernel_rfl) (by kernel_rfl) (by kernel_rfl)) ?_
  intro W base args ds gs before hval0 hW hcnd hsz0 _
  have hval : ∀ (j : Nat) t v, Try.f3.params[j]? = some t → args[j]? = some v → Value.okWide Try.prog W .any base t v := hval0
  have hW' := hW
  obtain ⟨p, q, hA0, hV, rfl, hfz, hnd⟩ := hW
  have hA : DataW.TrodAll enc Try.prog W 0 (fun _ => true) true Try.f3.params.toList args.toList ds p := hA0
  rw [Try.params3] at hA hval
  obtain ⟨v0, vs0, d0, ds0, p0, q0, hargs, rfl, rfl, h0, r0⟩ := trodAll_cons hA
  obtain ⟨rfl, rfl, rfl⟩ := trodAll_nil r0
  obtain rfl : args = #[v0] := by cases args; simp_all
  obtain ⟨rfl, rfl⟩ := trodVars_none hV
  have k0 := h0
  have lt0 : ∀ x ∈ p0, x.block < W.heap.size := by obtain ⟨m, hm⟩ := k0; exact DataW.trod_lt m _ _ _ hm
  obtain ⟨m0, L0, ι0, c0, A0, E0, V0, K0, w0⟩ := open_sl o22 Try.underlying22 (hval 0 22 v0 rfl rfl) h0 (Args.nil (P := Try.prog) (W := W))
  clear hA0 hval0 hsz0
  have hc := fun F => V.law_FnReplies (frz := F) K0 w0
  obtain ⟨_, snd⟩ := vcall_sound V.drawn 3 _ _ _ _ (hc _) (Nat.le_refl _)
  refine (snd _ W _ W [_] A0 (LRel.cons' V0 LRel.nil')).mono fun e W' hE => ?_
  obtain ⟨c, ι', rfl, hv, _, R⟩ := hE
  cases hv
  have bel := R.below
  exact ⟨_, rfl, _, _, _, [], _, [], hW', trodAll_mk1 (shut_bool Try.underlying4 _), (trodAll_cons_mk (Below.trod laidOut (by kernel_rfl) (of_decide_eq_true (by kernel_rfl)) k0 bel lt0) trodAll_mk0), rfl, bel.frame _, fun h => by cases h⟩
theorem over : Rows.fnRepliesRow.holds Try.pinned (OpenSpec.ofChange Rows.fnRepliesSpec) :=
  OpenClaim.holds_of_wide 3 Try.f3 rfl rfl rfl rfl rfl rfl rfl ⟨rfl, rfl, rfl, rfl, rfl⟩ rfl rfl rfl rfl rfl (by kernel_rfl) Try.func3 (by kernel_rfl)
    (of_decide_eq_true (by kernel_rfl)) (by unfold Func.isWrapper; first | (rw [if_pos (by decide +kernel)]; kernel_rfl) | (rw [if_neg (by decide +kernel)]; exact ⟨rfl, rfl⟩))
    (fun os started H enc _ => lifted os started H enc)
theorem proved : Rows.FnRepliesSaid := over
end Go.Proofs.Ytaldglgobgjeaaa.fnReplies
namespace Go.Proofs.Ytaldglgobgjeaaa
theorem fnReplies_holds : Rows.FnRepliesSaid := fnReplies.proved
#print axioms fnReplies_holds
end Go.Proofs.Ytaldglgobgjeaaa
