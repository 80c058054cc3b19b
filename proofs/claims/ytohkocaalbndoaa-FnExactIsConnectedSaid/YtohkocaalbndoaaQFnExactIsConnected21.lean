/- The law FnExactIsConnected of the laws' package holds for every input: the call returns true and leaves its arguments as they were. No condition. -/
import Derived.Test.YtohkocaalbndoaaRows
import Derived.Test.YtohkocaalbndoaaQFnExactIsConnected8
import Derived.Test.YtohkocaalbndoaaQFnExactIsConnected19
import Derived.Test.YtohkocaalbndoaaQFnExactIsConnected20
import Derived.WalkKit
import Derived.ProofKit
import Derived.OpenShut
import Derived.ShutString
import Derived.ChangeOld
import Derived.Below
import Derived.SizedLaws
section
namespace Go.Proofs.Ytohkocaalbndoaa.fnExactIsConnected
open Go.ChangeShapes Go.WideShapes Go.ChangeAt Go.RowKit Go.Proofs.Ytohkocaalbndoaa.F Go.Proofs.Ytohkocaalbndoaa.Open Go.Proofs.YtohkocaalbndoaaW.PrintWords Go.Proofs.YtohkocaalbndoaaW.PrintLast
open Go.ChangeMaps (open_string shut_string)
set_option linter.unusedVariables false
theorem own : ownKnob Try.prog.godebug = none := by kernel_rfl
theorem laidOut : laidOutB Try.prog = true := by kernel_rfl
theorem o3 : Opens Try.prog 3 (Kd.int .i64) (fun x => (Lit.int .i64 x).wf = true) := opens_int Try.underlying3 (by kernel_rfl)
theorem o48 : Opens Try.prog 48 (Kd.pair (Kd.int .i64) (Kd.int .i64)) (fun x => ((Lit.int .i64 x.1).wf = true) ∧ ((Lit.int .i64 x.2).wf = true)) := opens_struct Try.underlying48 (by kernel_rfl) (opens_cons rfl o3 rfl (opens_one rfl o3)) (fun _ h => h)
theorem o28 : Opens Try.prog 28 (Kd.slice 3 (Kd.int .i64)) (fun x => x.length ≤ maxLen ∧ ∀ x2 ∈ x, (Lit.int .i64 x2).wf = true) := opens_slice Try.underlying28 (by kernel_rfl) o3
theorem o50 : Opens Try.prog 50 (Kd.pair (Kd.pair (Kd.int .i64) (Kd.int .i64)) (Kd.slice 3 (Kd.int .i64))) (fun x => (((Lit.int .i64 x.1.1).wf = true) ∧ ((Lit.int .i64 x.1.2).wf = true)) ∧ (x.2.length ≤ maxLen ∧ ∀ x1 ∈ x.2, (Lit.int .i64 x1).wf = true)) := opens_struct Try.underlying50 (by kernel_rfl) (opens_cons rfl o48 rfl (opens_one rfl o28)) (fun _ h => h)
set_option maxRecDepth 100000 in
theorem lifted (os : Os) (started : os.Started) (H : Type) (enc : TypeId × Value → H) :
    ReturnsInHanded {} Try.checked os 12 .any (Rows.fnExactIsConnectedSpec.pre6 enc Try.prog Try.f12 Rows.fnExactIsConnectedRow.domain false) (Rows.fnExactIsConnectedSpec.post enc Try.prog Try.f12 false true false false) := by
  refine returnsInHanded_of_change_sized (C := Try.checked) own started (by kernel_rfl) Try.func12
    (ChangeSpec.witness6 (enc := enc) (C := Try.checked) false ⟨#[], #[.agg #[.int .i64 0, .int .i64 0, .slice none 0 0]], []⟩ 8 (by kernel_rfl) (by kernel_rfl) (by kernel_rfl) (by kernel_rfl)) ?_
  intro W base args ds gs before hval0 hW hcnd hsz0 _
  have hval : ∀ (j : Nat) t v, Try.f12.params[j]? = some t → args[j]? = some v → Value.okWide Try.prog W .any base t v := hval0
  have hW' := hW
  obtain ⟨p, q, hA0, hV, rfl, hfz, hnd⟩ := hW
  have hA : DataW.TrodAll enc Try.prog W 0 (fun _ => true) true Try.f12.params.toList args.toList ds p := hA0
  rw [Try.params12] at hA hval
  obtain ⟨v0, vs0, d0, ds0, p0, q0, hargs, rfl, rfl, h0, r0⟩ := trodAll_cons hA
  obtain ⟨rfl, rfl, rfl⟩ := trodAll_nil r0
  obtain rfl : args = #[v0] := by cases args; simp_all
  obtain ⟨rfl, rfl⟩ := trodVars_none hV
  have k0 := h0
  have lt0 : ∀ x ∈ p0, x.block < W.heap.size := by obtain ⟨m, hm⟩ := k0; exact DataW.trod_lt m _ _ _ hm
  obtain ⟨⟨⟨a0_0, a0_1⟩, l0_2⟩, cs0, rfl, hK0, w0⟩ := open_arg o50 Try.underlying50 (hval 0 50 v0 rfl rfl) h0
  obtain ⟨_, _, rfl, ⟨_, _, rfl, rfl, rfl⟩, ⟨A0_2, c0_2, rfl, hc0_2, hr0_2⟩⟩ := hK0
  clear hA0 hval0 hsz0
  obtain ⟨k, h⟩ := Pure.FnExactIsConnected a0_0 a0_1 l0_2 w0
  refine (laws_FnExactIsConnected.calls k a0_0 a0_1 _ _ l0_2 true W hr0_2 hc0_2 h).mono fun e W' hE => ?_
  obtain ⟨rfl, bel⟩ := hE
  exact ⟨_, rfl, _, _, _, [], _, [], hW', trodAll_mk1 (shut_bool Try.underlying4 _), (trodAll_cons_mk (Below.trod laidOut (by kernel_rfl) (of_decide_eq_true (by kernel_rfl)) k0 bel lt0) trodAll_mk0), rfl, bel.frame _, fun h => by cases h⟩
theorem over : Rows.fnExactIsConnectedRow.holds Try.pinned (OpenSpec.ofChange Rows.fnExactIsConnectedSpec) :=
  OpenClaim.holds_of_wide 12 Try.f12 rfl rfl rfl rfl rfl rfl rfl ⟨rfl, rfl, rfl, rfl, rfl⟩ rfl rfl rfl rfl rfl (by kernel_rfl) Try.func12 (by kernel_rfl)
    (of_decide_eq_true (by kernel_rfl)) (by unfold Func.isWrapper; first | (rw [if_pos (by decide +kernel)]; kernel_rfl) | (rw [if_neg (by decide +kernel)]; exact ⟨rfl, rfl⟩))
    (fun os started H enc _ => lifted os started H enc)
theorem proved : Rows.FnExactIsConnectedSaid := over
end Go.Proofs.Ytohkocaalbndoaa.fnExactIsConnected
namespace Go.Proofs.Ytohkocaalbndoaa
theorem fnExactIsConnected_holds : Rows.FnExactIsConnectedSaid := fnExactIsConnected.proved
#print axioms fnExactIsConnected_holds
end Go.Proofs.Ytohkocaalbndoaa
end
