/- The law FnExactReplaceClasses of the laws' package holds for every input: the call returns true and leaves its arguments as they were. No condition. -/
import Derived.Test.YtcigpclbhfkgaaaRows
import Derived.Test.YtcigpclbhfkgaaaKM0
import Derived.Test.YtcigpclbhfkgaaaKM1
import Derived.Test.YtcigpclbhfkgaaaKFnExactReplaceClasses0
import Derived.Test.YtcigpclbhfkgaaaKFnExactReplaceClasses1
import Derived.WalkKit
import Derived.ProofKit
import Derived.OpenShut
import Derived.ShutString
import Derived.ChangeOld
import Derived.Below
import Derived.SizedLaws
namespace Go.Proofs.Ytcigpclbhfkgaaa.fnExactReplaceClasses
open Go.ChangeShapes Go.WideShapes Go.ChangeAt Go.RowKit Go.VM
open Go.ChangeMaps (open_string shut_string)
set_option linter.all false
theorem own : ownKnob Try.prog.godebug = none := by kernel_rfl
theorem laidOut : laidOutB Try.prog = true := by kernel_rfl
theorem o3 : VM.Opens Try.prog 3 (Kn.int .i64) (fun x => (Lit.int .i64 x).wf = true) := opens_int Try.underlying3 (by kernel_rfl)
theorem o23 : VM.Opens Try.prog 23 (Kn.pair (Kn.int .i64) (Kn.int .i64)) (fun x => ((Lit.int .i64 x.1).wf = true) ∧ ((Lit.int .i64 x.2).wf = true)) := opens_struct Try.underlying23 (by kernel_rfl) (opens_cons rfl o3 rfl (opens_one rfl o3)) (fun _ h => h)
theorem o24 : VM.Opens Try.prog 24 (Kn.slice (Kn.int .i64)) (fun x => x.length ≤ maxLen ∧ ∀ x13 ∈ x, (Lit.int .i64 x13).wf = true) := opens_slice Try.underlying24 (by kernel_rfl) (by decide) o3
theorem o26 : VM.Opens Try.prog 26 (Kn.pair (Kn.pair (Kn.int .i64) (Kn.int .i64)) (Kn.slice (Kn.int .i64))) (fun x => (((Lit.int .i64 x.1.1).wf = true) ∧ ((Lit.int .i64 x.1.2).wf = true)) ∧ (x.2.length ≤ maxLen ∧ ∀ x12 ∈ x.2, (Lit.int .i64 x12).wf = true)) := opens_struct Try.underlying26 (by kernel_rfl) (opens_cons rfl o23 rfl (opens_one rfl o24)) (fun _ h => h)
theorem o28 : VM.Opens Try.prog 28 (Kn.slice (Kn.int .i64)) (fun x => (x.length ≤ maxLen ∧ ∀ x16 ∈ x, (Lit.int .i64 x16).wf = true)) := opens_struct Try.underlying28 (by kernel_rfl) (opens_one rfl o24) (fun _ h => h)
theorem o30 : VM.Opens Try.prog 30 (Kn.pair (Kn.slice (Kn.int .i64)) (Kn.slice (Kn.int .i64))) (fun x => ((x.1.length ≤ maxLen ∧ ∀ x14 ∈ x.1, (Lit.int .i64 x14).wf = true)) ∧ ((x.2.length ≤ maxLen ∧ ∀ x15 ∈ x.2, (Lit.int .i64 x15).wf = true))) := opens_struct Try.underlying30 (by kernel_rfl) (opens_cons rfl o28 rfl (opens_one rfl o28)) (fun _ h => h)
theorem o4 : VM.Opens Try.prog 4 Kn.bool (fun x => True) := opens_bool Try.underlying4 (by kernel_rfl)
theorem o169 : VM.Opens Try.prog 169 (Kn.pair (Kn.int .i64) (Kn.pair (Kn.int .i64) (Kn.pair (Kn.int .i64) (Kn.pair Kn.bool Kn.bool)))) (fun x => ((Lit.int .i64 x.1).wf = true) ∧ ((Lit.int .i64 x.2.1).wf = true) ∧ ((Lit.int .i64 x.2.2.1).wf = true) ∧ (True) ∧ (True)) := opens_struct Try.underlying169 (by kernel_rfl) (opens_cons rfl o3 rfl (opens_cons rfl o3 rfl (opens_cons rfl o3 rfl (opens_cons rfl o4 rfl (opens_one rfl o4))))) (fun _ h => h)
theorem o132 : VM.Opens Try.prog 132 (Kn.slice (Kn.pair (Kn.int .i64) (Kn.pair (Kn.int .i64) (Kn.pair (Kn.int .i64) (Kn.pair Kn.bool Kn.bool))))) (fun x => x.length ≤ maxLen ∧ ∀ x19 ∈ x, ((Lit.int .i64 x19.1).wf = true) ∧ ((Lit.int .i64 x19.2.1).wf = true) ∧ ((Lit.int .i64 x19.2.2.1).wf = true) ∧ (True) ∧ (True)) := opens_slice Try.underlying132 (by kernel_rfl) (by decide) o169
theorem o49 : VM.Opens Try.prog 49 (Kn.slice (Kn.slice (Kn.pair (Kn.int .i64) (Kn.pair (Kn.int .i64) (Kn.pair (Kn.int .i64) (Kn.pair Kn.bool Kn.bool)))))) (fun x => x.length ≤ maxLen ∧ ∀ x17 ∈ x, x17.length ≤ maxLen ∧ ∀ x18 ∈ x17, ((Lit.int .i64 x18.1).wf = true) ∧ ((Lit.int .i64 x18.2.1).wf = true) ∧ ((Lit.int .i64 x18.2.2.1).wf = true) ∧ (True) ∧ (True)) := opens_slice Try.underlying49 (by kernel_rfl) (by decide) o132
theorem o51 : VM.Opens Try.prog 51 (Kn.pair (Kn.pair (Kn.pair (Kn.int .i64) (Kn.int .i64)) (Kn.slice (Kn.int .i64))) (Kn.pair (Kn.pair (Kn.slice (Kn.int .i64)) (Kn.slice (Kn.int .i64))) (Kn.pair (Kn.slice (Kn.slice (Kn.pair (Kn.int .i64) (Kn.pair (Kn.int .i64) (Kn.pair (Kn.int .i64) (Kn.pair Kn.bool Kn.bool)))))) (Kn.pair (Kn.slice (Kn.int .i64)) (Kn.pair (Kn.slice (Kn.int .i64)) (Kn.pair (Kn.slice (Kn.slice (Kn.pair (Kn.int .i64) (Kn.pair (Kn.int .i64) (Kn.pair (Kn.int .i64) (Kn.pair Kn.bool Kn.bool)))))) (Kn.pair (Kn.slice (Kn.slice (Kn.pair (Kn.int .i64) (Kn.pair (Kn.int .i64) (Kn.pair (Kn.int .i64) (Kn.pair Kn.bool Kn.bool)))))) (Kn.int .i64)))))))) (fun x => ((((Lit.int .i64 x.1.1.1).wf = true) ∧ ((Lit.int .i64 x.1.1.2).wf = true)) ∧ (x.1.2.length ≤ maxLen ∧ ∀ x1 ∈ x.1.2, (Lit.int .i64 x1).wf = true)) ∧ (((x.2.1.1.length ≤ maxLen ∧ ∀ x2 ∈ x.2.1.1, (Lit.int .i64 x2).wf = true)) ∧ ((x.2.1.2.length ≤ maxLen ∧ ∀ x3 ∈ x.2.1.2, (Lit.int .i64 x3).wf = true))) ∧ (x.2.2.1.length ≤ maxLen ∧ ∀ x4 ∈ x.2.2.1, x4.length ≤ maxLen ∧ ∀ x5 ∈ x4, ((Lit.int .i64 x5.1).wf = true) ∧ ((Lit.int .i64 x5.2.1).wf = true) ∧ ((Lit.int .i64 x5.2.2.1).wf = true) ∧ (True) ∧ (True)) ∧ (x.2.2.2.1.length ≤ maxLen ∧ ∀ x6 ∈ x.2.2.2.1, (Lit.int .i64 x6).wf = true) ∧ (x.2.2.2.2.1.length ≤ maxLen ∧ ∀ x7 ∈ x.2.2.2.2.1, (Lit.int .i64 x7).wf = true) ∧ (x.2.2.2.2.2.1.length ≤ maxLen ∧ ∀ x8 ∈ x.2.2.2.2.2.1, x8.length ≤ maxLen ∧ ∀ x9 ∈ x8, ((Lit.int .i64 x9.1).wf = true) ∧ ((Lit.int .i64 x9.2.1).wf = true) ∧ ((Lit.int .i64 x9.2.2.1).wf = true) ∧ (True) ∧ (True)) ∧ (x.2.2.2.2.2.2.1.length ≤ maxLen ∧ ∀ x10 ∈ x.2.2.2.2.2.2.1, x10.length ≤ maxLen ∧ ∀ x11 ∈ x10, ((Lit.int .i64 x11.1).wf = true) ∧ ((Lit.int .i64 x11.2.1).wf = true) ∧ ((Lit.int .i64 x11.2.2.1).wf = true) ∧ (True) ∧ (True)) ∧ ((Lit.int .i64 x.2.2.2.2.2.2.2).wf = true)) := opens_struct Try.underlying51 (by kernel_rfl) (opens_cons rfl o26 rfl (opens_cons rfl o30 rfl (opens_cons rfl o49 rfl (opens_cons rfl o24 rfl (opens_cons rfl o24 rfl (opens_cons rfl o49 rfl (opens_cons rfl o49 rfl (opens_one rfl o3)))))))) (fun _ h => h)
set_option maxRecDepth 100000 in
theorem lifted (os : Os) (started : os.Started) (H : Type) (enc : TypeId × Value → H) :
    ReturnsInHanded {} Try.checked os 7 .any (Rows.fnExactReplaceClassesSpec.pre6 enc Try.prog Try.f7 Rows.fnExactReplaceClassesRow.domain false) (Rows.fnExactReplaceClassesSpec.post enc Try.prog Try.f7 false true false false) := by
  refine returnsInHanded_of_change_sized (C := Try.checked) own started (by kernel_rfl) Try.func7
    (ChangeSpec.witness6 (enc := enc) (C := Try.checked) false ⟨#[], #[.agg #[.int .i64 0, .int .i64 0, .slice none 0 0, .slice none 0 0, .slice none 0 0, .slice none 0 0, .slice none 0 0, .slice none 0 0, .slice none 0 0, .slice none 0 0, .int .i64 0], .agg #[.slice none 0 0, .slice none 0 0]], []⟩ 8 (by kernel_rfl) (by kernel_rfl) (by kernel_rfl) (by kernel_rfl)) ?_
  intro W base args ds gs before hval0 hW hcnd hsz0 _
  have hval : ∀ (j : Nat) t v, Try.f7.params[j]? = some t → args[j]? = some v → Value.okWide Try.prog W .any base t v := hval0
  have hW' := hW
  obtain ⟨p, q, hA0, hV, rfl, hfz, hnd⟩ := hW
  have hA : DataW.TrodAll enc Try.prog W 0 (fun _ => true) true Try.f7.params.toList args.toList ds p := hA0
  rw [Try.params7] at hA hval
  obtain ⟨v0, vs0, d0, ds0, p0, q0, hargs, rfl, rfl, h0, r0⟩ := trodAll_cons hA
  obtain ⟨v1, vs1, d1, ds1, p1, q1, rfl, rfl, rfl, h1, r1⟩ := trodAll_cons r0
  obtain ⟨rfl, rfl, rfl⟩ := trodAll_nil r1
  obtain rfl : args = #[v0, v1] := by cases args; simp_all
  obtain ⟨rfl, rfl⟩ := trodVars_none hV
  have k0 := h0
  have lt0 : ∀ x ∈ p0, x.block < W.heap.size := by obtain ⟨m, hm⟩ := k0; exact DataW.trod_lt m _ _ _ hm
  obtain ⟨m0, L0, ι0, c0, A0, E0, V0, K0, w0⟩ := VM.open_arg o51 Try.underlying51 (hval 0 51 v0 rfl rfl) h0 (Args.nil (P := Try.prog) (W := W))
  have k1 := h1
  have lt1 : ∀ x ∈ p1, x.block < W.heap.size := by obtain ⟨m, hm⟩ := k1; exact DataW.trod_lt m _ _ _ hm
  obtain ⟨m1, L1, ι1, c1, A1, E1, V1, K1, w1⟩ := VM.open_arg o30 Try.underlying30 (hval 1 30 v1 rfl rfl) h1 A0
  replace V0 := V0.mono E1
  replace K0 := (Kn.pair (Kn.pair (Kn.pair (Kn.int .i64) (Kn.int .i64)) (Kn.slice (Kn.int .i64))) (Kn.pair (Kn.pair (Kn.slice (Kn.int .i64)) (Kn.slice (Kn.int .i64))) (Kn.pair (Kn.slice (Kn.slice (Kn.pair (Kn.int .i64) (Kn.pair (Kn.int .i64) (Kn.pair (Kn.int .i64) (Kn.pair Kn.bool Kn.bool)))))) (Kn.pair (Kn.slice (Kn.int .i64)) (Kn.pair (Kn.slice (Kn.int .i64)) (Kn.pair (Kn.slice (Kn.slice (Kn.pair (Kn.int .i64) (Kn.pair (Kn.int .i64) (Kn.pair (Kn.int .i64) (Kn.pair Kn.bool Kn.bool)))))) (Kn.pair (Kn.slice (Kn.slice (Kn.pair (Kn.int .i64) (Kn.pair (Kn.int .i64) (Kn.pair (Kn.int .i64) (Kn.pair Kn.bool Kn.bool)))))) (Kn.int .i64)))))))).app (L := L1) K0
  obtain ⟨⟨⟨a0_0, a0_1⟩, a0_2⟩, ⟨a0_3, a0_4⟩, a0_5, a0_6, a0_7, a0_8, a0_9, a0_10⟩ := m0
  obtain ⟨_, _, rfl, ⟨_, _, rfl, ⟨_, _, rfl, rfl, rfl⟩, ⟨u0_2, rfl, s0_2⟩⟩, ⟨_, _, rfl, ⟨_, _, rfl, ⟨u0_3, rfl, s0_3⟩, ⟨u0_4, rfl, s0_4⟩⟩, ⟨_, _, rfl, ⟨u0_5, rfl, s0_5⟩, ⟨_, _, rfl, ⟨u0_6, rfl, s0_6⟩, ⟨_, _, rfl, ⟨u0_7, rfl, s0_7⟩, ⟨_, _, rfl, ⟨u0_8, rfl, s0_8⟩, ⟨_, _, rfl, ⟨u0_9, rfl, s0_9⟩, rfl⟩⟩⟩⟩⟩⟩⟩ := K0
  obtain ⟨a1_0, a1_1⟩ := m1
  obtain ⟨_, _, rfl, ⟨u1_0, rfl, s1_0⟩, ⟨u1_1, rfl, s1_1⟩⟩ := K1
  clear hA0 hval0 hsz0
  have hc := fun F => V.law_FnExactReplaceClasses (frz := F) s0_2 s0_3 s0_4 s0_5 s0_6 s0_7 s0_8 s0_9 s1_0 s1_1 w0 w1
  obtain ⟨_, snd⟩ := vcall_sound V.drawn 7 _ _ _ _ (hc _) (Nat.le_refl _)
  refine (snd _ W _ W [_, _] A1 (LRel.cons' V0 (LRel.cons' V1 LRel.nil'))).mono fun e W' hE => ?_
  obtain ⟨c, ι', rfl, hv, _, R⟩ := hE
  cases hv
  have bel := R.below
  exact ⟨_, rfl, _, _, _, [], _, [], hW', trodAll_mk1 (shut_bool Try.underlying4 _), (trodAll_cons_mk (Below.trod laidOut (by kernel_rfl) (of_decide_eq_true (by kernel_rfl)) k0 bel lt0) (trodAll_cons_mk (Below.trod laidOut (by kernel_rfl) (of_decide_eq_true (by kernel_rfl)) k1 bel lt1) trodAll_mk0)), rfl, bel.frame _, fun h => by cases h⟩
theorem over : Rows.fnExactReplaceClassesRow.holds Try.pinned (OpenSpec.ofChange Rows.fnExactReplaceClassesSpec) :=
  OpenClaim.holds_of_wide 7 Try.f7 rfl rfl rfl rfl rfl rfl rfl ⟨rfl, rfl, rfl, rfl, rfl⟩ rfl rfl rfl rfl rfl (by kernel_rfl) Try.func7 (by kernel_rfl)
    (of_decide_eq_true (by kernel_rfl)) (by unfold Func.isWrapper; first | (rw [if_pos (by decide +kernel)]; kernel_rfl) | (rw [if_neg (by decide +kernel)]; exact ⟨rfl, rfl⟩))
    (fun os started H enc _ => lifted os started H enc)
theorem proved : Rows.FnExactReplaceClassesSaid := over
end Go.Proofs.Ytcigpclbhfkgaaa.fnExactReplaceClasses
namespace Go.Proofs.Ytcigpclbhfkgaaa
theorem fnExactReplaceClasses_holds : Rows.FnExactReplaceClassesSaid := fnExactReplaceClasses.proved
#print axioms fnExactReplaceClasses_holds
end Go.Proofs.Ytcigpclbhfkgaaa
