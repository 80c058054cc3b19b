/- The law FnExactRunActs of the laws' package holds for every input: the call returns true and leaves its arguments as they were. No condition. -/
import Derived.Test.YtlhaeingdonaeaaGreatRows
import Derived.Test.YtlhaeingdonaeaaGreatKM0
import Derived.Test.YtlhaeingdonaeaaGreatKM1
import Derived.Test.YtlhaeingdonaeaaGreatKFnExactRunActs0
import Derived.Test.YtlhaeingdonaeaaGreatKFnExactRunActs1
import Derived.Test.YtlhaeingdonaeaaGreatKFnExactRunActs2
import Derived.Test.YtlhaeingdonaeaaGreatKFnExactRunActs3
import Derived.Test.YtlhaeingdonaeaaGreatKFnExactRunActs4
import Derived.WalkKit
import Derived.ProofKit
import Derived.OpenShut
import Derived.ShutString
import Derived.ChangeOld
import Derived.Below
import Derived.SizedLaws
namespace Go.Proofs.YtlhaeingdonaeaaGreat.fnExactRunActs
open Go.ChangeShapes Go.WideShapes Go.ChangeAt Go.RowKit Go.VM
open Go.ChangeMaps (open_string shut_string)
set_option linter.all false
theorem own : ownKnob Tryz.prog.godebug = none := by kernel_rfl
theorem laidOut : laidOutB Tryz.prog = true := by kernel_rfl
theorem o3 : VM.Opens Tryz.prog 3 (Kn.int .i64) (fun x => (Lit.int .i64 x).wf = true) := opens_int Tryz.underlying3 (by kernel_rfl)
theorem o23 : VM.Opens Tryz.prog 23 (Kn.pair (Kn.int .i64) (Kn.int .i64)) (fun x => ((Lit.int .i64 x.1).wf = true) ∧ ((Lit.int .i64 x.2).wf = true)) := opens_struct Tryz.underlying23 (by kernel_rfl) (opens_cons rfl o3 rfl (opens_one rfl o3)) (fun _ h => h)
theorem o24 : VM.Opens Tryz.prog 24 (Kn.slice (Kn.int .i64)) (fun x => x.length ≤ maxLen ∧ ∀ x25 ∈ x, (Lit.int .i64 x25).wf = true) := opens_slice Tryz.underlying24 (by kernel_rfl) (by decide) o3
theorem o26 : VM.Opens Tryz.prog 26 (Kn.pair (Kn.pair (Kn.int .i64) (Kn.int .i64)) (Kn.slice (Kn.int .i64))) (fun x => (((Lit.int .i64 x.1.1).wf = true) ∧ ((Lit.int .i64 x.1.2).wf = true)) ∧ (x.2.length ≤ maxLen ∧ ∀ x24 ∈ x.2, (Lit.int .i64 x24).wf = true)) := opens_struct Tryz.underlying26 (by kernel_rfl) (opens_cons rfl o23 rfl (opens_one rfl o24)) (fun _ h => h)
theorem o28 : VM.Opens Tryz.prog 28 (Kn.slice (Kn.int .i64)) (fun x => (x.length ≤ maxLen ∧ ∀ x28 ∈ x, (Lit.int .i64 x28).wf = true)) := opens_struct Tryz.underlying28 (by kernel_rfl) (opens_one rfl o24) (fun _ h => h)
theorem o30 : VM.Opens Tryz.prog 30 (Kn.pair (Kn.slice (Kn.int .i64)) (Kn.slice (Kn.int .i64))) (fun x => ((x.1.length ≤ maxLen ∧ ∀ x26 ∈ x.1, (Lit.int .i64 x26).wf = true)) ∧ ((x.2.length ≤ maxLen ∧ ∀ x27 ∈ x.2, (Lit.int .i64 x27).wf = true))) := opens_struct Tryz.underlying30 (by kernel_rfl) (opens_cons rfl o28 rfl (opens_one rfl o28)) (fun _ h => h)
theorem o4 : VM.Opens Tryz.prog 4 Kn.bool (fun x => True) := opens_bool Tryz.underlying4 (by kernel_rfl)
theorem o197 : VM.Opens Tryz.prog 197 (Kn.pair (Kn.int .i64) (Kn.pair (Kn.int .i64) (Kn.pair (Kn.int .i64) (Kn.pair Kn.bool Kn.bool)))) (fun x => ((Lit.int .i64 x.1).wf = true) ∧ ((Lit.int .i64 x.2.1).wf = true) ∧ ((Lit.int .i64 x.2.2.1).wf = true) ∧ (True) ∧ (True)) := opens_struct Tryz.underlying197 (by kernel_rfl) (opens_cons rfl o3 rfl (opens_cons rfl o3 rfl (opens_cons rfl o3 rfl (opens_cons rfl o4 rfl (opens_one rfl o4))))) (fun _ h => h)
theorem o139 : VM.Opens Tryz.prog 139 (Kn.slice (Kn.pair (Kn.int .i64) (Kn.pair (Kn.int .i64) (Kn.pair (Kn.int .i64) (Kn.pair Kn.bool Kn.bool))))) (fun x => x.length ≤ maxLen ∧ ∀ x31 ∈ x, ((Lit.int .i64 x31.1).wf = true) ∧ ((Lit.int .i64 x31.2.1).wf = true) ∧ ((Lit.int .i64 x31.2.2.1).wf = true) ∧ (True) ∧ (True)) := opens_slice Tryz.underlying139 (by kernel_rfl) (by decide) o197
theorem o31 : VM.Opens Tryz.prog 31 (Kn.slice (Kn.slice (Kn.pair (Kn.int .i64) (Kn.pair (Kn.int .i64) (Kn.pair (Kn.int .i64) (Kn.pair Kn.bool Kn.bool)))))) (fun x => x.length ≤ maxLen ∧ ∀ x29 ∈ x, x29.length ≤ maxLen ∧ ∀ x30 ∈ x29, ((Lit.int .i64 x30.1).wf = true) ∧ ((Lit.int .i64 x30.2.1).wf = true) ∧ ((Lit.int .i64 x30.2.2.1).wf = true) ∧ (True) ∧ (True)) := opens_slice Tryz.underlying31 (by kernel_rfl) (by decide) o139
theorem o33 : VM.Opens Tryz.prog 33 (Kn.pair (Kn.pair (Kn.pair (Kn.int .i64) (Kn.int .i64)) (Kn.slice (Kn.int .i64))) (Kn.pair (Kn.pair (Kn.slice (Kn.int .i64)) (Kn.slice (Kn.int .i64))) (Kn.pair (Kn.slice (Kn.slice (Kn.pair (Kn.int .i64) (Kn.pair (Kn.int .i64) (Kn.pair (Kn.int .i64) (Kn.pair Kn.bool Kn.bool)))))) (Kn.pair (Kn.slice (Kn.int .i64)) (Kn.pair (Kn.slice (Kn.int .i64)) (Kn.pair (Kn.slice (Kn.slice (Kn.pair (Kn.int .i64) (Kn.pair (Kn.int .i64) (Kn.pair (Kn.int .i64) (Kn.pair Kn.bool Kn.bool)))))) (Kn.pair (Kn.slice (Kn.slice (Kn.pair (Kn.int .i64) (Kn.pair (Kn.int .i64) (Kn.pair (Kn.int .i64) (Kn.pair Kn.bool Kn.bool)))))) (Kn.int .i64)))))))) (fun x => ((((Lit.int .i64 x.1.1.1).wf = true) ∧ ((Lit.int .i64 x.1.1.2).wf = true)) ∧ (x.1.2.length ≤ maxLen ∧ ∀ x13 ∈ x.1.2, (Lit.int .i64 x13).wf = true)) ∧ (((x.2.1.1.length ≤ maxLen ∧ ∀ x14 ∈ x.2.1.1, (Lit.int .i64 x14).wf = true)) ∧ ((x.2.1.2.length ≤ maxLen ∧ ∀ x15 ∈ x.2.1.2, (Lit.int .i64 x15).wf = true))) ∧ (x.2.2.1.length ≤ maxLen ∧ ∀ x16 ∈ x.2.2.1, x16.length ≤ maxLen ∧ ∀ x17 ∈ x16, ((Lit.int .i64 x17.1).wf = true) ∧ ((Lit.int .i64 x17.2.1).wf = true) ∧ ((Lit.int .i64 x17.2.2.1).wf = true) ∧ (True) ∧ (True)) ∧ (x.2.2.2.1.length ≤ maxLen ∧ ∀ x18 ∈ x.2.2.2.1, (Lit.int .i64 x18).wf = true) ∧ (x.2.2.2.2.1.length ≤ maxLen ∧ ∀ x19 ∈ x.2.2.2.2.1, (Lit.int .i64 x19).wf = true) ∧ (x.2.2.2.2.2.1.length ≤ maxLen ∧ ∀ x20 ∈ x.2.2.2.2.2.1, x20.length ≤ maxLen ∧ ∀ x21 ∈ x20, ((Lit.int .i64 x21.1).wf = true) ∧ ((Lit.int .i64 x21.2.1).wf = true) ∧ ((Lit.int .i64 x21.2.2.1).wf = true) ∧ (True) ∧ (True)) ∧ (x.2.2.2.2.2.2.1.length ≤ maxLen ∧ ∀ x22 ∈ x.2.2.2.2.2.2.1, x22.length ≤ maxLen ∧ ∀ x23 ∈ x22, ((Lit.int .i64 x23.1).wf = true) ∧ ((Lit.int .i64 x23.2.1).wf = true) ∧ ((Lit.int .i64 x23.2.2.1).wf = true) ∧ (True) ∧ (True)) ∧ ((Lit.int .i64 x.2.2.2.2.2.2.2).wf = true)) := opens_struct Tryz.underlying33 (by kernel_rfl) (opens_cons rfl o26 rfl (opens_cons rfl o30 rfl (opens_cons rfl o31 rfl (opens_cons rfl o24 rfl (opens_cons rfl o24 rfl (opens_cons rfl o31 rfl (opens_cons rfl o31 rfl (opens_one rfl o3)))))))) (fun _ h => h)
theorem o120 : VM.Opens Tryz.prog 120 (Kn.pair (Kn.int .i64) (Kn.pair (Kn.int .i64) (Kn.pair (Kn.int .i64) (Kn.pair (Kn.int .i64) (Kn.int .i64))))) (fun x => ((Lit.int .i64 x.1).wf = true) ∧ ((Lit.int .i64 x.2.1).wf = true) ∧ ((Lit.int .i64 x.2.2.1).wf = true) ∧ ((Lit.int .i64 x.2.2.2.1).wf = true) ∧ ((Lit.int .i64 x.2.2.2.2).wf = true)) := opens_struct Tryz.underlying120 (by kernel_rfl) (opens_cons rfl o3 rfl (opens_cons rfl o3 rfl (opens_cons rfl o3 rfl (opens_cons rfl o3 rfl (opens_one rfl o3))))) (fun _ h => h)
theorem o34 : VM.Opens Tryz.prog 34 (Kn.slice (Kn.pair (Kn.int .i64) (Kn.pair (Kn.int .i64) (Kn.pair (Kn.int .i64) (Kn.pair (Kn.int .i64) (Kn.int .i64)))))) (fun x => x.length ≤ maxLen ∧ ∀ x32 ∈ x, ((Lit.int .i64 x32.1).wf = true) ∧ ((Lit.int .i64 x32.2.1).wf = true) ∧ ((Lit.int .i64 x32.2.2.1).wf = true) ∧ ((Lit.int .i64 x32.2.2.2.1).wf = true) ∧ ((Lit.int .i64 x32.2.2.2.2).wf = true)) := opens_slice Tryz.underlying34 (by kernel_rfl) (by decide) o120
theorem o36 : VM.Opens Tryz.prog 36 (Kn.pair (Kn.pair (Kn.pair (Kn.pair (Kn.int .i64) (Kn.int .i64)) (Kn.slice (Kn.int .i64))) (Kn.pair (Kn.pair (Kn.slice (Kn.int .i64)) (Kn.slice (Kn.int .i64))) (Kn.pair (Kn.slice (Kn.slice (Kn.pair (Kn.int .i64) (Kn.pair (Kn.int .i64) (Kn.pair (Kn.int .i64) (Kn.pair Kn.bool Kn.bool)))))) (Kn.pair (Kn.slice (Kn.int .i64)) (Kn.pair (Kn.slice (Kn.int .i64)) (Kn.pair (Kn.slice (Kn.slice (Kn.pair (Kn.int .i64) (Kn.pair (Kn.int .i64) (Kn.pair (Kn.int .i64) (Kn.pair Kn.bool Kn.bool)))))) (Kn.pair (Kn.slice (Kn.slice (Kn.pair (Kn.int .i64) (Kn.pair (Kn.int .i64) (Kn.pair (Kn.int .i64) (Kn.pair Kn.bool Kn.bool)))))) (Kn.int .i64)))))))) (Kn.slice (Kn.pair (Kn.int .i64) (Kn.pair (Kn.int .i64) (Kn.pair (Kn.int .i64) (Kn.pair (Kn.int .i64) (Kn.int .i64))))))) (fun x => (((((Lit.int .i64 x.1.1.1.1).wf = true) ∧ ((Lit.int .i64 x.1.1.1.2).wf = true)) ∧ (x.1.1.2.length ≤ maxLen ∧ ∀ x1 ∈ x.1.1.2, (Lit.int .i64 x1).wf = true)) ∧ (((x.1.2.1.1.length ≤ maxLen ∧ ∀ x2 ∈ x.1.2.1.1, (Lit.int .i64 x2).wf = true)) ∧ ((x.1.2.1.2.length ≤ maxLen ∧ ∀ x3 ∈ x.1.2.1.2, (Lit.int .i64 x3).wf = true))) ∧ (x.1.2.2.1.length ≤ maxLen ∧ ∀ x4 ∈ x.1.2.2.1, x4.length ≤ maxLen ∧ ∀ x5 ∈ x4, ((Lit.int .i64 x5.1).wf = true) ∧ ((Lit.int .i64 x5.2.1).wf = true) ∧ ((Lit.int .i64 x5.2.2.1).wf = true) ∧ (True) ∧ (True)) ∧ (x.1.2.2.2.1.length ≤ maxLen ∧ ∀ x6 ∈ x.1.2.2.2.1, (Lit.int .i64 x6).wf = true) ∧ (x.1.2.2.2.2.1.length ≤ maxLen ∧ ∀ x7 ∈ x.1.2.2.2.2.1, (Lit.int .i64 x7).wf = true) ∧ (x.1.2.2.2.2.2.1.length ≤ maxLen ∧ ∀ x8 ∈ x.1.2.2.2.2.2.1, x8.length ≤ maxLen ∧ ∀ x9 ∈ x8, ((Lit.int .i64 x9.1).wf = true) ∧ ((Lit.int .i64 x9.2.1).wf = true) ∧ ((Lit.int .i64 x9.2.2.1).wf = true) ∧ (True) ∧ (True)) ∧ (x.1.2.2.2.2.2.2.1.length ≤ maxLen ∧ ∀ x10 ∈ x.1.2.2.2.2.2.2.1, x10.length ≤ maxLen ∧ ∀ x11 ∈ x10, ((Lit.int .i64 x11.1).wf = true) ∧ ((Lit.int .i64 x11.2.1).wf = true) ∧ ((Lit.int .i64 x11.2.2.1).wf = true) ∧ (True) ∧ (True)) ∧ ((Lit.int .i64 x.1.2.2.2.2.2.2.2).wf = true)) ∧ (x.2.length ≤ maxLen ∧ ∀ x12 ∈ x.2, ((Lit.int .i64 x12.1).wf = true) ∧ ((Lit.int .i64 x12.2.1).wf = true) ∧ ((Lit.int .i64 x12.2.2.1).wf = true) ∧ ((Lit.int .i64 x12.2.2.2.1).wf = true) ∧ ((Lit.int .i64 x12.2.2.2.2).wf = true))) := opens_struct Tryz.underlying36 (by kernel_rfl) (opens_cons rfl o33 rfl (opens_one rfl o34)) (fun _ h => h)
theorem o83 : VM.Opens Tryz.prog 83 (Kn.pair (Kn.int .i64) (Kn.pair (Kn.int .i64) (Kn.pair (Kn.int .i64) (Kn.pair (Kn.int .i64) (Kn.int .i64))))) (fun x => ((Lit.int .i64 x.1).wf = true) ∧ ((Lit.int .i64 x.2.1).wf = true) ∧ ((Lit.int .i64 x.2.2.1).wf = true) ∧ ((Lit.int .i64 x.2.2.2.1).wf = true) ∧ ((Lit.int .i64 x.2.2.2.2).wf = true)) := opens_struct Tryz.underlying83 (by kernel_rfl) (opens_cons rfl o3 rfl (opens_cons rfl o3 rfl (opens_cons rfl o3 rfl (opens_cons rfl o3 rfl (opens_one rfl o3))))) (fun _ h => h)
theorem o37 : VM.Opens Tryz.prog 37 (Kn.slice (Kn.pair (Kn.int .i64) (Kn.pair (Kn.int .i64) (Kn.pair (Kn.int .i64) (Kn.pair (Kn.int .i64) (Kn.int .i64)))))) (fun x => x.length ≤ maxLen ∧ ∀ x33 ∈ x, ((Lit.int .i64 x33.1).wf = true) ∧ ((Lit.int .i64 x33.2.1).wf = true) ∧ ((Lit.int .i64 x33.2.2.1).wf = true) ∧ ((Lit.int .i64 x33.2.2.2.1).wf = true) ∧ ((Lit.int .i64 x33.2.2.2.2).wf = true)) := opens_slice Tryz.underlying37 (by kernel_rfl) (by decide) o83
set_option maxRecDepth 100000 in
theorem lifted (os : Os) (started : os.Started) (H : Type) (enc : TypeId × Value → H) :
    ReturnsInHanded {} Tryz.checked os 3 .any (Rows.fnExactRunActsSpec.pre6 enc Tryz.prog Tryz.f3 Rows.fnExactRunActsRow.domain false) (Rows.fnExactRunActsSpec.post enc Tryz.prog Tryz.f3 false true false false) := by
  refine returnsInHanded_of_change_sized (C := Tryz.checked) own started (by kernel_rfl) Tryz.func3
    (ChangeSpec.witness6 (enc := enc) (C := Tryz.checked) false ⟨#[], #[.agg #[.int .i64 0, .int .i64 0, .slice none 0 0, .slice none 0 0, .slice none 0 0, .slice none 0 0, .slice none 0 0, .slice none 0 0, .slice none 0 0, .slice none 0 0, .int .i64 0, .slice none 0 0], .slice none 0 0], []⟩ 8 (by kernel_rfl) (by kernel_rfl) (by kernel_rfl) (by kernel_rfl)) ?_
  intro W base args ds gs before hval0 hW hcnd hsz0 _
  have hval : ∀ (j : Nat) t v, Tryz.f3.params[j]? = some t → args[j]? = some v → Value.okWide Tryz.prog W .any base t v := hval0
  have hW' := hW
  obtain ⟨p, q, hA0, hV, rfl, hfz, hnd⟩ := hW
  have hA : DataW.TrodAll enc Tryz.prog W 0 (fun _ => true) true Tryz.f3.params.toList args.toList ds p := hA0
  rw [Tryz.params3] at hA hval
  obtain ⟨v0, vs0, d0, ds0, p0, q0, hargs, rfl, rfl, h0, r0⟩ := trodAll_cons hA
  obtain ⟨v1, vs1, d1, ds1, p1, q1, rfl, rfl, rfl, h1, r1⟩ := trodAll_cons r0
  obtain ⟨rfl, rfl, rfl⟩ := trodAll_nil r1
  obtain rfl : args = #[v0, v1] := by cases args; simp_all
  obtain ⟨rfl, rfl⟩ := trodVars_none hV
  have k0 := h0
  have lt0 : ∀ x ∈ p0, x.block < W.heap.size := by obtain ⟨m, hm⟩ := k0; exact DataW.trod_lt m _ _ _ hm
  obtain ⟨m0, L0, ι0, c0, A0, E0, V0, K0, w0⟩ := VM.open_arg o36 Tryz.underlying36 (hval 0 36 v0 rfl rfl) h0 (Args.nil (P := Tryz.prog) (W := W))
  have k1 := h1
  have lt1 : ∀ x ∈ p1, x.block < W.heap.size := by obtain ⟨m, hm⟩ := k1; exact DataW.trod_lt m _ _ _ hm
  obtain ⟨m1, L1, ι1, c1, A1, E1, V1, K1, w1⟩ := open_sl o37 Tryz.underlying37 (hval 1 37 v1 rfl rfl) h1 A0
  replace V0 := V0.mono E1
  replace K0 := (Kn.pair (Kn.pair (Kn.pair (Kn.pair (Kn.int .i64) (Kn.int .i64)) (Kn.slice (Kn.int .i64))) (Kn.pair (Kn.pair (Kn.slice (Kn.int .i64)) (Kn.slice (Kn.int .i64))) (Kn.pair (Kn.slice (Kn.slice (Kn.pair (Kn.int .i64) (Kn.pair (Kn.int .i64) (Kn.pair (Kn.int .i64) (Kn.pair Kn.bool Kn.bool)))))) (Kn.pair (Kn.slice (Kn.int .i64)) (Kn.pair (Kn.slice (Kn.int .i64)) (Kn.pair (Kn.slice (Kn.slice (Kn.pair (Kn.int .i64) (Kn.pair (Kn.int .i64) (Kn.pair (Kn.int .i64) (Kn.pair Kn.bool Kn.bool)))))) (Kn.pair (Kn.slice (Kn.slice (Kn.pair (Kn.int .i64) (Kn.pair (Kn.int .i64) (Kn.pair (Kn.int .i64) (Kn.pair Kn.bool Kn.bool)))))) (Kn.int .i64)))))))) (Kn.slice (Kn.pair (Kn.int .i64) (Kn.pair (Kn.int .i64) (Kn.pair (Kn.int .i64) (Kn.pair (Kn.int .i64) (Kn.int .i64))))))).app (L := L1) K0
  obtain ⟨⟨⟨⟨a0_0, a0_1⟩, a0_2⟩, ⟨a0_3, a0_4⟩, a0_5, a0_6, a0_7, a0_8, a0_9, a0_10⟩, a0_11⟩ := m0
  obtain ⟨_, _, rfl, ⟨_, _, rfl, ⟨_, _, rfl, ⟨_, _, rfl, rfl, rfl⟩, ⟨u0_2, rfl, s0_2⟩⟩, ⟨_, _, rfl, ⟨_, _, rfl, ⟨u0_3, rfl, s0_3⟩, ⟨u0_4, rfl, s0_4⟩⟩, ⟨_, _, rfl, ⟨u0_5, rfl, s0_5⟩, ⟨_, _, rfl, ⟨u0_6, rfl, s0_6⟩, ⟨_, _, rfl, ⟨u0_7, rfl, s0_7⟩, ⟨_, _, rfl, ⟨u0_8, rfl, s0_8⟩, ⟨_, _, rfl, ⟨u0_9, rfl, s0_9⟩, rfl⟩⟩⟩⟩⟩⟩⟩, ⟨u0_11, rfl, s0_11⟩⟩ := K0
  clear hA0 hval0 hsz0
  have hc := fun F => V.law_FnExactRunActs (frz := F) s0_2 s0_3 s0_4 s0_5 s0_6 s0_7 s0_8 s0_9 s0_11 K1 w0 w1
  obtain ⟨_, snd⟩ := vcall_sound V.drawn 3 _ _ _ _ (hc _) (Nat.le_refl _)
  refine (snd _ W _ W [_, _] A1 (LRel.cons' V0 (LRel.cons' V1 LRel.nil'))).mono fun e W' hE => ?_
  obtain ⟨c, ι', rfl, hv, _, R⟩ := hE
  cases hv
  have bel := R.below
  exact ⟨_, rfl, _, _, _, [], _, [], hW', trodAll_mk1 (shut_bool Tryz.underlying4 _), (trodAll_cons_mk (Below.trod laidOut (by kernel_rfl) (of_decide_eq_true (by kernel_rfl)) k0 bel lt0) (trodAll_cons_mk (Below.trod laidOut (by kernel_rfl) (of_decide_eq_true (by kernel_rfl)) k1 bel lt1) trodAll_mk0)), rfl, bel.frame _, fun h => by cases h⟩
theorem over : Rows.fnExactRunActsRow.holds Tryz.pinned (OpenSpec.ofChange Rows.fnExactRunActsSpec) :=
  OpenClaim.holds_of_wide 3 Tryz.f3 rfl rfl rfl rfl rfl rfl rfl ⟨rfl, rfl, rfl, rfl, rfl⟩ rfl rfl rfl rfl rfl (by kernel_rfl) Tryz.func3 (by kernel_rfl)
    (of_decide_eq_true (by kernel_rfl)) (by unfold Func.isWrapper; first | (rw [if_pos (by decide +kernel)]; kernel_rfl) | (rw [if_neg (by decide +kernel)]; exact ⟨rfl, rfl⟩))
    (fun os started H enc _ => lifted os started H enc)
theorem proved : Rows.FnExactRunActsSaid := over
end Go.Proofs.YtlhaeingdonaeaaGreat.fnExactRunActs
namespace Go.Proofs.YtlhaeingdonaeaaGreat
theorem fnExactRunActs_holds : Rows.FnExactRunActsSaid := fnExactRunActs.proved
#print axioms fnExactRunActs_holds
end Go.Proofs.YtlhaeingdonaeaaGreat
