/- Texts of a proof, joined. -/
import Derived.Test.YtcigpclbhfkgaaaGreatKM0
import Derived.Test.YtcigpclbhfkgaaaGreatKM1
import Derived.Test.YtcigpclbhfkgaaaGreatKFnExactBreakChannel0
import Derived.Test.YtcigpclbhfkgaaaGreatKFnExactBreakChannel1
import Derived.Test.YtcigpclbhfkgaaaGreatKFnExactBreakChannel2
/-! BreakChannel. -/
set_option linter.all false
namespace Go.Proofs.YtcigpclbhfkgaaaGreat.V
open Go Go.VM Go.Proofs
set_option maxRecDepth 10000
variable {frz : Nat} {H : Heap}
def brkOk (x : NetD) (c : Int) : Prop := idleOk x ∧ breakOk x.1.1 x.1.2.1 x.1.2.2 c ∧ repairOk x.1.1 x.1.2.1 (withBroken x.1.1 x.1.2.1 x.1.2.2 c) = true
noncomputable instance (x : NetD) (c : Int) : Decidable (brkOk x c) := inferInstanceAs (Decidable (_ ∧ _))
noncomputable def brk (x : NetD) (c : Int) : NetD := if brkOk x c then fresh x (x.1.1, x.1.2.1, withBroken x.1.1 x.1.2.1 x.1.2.2 c) (repair x.1.1 x.1.2.1 (withBroken x.1.1 x.1.2.1 x.1.2.2 c)) else x
theorem breakCh_d {v : NetV} {x : NetD} {c : Int} (o : dNet.Ow H v x) :
   wp (vcall C frz 19 [dNet.val v x, .int .i64 c] H) (Made2 dNet H (brk x c) (decide (brkOk x c))) := by
  have ones := dNet_one o
  have oo := fun (K : Heap) (ch : Chg H K []) => Dt.chg (T := dNet) o ch (by simp)
  have ii := fun F K (ch : Chg H K []) => isIdle_d (frz := F) (H := K) (v := v) (x := x) (oo K ch)
  have ecopy := fun K (ch : Chg H K []) => copyNet_d (frz := H.length) (H := K) (v := v) (x := x) (oo K ch)
  simp only [dNet_val] at ii ecopy ⊢
  rw [vcall_go (fn := Tryz.f19) Tryz.func19 rfl (by kernel_rfl) rfl]
  have key : ∀ (y : NetD) (n : NetV) (K K0 : Heap) (ok : Bool), dNet.Ow K n y → Chg H K0 [] → Chg K0 K [] → H.length + 1 < K0.length → K0[H.length + 1]? = some ⟨[.int .i64 0, .int .i64 0, .slice none 0 0, .slice none 0 0, .slice none 0 0, .slice none 0 0, .slice none 0 0, .slice none 0 0, .slice none 0 0, .slice none 0 0, .int .i64 0], 0, 46⟩ → (∀ i ∈ dNet.ids n, K0.length ≤ i) → (dNet.ids n).Nodup → brk x c = y → decide (brkOk x c) = ok →
      K[H.length + 1]? = some ⟨[.int .i64 0, .int .i64 0, .slice none 0 0, .slice none 0 0, .slice none 0 0, .slice none 0 0, .slice none 0 0, .slice none 0 0, .slice none 0 0, .slice none 0 0, .int .i64 0], 0, 46⟩ ∧ Made2 dNet H (brk x c) (decide (brkOk x c)) (.tuple #[dNet.val n y, .bool ok]) (K.set (H.length + 1) ⟨[.int .i64 y.1.1, .int .i64 y.1.2.1, n.1, n.2.1.1, n.2.1.2, n.2.2.1.1, n.2.2.2.1, n.2.2.2.2.1, n.2.2.2.2.2.1.1, n.2.2.2.2.2.2.1.1, .int .i64 y.2.2.2.2.2.2.2], 0, 46⟩) := by
    intro y n K K0 ok on c0 ck hlt hz mn dn e1 e2
    have bR : K[H.length + 1]? = some ⟨[.int .i64 0, .int .i64 0, .slice none 0 0, .slice none 0 0, .slice none 0 0, .slice none 0 0, .slice none 0 0, .slice none 0 0, .slice none 0 0, .slice none 0 0, .int .i64 0], 0, 46⟩ := box_chg hz ck (by simp)
    refine ⟨bR, dNet.val n y, by rw [e2], n, by rw [e1], ?_, ?_, fun i hi => by have := mn i hi; omega, dn⟩
    · rw [e1]; exact Dt.chg (T := dNet) on (chg_set _ _) (fun i hi hh => by have := mn i hi; simp at hh; omega)
    · exact (c0.trans ck).trans' (chg_set _ _) (fun i hi => .inr (by simp at hi; omega))
  have fail : ¬ brkOk x c → brk x c = x ∧ decide (brkOk x c) = false := fun hh => ⟨if_neg hh, decide_eq_false hh⟩
  have bad : ∀ (K0 : Heap), Chg H K0 [] → H.length + 1 < K0.length → K0[H.length + 1]? = some ⟨[.int .i64 0, .int .i64 0, .slice none 0 0, .slice none 0 0, .slice none 0 0, .slice none 0 0, .slice none 0 0, .slice none 0 0, .slice none 0 0, .slice none 0 0, .int .i64 0], 0, 46⟩ → ¬ brkOk x c → ∀ r K, dNet.Made K0 x r K → ∃ n, r = netVal n x ∧ dNet.Ow K n x ∧ K[H.length + 1]? = some ⟨[.int .i64 0, .int .i64 0, .slice none 0 0, .slice none 0 0, .slice none 0 0, .slice none 0 0, .slice none 0 0, .slice none 0 0, .slice none 0 0, .slice none 0 0, .int .i64 0], 0, 46⟩ ∧ Made2 dNet H (brk x c) (decide (brkOk x c)) (.tuple #[dNet.val n x, .bool false]) (K.set (H.length + 1) ⟨[.int .i64 x.1.1, .int .i64 x.1.2.1, n.1, n.2.1.1, n.2.1.2, n.2.2.1.1, n.2.2.2.1, n.2.2.2.2.1, n.2.2.2.2.2.1.1, n.2.2.2.2.2.2.1.1, .int .i64 x.2.2.2.2.2.2.2], 0, 46⟩) := by
    intro K0 c0 hlt hz hb r K hm
    obtain ⟨n, rfl, on, cn, mn, dn⟩ := hm
    obtain ⟨f1, f2⟩ := fail hb
    obtain ⟨k1, k2⟩ := key x n K K0 false on c0 cn hlt hz mn dn f1 f2
    exact ⟨n, rfl, on, k1, k2⟩
  obtain ⟨G, hG⟩ : ∃ G, G = H ++ [⟨[.int .i64 x.1.1, .int .i64 x.1.2.1, v.1, v.2.1.1, v.2.1.2, v.2.2.1.1, v.2.2.2.1, v.2.2.2.2.1, v.2.2.2.2.2.1.1, v.2.2.2.2.2.2.1.1, .int .i64 x.2.2.2.2.2.2.2], 0, 46⟩, ⟨[.int .i64 0, .int .i64 0, .slice none 0 0, .slice none 0 0, .slice none 0 0, .slice none 0 0, .slice none 0 0, .slice none 0 0, .slice none 0 0, .slice none 0 0, .int .i64 0], 0, 46⟩] := ⟨_, rfl⟩
  have cG : Chg H G [] := by rw [hG]; exact Chg.app _
  have b0 : G[H.length]? = some ⟨[.int .i64 x.1.1, .int .i64 x.1.2.1, v.1, v.2.1.1, v.2.1.2, v.2.2.1.1, v.2.2.2.1, v.2.2.2.2.1, v.2.2.2.2.2.1.1, v.2.2.2.2.2.2.1.1, .int .i64 x.2.2.2.2.2.2.2], 0, 46⟩ := by rw [hG]; simp
  have b1 : G[H.length + 1]? = some ⟨[.int .i64 0, .int .i64 0, .slice none 0 0, .slice none 0 0, .slice none 0 0, .slice none 0 0, .slice none 0 0, .slice none 0 0, .slice none 0 0, .slice none 0 0, .int .i64 0], 0, 46⟩ := by rw [hG]; simp
  have hlG : G.length = H.length + 2 := by rw [hG]; simp
  simp [ones]
  rw [← hG]
  clear hG
  refine wp_thn (withBroken_d (c := c) (oo G cG).1) ?_
  rintro _ K1 ⟨_, rfl, vm, rfl, om, cm, mm, dm⟩
  have c1 : Chg H K1 [] := cG.trans cm
  have b01 := box_chg b0 cm (by simp)
  have b11 := box_chg b1 cm (by simp)
  have hl1 := cm.1
  have onem := dMesh_one om
  obtain ⟨B, hB⟩ : ∃ B, B = withBroken x.1.1 x.1.2.1 x.1.2.2 c := ⟨_, rfl⟩
  rw [← hB] at om
  have hl1' : H.length ≤ K1.length := c1.1
  simp [dMesh_val, onem, VM.look, hl1']
  obtain ⟨K1', hK1⟩ : ∃ K, K = K1 ++ [⟨[.int .i64 x.1.1, .int .i64 x.1.2.1, vm], 0, 40⟩] := ⟨_, rfl⟩
  have c1' : Chg K1 K1' [] := by rw [hK1]; exact Chg.app _
  have bm : K1'[K1.length]? = some ⟨[.int .i64 x.1.1, .int .i64 x.1.2.1, vm], 0, 40⟩ := by rw [hK1]; simp
  have om1 := Dt.chg (T := dMesh) om c1' (by simp)
  rw [← hK1]
  have hrp := repair_d (frz := H.length) om1
  refine wp_thn hrp ?_
  rintro _ K2 ⟨_, rfl, vc, rfl, oc, cc, mc, dc⟩
  have onec := dClasses_one oc
  have hl2 : H.length ≤ K2.length := Nat.le_trans hl1' (Nat.le_trans c1'.1 cc.1)
  simp [dClasses_val, onec, VM.look, hl2]
  obtain ⟨K3, hK3⟩ : ∃ K, K = K2 ++ [⟨[vc.1, vc.2], 0, 43⟩] := ⟨_, rfl⟩
  have c3' : Chg K2 K3 [] := by rw [hK3]; exact Chg.app _
  have bc : K3[K2.length]? = some ⟨[vc.1, vc.2], 0, 43⟩ := by rw [hK3]; simp
  rw [← hK3]
  have c13 : Chg K1' K3 [] := cc.trans c3'
  have cG3 : Chg G K3 [] := (cm.trans c1').trans c13
  have c3 : Chg H K3 [] := cG.trans cG3
  have b03 := box_chg b0 cG3 (by simp)
  have b13 := box_chg b1 cG3 (by simp)
  have bm3 := box_chg bm c13 (by simp)
  have om3 := Dt.chg (T := dMesh) om1 c13 (by simp)
  have oc3 := Dt.chg (T := dClasses) oc c3' (by simp)
  have hl3 : H.length + 1 < K3.length := box_lt b13
  have ii' := fun F => ii F K3 c3
  simp [VM.look, b03, ones, ii']
  have ffail : ¬ brkOk x c → wp (vcall C H.length 55 [netVal v x] K3) (fun r K => ∃ n, r = netVal n x ∧ dNet.Ow K n x ∧ K[H.length + 1]? = some ⟨[.int .i64 0, .int .i64 0, .slice none 0 0, .slice none 0 0, .slice none 0 0, .slice none 0 0, .slice none 0 0, .slice none 0 0, .slice none 0 0, .slice none 0 0, .int .i64 0], 0, 46⟩ ∧ Made2 dNet H (brk x c) (decide (brkOk x c)) (.tuple #[dNet.val n x, .bool false]) (K.set (H.length + 1) ⟨[.int .i64 x.1.1, .int .i64 x.1.2.1, n.1, n.2.1.1, n.2.1.2, n.2.2.1.1, n.2.2.2.1, n.2.2.2.2.1, n.2.2.2.2.2.1.1, n.2.2.2.2.2.2.1.1, .int .i64 x.2.2.2.2.2.2.2], 0, 46⟩)) := fun hb => (ecopy K3 c3).mono (fun r K hm => bad K3 c3 hl3 b13 hb r K hm)
  unfold netVal at ffail
  by_cases g0 : idleOk x
  rotate_left
  · simp [g0, VM.look, b03, ones]
    refine wp_thn (ffail (fun k => g0 k.1)) ?_
    rintro r K ⟨n, rfl, on, bR, hM⟩
    have qn := dNet_one on
    have gR := set_get (r' := ⟨[.int .i64 x.1.1, .int .i64 x.1.2.1, n.1, n.2.1.1, n.2.1.2, n.2.2.1.1, n.2.2.2.1, n.2.2.2.2.1, n.2.2.2.2.2.1.1, n.2.2.2.2.2.2.1.1, .int .i64 x.2.2.2.2.2.2.2], 0, 46⟩) bR
    have hF : H.length ≤ K.length := by have := box_lt bR; omega
    simp [netVal, dNet_val, VM.look, bR, qn, gR, hF]
    exact hM
  by_cases g1 : breakOk x.1.1 x.1.2.1 x.1.2.2 c
  rotate_left
  · simp [g0, g1, VM.look, b03, ones]
    refine wp_thn (ffail (fun k => g1 k.2.1)) ?_
    rintro r K ⟨n, rfl, on, bR, hM⟩
    have qn := dNet_one on
    have gR := set_get (r' := ⟨[.int .i64 x.1.1, .int .i64 x.1.2.1, n.1, n.2.1.1, n.2.1.2, n.2.2.1.1, n.2.2.2.1, n.2.2.2.2.1, n.2.2.2.2.2.1.1, n.2.2.2.2.2.2.1.1, .int .i64 x.2.2.2.2.2.2.2], 0, 46⟩) bR
    have hF : H.length ≤ K.length := by have := box_lt bR; omega
    simp [netVal, dNet_val, VM.look, bR, qn, gR, hF]
    exact hM
  by_cases g2 : repairOk x.1.1 x.1.2.1 B = true
  rotate_left
  · simp [g0, g1, g2, VM.look, b03, ones]
    refine wp_thn (ffail (fun k => g2 (by rw [hB]; exact k.2.2))) ?_
    rintro r K ⟨n, rfl, on, bR, hM⟩
    have qn := dNet_one on
    have gR := set_get (r' := ⟨[.int .i64 x.1.1, .int .i64 x.1.2.1, n.1, n.2.1.1, n.2.1.2, n.2.2.1.1, n.2.2.2.1, n.2.2.2.2.1, n.2.2.2.2.2.1.1, n.2.2.2.2.2.2.1.1, .int .i64 x.2.2.2.2.2.2.2], 0, 46⟩) bR
    have hF : H.length ≤ K.length := by have := box_lt bR; omega
    simp [netVal, dNet_val, VM.look, bR, qn, gR, hF]
    exact hM
  simp [g0, g1, g2, VM.look, b03, ones, bm3, bc, onem, onec]
  have hok : brkOk x c := ⟨g0, g1, by rw [← hB]; exact g2⟩
  have hbr : brk x c = fresh x (x.1.1, x.1.2.1, B) (repair x.1.1 x.1.2.1 B) := by rw [hB]; exact if_pos hok
  refine wp_thn (replaced_d (frz := H.length) (oo K3 c3) om3 oc3) ?_
  rintro _ K ⟨n, rfl, on, cn, mn, dn⟩
  obtain ⟨bR, hM⟩ := key _ n K K3 true on c3 cn hl3 b13 mn dn hbr (decide_eq_true hok)
  generalize fresh x (x.1.1, x.1.2.1, B) (repair x.1.1 x.1.2.1 B) = y at *
  have qn := dNet_one on
  have gR := set_get (r' := ⟨[.int .i64 y.1.1, .int .i64 y.1.2.1, n.1, n.2.1.1, n.2.1.2, n.2.2.1.1, n.2.2.2.1, n.2.2.2.2.1, n.2.2.2.2.2.1.1, n.2.2.2.2.2.2.1.1, .int .i64 y.2.2.2.2.2.2.2], 0, 46⟩) bR
  have hF : H.length ≤ K.length := by have := box_lt bR; omega
  simp [netVal, dNet_val, VM.look, bR, qn, gR, hF]
  exact hM
theorem sBreakCh_d {v : NetV} {x : NetD} {c : Int} (o : dNet.Ow H v x) :
   wp (vcall C frz 17 [dNet.val v x, .int .i64 c] H) (Made2 dNet H (brk x c) (decide (brkOk x c))) := by
  have ones := dNet_one o
  have oo := fun (K : Heap) (ch : Chg H K []) => Dt.chg (T := dNet) o ch (by simp)
  have ii := fun F K (ch : Chg H K []) => sIsIdle_d (frz := F) (H := K) (v := v) (x := x) (oo K ch)
  have ecopy := fun K (ch : Chg H K []) => l15Copy_d (frz := H.length) (H := K) (v := v) (x := x) (oo K ch)
  simp only [dNet_val] at ii ecopy ⊢
  rw [vcall_go (fn := Tryz.f17) Tryz.func17 rfl (by kernel_rfl) rfl]
  have key : ∀ (y : NetD) (n : NetV) (K K0 : Heap) (ok : Bool), dNet.Ow K n y → Chg H K0 [] → Chg K0 K [] → H.length + 1 < K0.length → K0[H.length + 1]? = some ⟨[.int .i64 0, .int .i64 0, .slice none 0 0, .slice none 0 0, .slice none 0 0, .slice none 0 0, .slice none 0 0, .slice none 0 0, .slice none 0 0, .slice none 0 0, .int .i64 0], 0, 46⟩ → (∀ i ∈ dNet.ids n, K0.length ≤ i) → (dNet.ids n).Nodup → brk x c = y → decide (brkOk x c) = ok →
      K[H.length + 1]? = some ⟨[.int .i64 0, .int .i64 0, .slice none 0 0, .slice none 0 0, .slice none 0 0, .slice none 0 0, .slice none 0 0, .slice none 0 0, .slice none 0 0, .slice none 0 0, .int .i64 0], 0, 46⟩ ∧ Made2 dNet H (brk x c) (decide (brkOk x c)) (.tuple #[dNet.val n y, .bool ok]) (K.set (H.length + 1) ⟨[.int .i64 y.1.1, .int .i64 y.1.2.1, n.1, n.2.1.1, n.2.1.2, n.2.2.1.1, n.2.2.2.1, n.2.2.2.2.1, n.2.2.2.2.2.1.1, n.2.2.2.2.2.2.1.1, .int .i64 y.2.2.2.2.2.2.2], 0, 46⟩) := by
    intro y n K K0 ok on c0 ck hlt hz mn dn e1 e2
    have bR : K[H.length + 1]? = some ⟨[.int .i64 0, .int .i64 0, .slice none 0 0, .slice none 0 0, .slice none 0 0, .slice none 0 0, .slice none 0 0, .slice none 0 0, .slice none 0 0, .slice none 0 0, .int .i64 0], 0, 46⟩ := box_chg hz ck (by simp)
    refine ⟨bR, dNet.val n y, by rw [e2], n, by rw [e1], ?_, ?_, fun i hi => by have := mn i hi; omega, dn⟩
    · rw [e1]; exact Dt.chg (T := dNet) on (chg_set _ _) (fun i hi hh => by have := mn i hi; simp at hh; omega)
    · exact (c0.trans ck).trans' (chg_set _ _) (fun i hi => .inr (by simp at hi; omega))
  have fail : ¬ brkOk x c → brk x c = x ∧ decide (brkOk x c) = false := fun hh => ⟨if_neg hh, decide_eq_false hh⟩
  have bad : ∀ (K0 : Heap), Chg H K0 [] → H.length + 1 < K0.length → K0[H.length + 1]? = some ⟨[.int .i64 0, .int .i64 0, .slice none 0 0, .slice none 0 0, .slice none 0 0, .slice none 0 0, .slice none 0 0, .slice none 0 0, .slice none 0 0, .slice none 0 0, .int .i64 0], 0, 46⟩ → ¬ brkOk x c → ∀ r K, dNet.Made K0 x r K → ∃ n, r = netVal n x ∧ dNet.Ow K n x ∧ K[H.length + 1]? = some ⟨[.int .i64 0, .int .i64 0, .slice none 0 0, .slice none 0 0, .slice none 0 0, .slice none 0 0, .slice none 0 0, .slice none 0 0, .slice none 0 0, .slice none 0 0, .int .i64 0], 0, 46⟩ ∧ Made2 dNet H (brk x c) (decide (brkOk x c)) (.tuple #[dNet.val n x, .bool false]) (K.set (H.length + 1) ⟨[.int .i64 x.1.1, .int .i64 x.1.2.1, n.1, n.2.1.1, n.2.1.2, n.2.2.1.1, n.2.2.2.1, n.2.2.2.2.1, n.2.2.2.2.2.1.1, n.2.2.2.2.2.2.1.1, .int .i64 x.2.2.2.2.2.2.2], 0, 46⟩) := by
    intro K0 c0 hlt hz hb r K hm
    obtain ⟨n, rfl, on, cn, mn, dn⟩ := hm
    obtain ⟨f1, f2⟩ := fail hb
    obtain ⟨k1, k2⟩ := key x n K K0 false on c0 cn hlt hz mn dn f1 f2
    exact ⟨n, rfl, on, k1, k2⟩
  obtain ⟨G, hG⟩ : ∃ G, G = H ++ [⟨[.int .i64 x.1.1, .int .i64 x.1.2.1, v.1, v.2.1.1, v.2.1.2, v.2.2.1.1, v.2.2.2.1, v.2.2.2.2.1, v.2.2.2.2.2.1.1, v.2.2.2.2.2.2.1.1, .int .i64 x.2.2.2.2.2.2.2], 0, 46⟩, ⟨[.int .i64 0, .int .i64 0, .slice none 0 0, .slice none 0 0, .slice none 0 0, .slice none 0 0, .slice none 0 0, .slice none 0 0, .slice none 0 0, .slice none 0 0, .int .i64 0], 0, 46⟩] := ⟨_, rfl⟩
  have cG : Chg H G [] := by rw [hG]; exact Chg.app _
  have b0 : G[H.length]? = some ⟨[.int .i64 x.1.1, .int .i64 x.1.2.1, v.1, v.2.1.1, v.2.1.2, v.2.2.1.1, v.2.2.2.1, v.2.2.2.2.1, v.2.2.2.2.2.1.1, v.2.2.2.2.2.2.1.1, .int .i64 x.2.2.2.2.2.2.2], 0, 46⟩ := by rw [hG]; simp
  have b1 : G[H.length + 1]? = some ⟨[.int .i64 0, .int .i64 0, .slice none 0 0, .slice none 0 0, .slice none 0 0, .slice none 0 0, .slice none 0 0, .slice none 0 0, .slice none 0 0, .slice none 0 0, .int .i64 0], 0, 46⟩ := by rw [hG]; simp
  have hlG : G.length = H.length + 2 := by rw [hG]; simp
  simp [ones]
  rw [← hG]
  clear hG
  have ii' := fun F => ii F G cG
  have ffail : ∀ K3, Chg G K3 [] → ¬ brkOk x c → wp (vcall C H.length 44 [netVal v x] K3) (fun r K => ∃ n, r = netVal n x ∧ dNet.Ow K n x ∧ K[H.length + 1]? = some ⟨[.int .i64 0, .int .i64 0, .slice none 0 0, .slice none 0 0, .slice none 0 0, .slice none 0 0, .slice none 0 0, .slice none 0 0, .slice none 0 0, .slice none 0 0, .int .i64 0], 0, 46⟩ ∧ Made2 dNet H (brk x c) (decide (brkOk x c)) (.tuple #[dNet.val n x, .bool false]) (K.set (H.length + 1) ⟨[.int .i64 x.1.1, .int .i64 x.1.2.1, n.1, n.2.1.1, n.2.1.2, n.2.2.1.1, n.2.2.2.1, n.2.2.2.2.1, n.2.2.2.2.2.1.1, n.2.2.2.2.2.2.1.1, .int .i64 x.2.2.2.2.2.2.2], 0, 46⟩)) := fun K3 cG3 hb => (ecopy K3 (cG.trans cG3)).mono (fun r K hm => bad K3 (cG.trans cG3) (by have := cG3.1; omega) (box_chg b1 cG3 (by simp)) hb r K hm)
  unfold netVal at ffail
  simp [VM.look, b0, ones, ii']
  by_cases g0 : idleOk x
  rotate_left
  · simp [g0, VM.look, b0, ones]
    refine wp_thn (ffail G (Chg.refl _) (fun k => g0 k.1)) ?_
    rintro r K ⟨n, rfl, on, bR, hM⟩
    have qn := dNet_one on
    have gR := set_get (r' := ⟨[.int .i64 x.1.1, .int .i64 x.1.2.1, n.1, n.2.1.1, n.2.1.2, n.2.2.1.1, n.2.2.2.1, n.2.2.2.2.1, n.2.2.2.2.2.1.1, n.2.2.2.2.2.2.1.1, .int .i64 x.2.2.2.2.2.2.2], 0, 46⟩) bR
    have hF : H.length ≤ K.length := by have := box_lt bR; omega
    simp [netVal, dNet_val, VM.look, bR, qn, gR, hF]
    exact hM
  simp [g0, VM.look, b0, ones]
  refine wp_thn (sWithBroken_d (c := c) (oo G cG).1) ?_
  rintro _ K1 ⟨_, rfl, vm, rfl, om, cm, mm, dm⟩
  have c1 : Chg H K1 [] := cG.trans cm
  have b01 := box_chg b0 cm (by simp)
  have b11 := box_chg b1 cm (by simp)
  have hl1 := cm.1
  have onem := dMesh_one om
  obtain ⟨B, hB⟩ : ∃ B, B = withBroken x.1.1 x.1.2.1 x.1.2.2 c := ⟨_, rfl⟩
  rw [← hB] at om
  have hl1' : H.length ≤ K1.length := c1.1
  simp [dMesh_val, onem, VM.look, hl1']
  obtain ⟨K1', hK1⟩ : ∃ K, K = K1 ++ [⟨[.int .i64 x.1.1, .int .i64 x.1.2.1, vm], 0, 40⟩] := ⟨_, rfl⟩
  have c1' : Chg K1 K1' [] := by rw [hK1]; exact Chg.app _
  have bm : K1'[K1.length]? = some ⟨[.int .i64 x.1.1, .int .i64 x.1.2.1, vm], 0, 40⟩ := by rw [hK1]; simp
  have b01' := box_chg b01 c1' (by simp)
  have om1 := Dt.chg (T := dMesh) om c1' (by simp)
  rw [← hK1]
  by_cases g1 : breakOk x.1.1 x.1.2.1 x.1.2.2 c
  rotate_left
  · simp [g1, VM.look, b01', ones]
    refine wp_thn (ffail K1' (cm.trans c1') (fun k => g1 k.2.1)) ?_
    rintro r K ⟨n, rfl, on, bR, hM⟩
    have qn := dNet_one on
    have gR := set_get (r' := ⟨[.int .i64 x.1.1, .int .i64 x.1.2.1, n.1, n.2.1.1, n.2.1.2, n.2.2.1.1, n.2.2.2.1, n.2.2.2.2.1, n.2.2.2.2.2.1.1, n.2.2.2.2.2.2.1.1, .int .i64 x.2.2.2.2.2.2.2], 0, 46⟩) bR
    have hF : H.length ≤ K.length := by have := box_lt bR; omega
    simp [netVal, dNet_val, VM.look, bR, qn, gR, hF]
    exact hM
  simp [g1, VM.look, bm, onem]
  have hrp := sRepair_d (frz := H.length) om1
  refine wp_thn hrp ?_
  rintro _ K2 ⟨_, rfl, vc, rfl, oc, cc, mc, dc⟩
  have onec := dClasses_one oc
  have hl2 : H.length ≤ K2.length := Nat.le_trans hl1' (Nat.le_trans c1'.1 cc.1)
  simp [dClasses_val, onec, VM.look, hl2]
  obtain ⟨K3, hK3⟩ : ∃ K, K = K2 ++ [⟨[vc.1, vc.2], 0, 43⟩] := ⟨_, rfl⟩
  have c3' : Chg K2 K3 [] := by rw [hK3]; exact Chg.app _
  have bc : K3[K2.length]? = some ⟨[vc.1, vc.2], 0, 43⟩ := by rw [hK3]; simp
  rw [← hK3]
  have c13 : Chg K1' K3 [] := cc.trans c3'
  have cG3 : Chg G K3 [] := (cm.trans c1').trans c13
  have c3 : Chg H K3 [] := cG.trans cG3
  have b03 := box_chg b0 cG3 (by simp)
  have b13 := box_chg b1 cG3 (by simp)
  have bm3 := box_chg bm c13 (by simp)
  have om3 := Dt.chg (T := dMesh) om1 c13 (by simp)
  have oc3 := Dt.chg (T := dClasses) oc c3' (by simp)
  have hl3 : H.length + 1 < K3.length := box_lt b13
  by_cases g2 : repairOk x.1.1 x.1.2.1 B = true
  rotate_left
  · simp [g2, VM.look, b03, ones]
    refine wp_thn (ffail K3 cG3 (fun k => g2 (by rw [hB]; exact k.2.2))) ?_
    rintro r K ⟨n, rfl, on, bR, hM⟩
    have qn := dNet_one on
    have gR := set_get (r' := ⟨[.int .i64 x.1.1, .int .i64 x.1.2.1, n.1, n.2.1.1, n.2.1.2, n.2.2.1.1, n.2.2.2.1, n.2.2.2.2.1, n.2.2.2.2.2.1.1, n.2.2.2.2.2.2.1.1, .int .i64 x.2.2.2.2.2.2.2], 0, 46⟩) bR
    have hF : H.length ≤ K.length := by have := box_lt bR; omega
    simp [netVal, dNet_val, VM.look, bR, qn, gR, hF]
    exact hM
  simp [g2, VM.look, b03, ones, bm3, bc, onem, onec]
  have hok : brkOk x c := ⟨g0, g1, by rw [← hB]; exact g2⟩
  have hbr : brk x c = fresh x (x.1.1, x.1.2.1, B) (repair x.1.1 x.1.2.1 B) := by rw [hB]; exact if_pos hok
  refine wp_thn (l34Fresh_d (frz := H.length) (oo K3 c3) om3 oc3) ?_
  rintro _ K ⟨n, rfl, on, cn, mn, dn⟩
  obtain ⟨bR, hM⟩ := key _ n K K3 true on c3 cn hl3 b13 mn dn hbr (decide_eq_true hok)
  generalize fresh x (x.1.1, x.1.2.1, B) (repair x.1.1 x.1.2.1 B) = y at *
  have qn := dNet_one on
  have gR := set_get (r' := ⟨[.int .i64 y.1.1, .int .i64 y.1.2.1, n.1, n.2.1.1, n.2.1.2, n.2.2.1.1, n.2.2.2.1, n.2.2.2.2.1, n.2.2.2.2.2.1.1, n.2.2.2.2.2.2.1.1, .int .i64 y.2.2.2.2.2.2.2], 0, 46⟩) bR
  have hF : H.length ≤ K.length := by have := box_lt bR; omega
  simp [netVal, dNet_val, VM.look, bR, qn, gR, hF]
  exact hM
end Go.Proofs.YtcigpclbhfkgaaaGreat.V
/-! The law FnExactBreakChannel. -/
set_option linter.all false
namespace Go.Proofs.YtcigpclbhfkgaaaGreat.V
open Go Go.VM Go.Proofs
set_option maxRecDepth 10000
variable {frz : Nat} {H : Heap}
theorem law_FnExactBreakChannel_w {a0_0 : Int} {a0_1 : Int} {a0_2 : List (Int)} {u0_2 : Value} {a0_3 : List (Int)} {u0_3 : Value} {a0_4 : List (Int)} {u0_4 : Value} {a0_5 : List (List (Int × Int × Int × Bool × Bool))} {u0_5 : Value} {a0_6 : List (Int)} {u0_6 : Value} {a0_7 : List (Int)} {u0_7 : Value} {a0_8 : List (List (Int × Int × Int × Bool × Bool))} {u0_8 : Value} {a0_9 : List (List (Int × Int × Int × Bool × Bool))} {u0_9 : Value} {a0_10 : Int} {a1 : Int} (s0_2 : IsS (Kn.int .i64) H u0_2 a0_2) (s0_3 : IsS (Kn.int .i64) H u0_3 a0_3) (s0_4 : IsS (Kn.int .i64) H u0_4 a0_4) (s0_5 : IsS (Kn.slice (Kn.pair (Kn.int .i64) (Kn.pair (Kn.int .i64) (Kn.pair (Kn.int .i64) (Kn.pair Kn.bool Kn.bool))))) H u0_5 a0_5) (s0_6 : IsS (Kn.int .i64) H u0_6 a0_6) (s0_7 : IsS (Kn.int .i64) H u0_7 a0_7) (s0_8 : IsS (Kn.slice (Kn.pair (Kn.int .i64) (Kn.pair (Kn.int .i64) (Kn.pair (Kn.int .i64) (Kn.pair Kn.bool Kn.bool))))) H u0_8 a0_8) (s0_9 : IsS (Kn.slice (Kn.pair (Kn.int .i64) (Kn.pair (Kn.int .i64) (Kn.pair (Kn.int .i64) (Kn.pair Kn.bool Kn.bool))))) H u0_9 a0_9)
    (w0 : ((((Lit.int .i64 a0_0).wf = true) ∧ ((Lit.int .i64 a0_1).wf = true)) ∧ (a0_2.length ≤ maxLen ∧ ∀ x1 ∈ a0_2, (Lit.int .i64 x1).wf = true)) ∧ (((a0_3.length ≤ maxLen ∧ ∀ x2 ∈ a0_3, (Lit.int .i64 x2).wf = true)) ∧ ((a0_4.length ≤ maxLen ∧ ∀ x3 ∈ a0_4, (Lit.int .i64 x3).wf = true))) ∧ (a0_5.length ≤ maxLen ∧ ∀ x4 ∈ a0_5, x4.length ≤ maxLen ∧ ∀ x5 ∈ x4, ((Lit.int .i64 x5.1).wf = true) ∧ ((Lit.int .i64 x5.2.1).wf = true) ∧ ((Lit.int .i64 x5.2.2.1).wf = true) ∧ (True) ∧ (True)) ∧ (a0_6.length ≤ maxLen ∧ ∀ x6 ∈ a0_6, (Lit.int .i64 x6).wf = true) ∧ (a0_7.length ≤ maxLen ∧ ∀ x7 ∈ a0_7, (Lit.int .i64 x7).wf = true) ∧ (a0_8.length ≤ maxLen ∧ ∀ x8 ∈ a0_8, x8.length ≤ maxLen ∧ ∀ x9 ∈ x8, ((Lit.int .i64 x9.1).wf = true) ∧ ((Lit.int .i64 x9.2.1).wf = true) ∧ ((Lit.int .i64 x9.2.2.1).wf = true) ∧ (True) ∧ (True)) ∧ (a0_9.length ≤ maxLen ∧ ∀ x10 ∈ a0_9, x10.length ≤ maxLen ∧ ∀ x11 ∈ x10, ((Lit.int .i64 x11.1).wf = true) ∧ ((Lit.int .i64 x11.2.1).wf = true) ∧ ((Lit.int .i64 x11.2.2.1).wf = true) ∧ (True) ∧ (True)) ∧ ((Lit.int .i64 a0_10).wf = true)) (w1 : (Lit.int .i64 a1).wf = true) :
    wp (vcall C frz 5 [.agg #[.int .i64 a0_0, .int .i64 a0_1, u0_2, u0_3, u0_4, u0_5, u0_6, u0_7, u0_8, u0_9, .int .i64 a0_10], .int .i64 a1] H) (fun r _ => r = .bool true) := by
  have r0_2 := s0_2.ints.rd
  have r0_3 := s0_3.ints.rd
  have r0_4 := s0_4.ints.rd
  obtain ⟨h0_5, r0_5⟩ := IsS.rdL_of (fun hh => IsS.rd_of rfl knF_is hh) s0_5
  have r0_6 := s0_6.ints.rd
  have r0_7 := s0_7.ints.rd
  obtain ⟨h0_8, r0_8⟩ := IsS.rdL_of (fun hh => IsS.rd_of rfl knF_is hh) s0_8
  obtain ⟨h0_9, r0_9⟩ := IsS.rdL_of (fun hh => IsS.rd_of rfl knF_is hh) s0_9
  have rl0_2 := fun (L : Heap) => (Rd.app (L := L) r0_2).len (P := Tryz.prog) (ty := 24) (by simp)
  have rm0_2 := r0_2.len (P := Tryz.prog) (ty := 24) (by simp)
  have rl0_3 := fun (L : Heap) => (Rd.app (L := L) r0_3).len (P := Tryz.prog) (ty := 24) (by simp)
  have rm0_3 := r0_3.len (P := Tryz.prog) (ty := 24) (by simp)
  have rl0_4 := fun (L : Heap) => (Rd.app (L := L) r0_4).len (P := Tryz.prog) (ty := 24) (by simp)
  have rm0_4 := r0_4.len (P := Tryz.prog) (ty := 24) (by simp)
  have rl0_6 := fun (L : Heap) => (Rd.app (L := L) r0_6).len (P := Tryz.prog) (ty := 24) (by simp)
  have rm0_6 := r0_6.len (P := Tryz.prog) (ty := 24) (by simp)
  have rl0_7 := fun (L : Heap) => (Rd.app (L := L) r0_7).len (P := Tryz.prog) (ty := 24) (by simp)
  have rm0_7 := r0_7.len (P := Tryz.prog) (ty := 24) (by simp)
  rw [vcall_go (fn := Tryz.f5) Tryz.func5 rfl (by kernel_rfl) rfl]
  have ro0_2 := And.intro r0_2.one' r0_2.cells
  have ro0_3 := And.intro r0_3.one' r0_3.cells
  have ro0_4 := And.intro r0_4.one' r0_4.cells
  have ro0_5 := And.intro r0_5.1.one' r0_5.1.cells
  have ro0_6 := And.intro r0_6.one' r0_6.cells
  have ro0_7 := And.intro r0_7.one' r0_7.cells
  have ro0_8 := And.intro r0_8.1.one' r0_8.1.cells
  have ro0_9 := And.intro r0_9.1.one' r0_9.1.cells
  simp [VM.look, ro0_2, rl0_2, rm0_2, ro0_3, rl0_3, rm0_3, ro0_4, rl0_4, rm0_4, ro0_5, ro0_6, rl0_6, rm0_6, ro0_7, rl0_7, rm0_7, ro0_8, ro0_9]
  have sz0 := fun F (L : Heap) => szNet_c (frz := F) (H := H ++ L) a0_0 a0_1 a0_10 1048576 u0_2 u0_3 u0_4 u0_5 u0_6 u0_7 u0_8 u0_9 h0_5 h0_8 h0_9 a0_2 a0_3 a0_4 a0_6 a0_7 a0_5 a0_8 a0_9 (IsI.rd (Rd.isI (Rd.chg r0_2 ((Chg.refl (H := H) []).trans (Chg.app [])) (by simp)))) (IsI.rd (Rd.isI (Rd.chg r0_3 ((Chg.refl (H := H) []).trans (Chg.app [])) (by simp)))) (IsI.rd (Rd.isI (Rd.chg r0_4 ((Chg.refl (H := H) []).trans (Chg.app [])) (by simp)))) (RdL.chg r0_5 ((Chg.refl (H := H) []).trans (Chg.app [])) (by simp)) (IsI.rd (Rd.isI (Rd.chg r0_6 ((Chg.refl (H := H) []).trans (Chg.app [])) (by simp)))) (IsI.rd (Rd.isI (Rd.chg r0_7 ((Chg.refl (H := H) []).trans (Chg.app [])) (by simp)))) (RdL.chg r0_8 ((Chg.refl (H := H) []).trans (Chg.app [])) (by simp)) (RdL.chg r0_9 ((Chg.refl (H := H) []).trans (Chg.app [])) (by simp)) (by have := w0.1.2.1; simpa [maxLen] using this) (by have := w0.2.1.1.1; simpa [maxLen] using this) (by have := w0.2.1.2.1; simpa [maxLen] using this) (by have := w0.2.2.1.1; simpa [maxLen] using this) (fun x hx => by have := (w0.2.2.1.2 x hx).1; simpa [maxLen] using this) (by have := w0.2.2.2.1.1; simpa [maxLen] using this) (by have := w0.2.2.2.2.1.1; simpa [maxLen] using this) (by have := w0.2.2.2.2.2.1.1; simpa [maxLen] using this) (fun x hx => by have := (w0.2.2.2.2.2.1.2 x hx).1; simpa [maxLen] using this) (by have := w0.2.2.2.2.2.2.1.1; simpa [maxLen] using this) (fun x hx => by have := (w0.2.2.2.2.2.2.1.2 x hx).1; simpa [maxLen] using this) (by omega) (by omega)
  simp [VM.look, ro0_2, rl0_2, rm0_2, ro0_3, rl0_3, rm0_3, ro0_4, rl0_4, rm0_4, ro0_5, ro0_6, rl0_6, rm0_6, ro0_7, rl0_7, rm0_7, ro0_8, ro0_9, sz0]
  refine wp_dec ?_ ?_ <;> intro g1 <;> simp [g1]
  have t0 : (a0_2.length : Int) + ((a0_3.length : Int) + (a0_4.length : Int)) + (tot a0_5 : Int) + (a0_6.length : Int) + (a0_7.length : Int) + (tot a0_8 : Int) + (tot a0_9 : Int) ≤ 1048576 := by split at g1 <;> omega
  have f0 : ¬ (1048576 : Int) < (a0_2.length : Int) + ((a0_3.length : Int) + (a0_4.length : Int)) + (tot a0_5 : Int) + (a0_6.length : Int) + (a0_7.length : Int) + (tot a0_8 : Int) + (tot a0_9 : Int) := by omega
  simp only [if_neg f0]
  try simp [VM.look, ro0_2, rl0_2, rm0_2, ro0_3, rl0_3, rm0_3, ro0_4, rl0_4, rm0_4, ro0_5, ro0_6, rl0_6, rm0_6, ro0_7, rl0_7, rm0_7, ro0_8, ro0_9, f0]
  refine wp_thn (toNet_w a0_0 a0_1 a0_10 u0_2 u0_3 u0_4 u0_5 u0_6 u0_7 u0_8 u0_9 h0_5 h0_8 h0_9 a0_2 a0_3 a0_4 a0_6 a0_7 a0_5 a0_8 a0_9 (IsI.rd (Rd.isI (Rd.chg r0_2 ((Chg.refl (H := H) []).trans (Chg.app [])) (by simp)))) (IsI.rd (Rd.isI (Rd.chg r0_3 ((Chg.refl (H := H) []).trans (Chg.app [])) (by simp)))) (IsI.rd (Rd.isI (Rd.chg r0_4 ((Chg.refl (H := H) []).trans (Chg.app [])) (by simp)))) (RdL.chg r0_5 ((Chg.refl (H := H) []).trans (Chg.app [])) (by simp)) (IsI.rd (Rd.isI (Rd.chg r0_6 ((Chg.refl (H := H) []).trans (Chg.app [])) (by simp)))) (IsI.rd (Rd.isI (Rd.chg r0_7 ((Chg.refl (H := H) []).trans (Chg.app [])) (by simp)))) (RdL.chg r0_8 ((Chg.refl (H := H) []).trans (Chg.app [])) (by simp)) (RdL.chg r0_9 ((Chg.refl (H := H) []).trans (Chg.app [])) (by simp)) (by omega) (by omega) (by omega) (by have := tot_len a0_5; omega) (fun x hx => by have := tot_in a0_5 x hx; omega) (by omega) (by omega) (by have := tot_len a0_8; omega) (fun x hx => by have := tot_in a0_8 x hx; omega) (by have := tot_len a0_9; omega) (fun x hx => by have := tot_in a0_9 x hx; omega)) ?_
  rintro _ H1 ⟨v_x0, rfl, o_x0, c1, n_x0, d_x0⟩
  have l1 := c1.1
  try simp at l1
  have b1_2 := box_chg ((app_get0 _ _).trans rfl) c1 (by simp)
  have cH1 : Chg H H1 [] := ((Chg.refl (H := H) []).trans (Chg.app [])).trans c1
  have h_x0 := dNet.lt o_x0
  try simp at n_x0
  have one_x0 := dNet_one o_x0
  simp [VM.look, b1_2, get_app' b1_2, cH1.1, Nat.le_add_right_of_le cH1.1, one_x0, ro0_2, ro0_3, ro0_4, ro0_5, ro0_6, ro0_7, ro0_8, ro0_9, dNet_val, f0]
  have ex2 := sBreakCh_d (frz := H.length) (c := a1) o_x0
  try simp only [dNet_val] at ex2
  refine wp_thn ex2 ?_
  rintro _ H2 ⟨_, rfl, v_w1, rfl, o_w1, c2, n_w1, d_w1⟩
  clear ex2
  have l2 := c2.1
  try simp at l2
  have b2_2 := box_chg b1_2 c2 (by simp)
  have o2_x0 := Dt.chg0 o_x0 c2
  have cH2 : Chg H H2 [] := (cH1).trans c2
  have h_w1 := dNet.lt o_w1
  try simp at n_w1
  have one_w1 := dNet_one o_w1
  simp [VM.look, b2_2, get_app' b2_2, cH2.1, Nat.le_add_right_of_le cH2.1, one_x0, one_w1, ro0_2, ro0_3, ro0_4, ro0_5, ro0_6, ro0_7, ro0_8, ro0_9, dNet_val, f0]
  refine wp_thn (toNet_w a0_0 a0_1 a0_10 u0_2 u0_3 u0_4 u0_5 u0_6 u0_7 u0_8 u0_9 h0_5 h0_8 h0_9 a0_2 a0_3 a0_4 a0_6 a0_7 a0_5 a0_8 a0_9 (IsI.rd (Rd.isI (Rd.chg r0_2 (cH2.trans (Chg.app [])) (by simp)))) (IsI.rd (Rd.isI (Rd.chg r0_3 (cH2.trans (Chg.app [])) (by simp)))) (IsI.rd (Rd.isI (Rd.chg r0_4 (cH2.trans (Chg.app [])) (by simp)))) (RdL.chg r0_5 (cH2.trans (Chg.app [])) (by simp)) (IsI.rd (Rd.isI (Rd.chg r0_6 (cH2.trans (Chg.app [])) (by simp)))) (IsI.rd (Rd.isI (Rd.chg r0_7 (cH2.trans (Chg.app [])) (by simp)))) (RdL.chg r0_8 (cH2.trans (Chg.app [])) (by simp)) (RdL.chg r0_9 (cH2.trans (Chg.app [])) (by simp)) (by omega) (by omega) (by omega) (by have := tot_len a0_5; omega) (fun x hx => by have := tot_in a0_5 x hx; omega) (by omega) (by omega) (by have := tot_len a0_8; omega) (fun x hx => by have := tot_in a0_8 x hx; omega) (by have := tot_len a0_9; omega) (fun x hx => by have := tot_in a0_9 x hx; omega)) ?_
  rintro _ H3 ⟨v_x2, rfl, o_x2, c3, n_x2, d_x2⟩
  have l3 := c3.1
  try simp at l3
  have b3_6 := box_chg ((app_get0 _ _).trans rfl) c3 (by simp)
  have b3_2 := box_chg (get_app' b2_2 _) c3 (by simp)
  have o3_x0 := Dt.chg0 (Dt.app o2_x0) c3
  have o3_w1 := Dt.chg0 (Dt.app o_w1) c3
  have cH3 : Chg H H3 [] := (cH2.trans (Chg.app [])).trans c3
  have h_x2 := dNet.lt o_x2
  try simp at n_x2
  have one_x2 := dNet_one o_x2
  simp [VM.look, b3_2, b3_6, get_app' b3_2, get_app' b3_6, cH3.1, Nat.le_add_right_of_le cH3.1, one_x0, one_w1, one_x2, ro0_2, ro0_3, ro0_4, ro0_5, ro0_6, ro0_7, ro0_8, ro0_9, dNet_val, f0]
  have ex4 := fun (L : Heap) => breakCh_d (frz := H.length) (H := H3 ++ L) (c := a1) (Dt.app o_x2)
  try simp only [dNet_val] at ex4
  refine wp_thn (ex4 _) ?_
  rintro _ H4 ⟨_, rfl, v_g3, rfl, o_g3, c4, n_g3, d_g3⟩
  clear ex4
  have l4 := c4.1
  try simp at l4
  have b4_8 := box_chg ((app_get0 _ _).trans rfl) c4 (by simp)
  have b4_2 := box_chg (get_app' b3_2 _) c4 (by simp)
  have b4_6 := box_chg (get_app' b3_6 _) c4 (by simp)
  have o4_x0 := Dt.chg0 (Dt.app o3_x0) c4
  have o4_w1 := Dt.chg0 (Dt.app o3_w1) c4
  have o4_x2 := Dt.chg0 (Dt.app o_x2) c4
  have cH4 : Chg H H4 [] := (cH3.trans (Chg.app [])).trans c4
  have h_g3 := dNet.lt o_g3
  try simp at n_g3
  have one_g3 := dNet_one o_g3
  simp [VM.look, b4_2, b4_6, b4_8, get_app' b4_2, get_app' b4_6, get_app' b4_8, cH4.1, Nat.le_add_right_of_le cH4.1, one_x0, one_w1, one_x2, one_g3, ro0_2, ro0_3, ro0_4, ro0_5, ro0_6, ro0_7, ro0_8, ro0_9, dNet_val, f0]
  have eq5 := fun F (L : Heap) => eqNet_d (frz := F) (H := H4 ++ L) (Dt.app o_g3) (Dt.app o4_w1)
  try simp only [dNet_val] at eq5
  simp [eq5, VM.look, b4_2, b4_6, b4_8, get_app' b4_2, get_app' b4_6, get_app' b4_8, cH4.1, Nat.le_add_right_of_le cH4.1, one_x0, one_w1, one_x2, one_g3, ro0_2, ro0_3, ro0_4, ro0_5, ro0_6, ro0_7, ro0_8, ro0_9, dNet_val, f0]
  rw [go_draw (h := by kernel_rfl)]
  simp [VM.look, b4_2, b4_6, b4_8, get_app' b4_2, get_app' b4_6, get_app' b4_8, cH4.1, Nat.le_add_right_of_le cH4.1, one_x0, one_w1, one_x2, one_g3, ro0_2, ro0_3, ro0_4, ro0_5, ro0_6, ro0_7, ro0_8, ro0_9, dNet_val, f0]
  refine wp_thn (toNet_w a0_0 a0_1 a0_10 u0_2 u0_3 u0_4 u0_5 u0_6 u0_7 u0_8 u0_9 h0_5 h0_8 h0_9 a0_2 a0_3 a0_4 a0_6 a0_7 a0_5 a0_8 a0_9 (IsI.rd (Rd.isI (Rd.chg r0_2 (cH4.trans (Chg.app [])) (by simp)))) (IsI.rd (Rd.isI (Rd.chg r0_3 (cH4.trans (Chg.app [])) (by simp)))) (IsI.rd (Rd.isI (Rd.chg r0_4 (cH4.trans (Chg.app [])) (by simp)))) (RdL.chg r0_5 (cH4.trans (Chg.app [])) (by simp)) (IsI.rd (Rd.isI (Rd.chg r0_6 (cH4.trans (Chg.app [])) (by simp)))) (IsI.rd (Rd.isI (Rd.chg r0_7 (cH4.trans (Chg.app [])) (by simp)))) (RdL.chg r0_8 (cH4.trans (Chg.app [])) (by simp)) (RdL.chg r0_9 (cH4.trans (Chg.app [])) (by simp)) (by omega) (by omega) (by omega) (by have := tot_len a0_5; omega) (fun x hx => by have := tot_in a0_5 x hx; omega) (by omega) (by omega) (by have := tot_len a0_8; omega) (fun x hx => by have := tot_in a0_8 x hx; omega) (by have := tot_len a0_9; omega) (fun x hx => by have := tot_in a0_9 x hx; omega)) ?_
  rintro _ H6 ⟨v_x4, rfl, o_x4, c6, n_x4, d_x4⟩
  have l6 := c6.1
  try simp at l6
  have b6_9 := box_chg ((app_get0 _ _).trans rfl) c6 (by simp)
  have b6_2 := box_chg (get_app' b4_2 _) c6 (by simp)
  have b6_6 := box_chg (get_app' b4_6 _) c6 (by simp)
  have b6_8 := box_chg (get_app' b4_8 _) c6 (by simp)
  have o6_x0 := Dt.chg0 (Dt.app o4_x0) c6
  have o6_w1 := Dt.chg0 (Dt.app o4_w1) c6
  have o6_x2 := Dt.chg0 (Dt.app o4_x2) c6
  have o6_g3 := Dt.chg0 (Dt.app o_g3) c6
  have cH6 : Chg H H6 [] := (cH4.trans (Chg.app [])).trans c6
  have h_x4 := dNet.lt o_x4
  try simp at n_x4
  have one_x4 := dNet_one o_x4
  simp [VM.look, b6_2, b6_6, b6_8, b6_9, get_app' b6_2, get_app' b6_6, get_app' b6_8, get_app' b6_9, cH6.1, Nat.le_add_right_of_le cH6.1, one_x0, one_w1, one_x2, one_g3, one_x4, ro0_2, ro0_3, ro0_4, ro0_5, ro0_6, ro0_7, ro0_8, ro0_9, dNet_val, f0]
  have eq7 := fun F => eqNet_d (frz := F) o6_x2 o_x4
  try simp only [dNet_val] at eq7
  simp [eq7, VM.look, b6_2, b6_6, b6_8, b6_9, get_app' b6_2, get_app' b6_6, get_app' b6_8, get_app' b6_9, cH6.1, Nat.le_add_right_of_le cH6.1, one_x0, one_w1, one_x2, one_g3, one_x4, ro0_2, ro0_3, ro0_4, ro0_5, ro0_6, ro0_7, ro0_8, ro0_9, dNet_val, f0]
  have mk8 := markNet_d (frz := H.length) (k := 1) o6_x2 d_x2 (by omega) (fun i hi => by have := n_x2 i hi; have := cH6.1; omega)
  try simp only [dNet_val] at mk8
  refine wp_thn mk8 ?_
  rintro _ H8 ⟨m8, a_x2, rfl, hm8, hv8, o8_x2, c8, he8⟩
  clear mk8
  have l8 := c8.1
  try simp at l8
  have b8_2 := box_chg b6_2 c8 (fun hh => by have := n_x2 _ hh; have := h_x2 _ hh; omega)
  have b8_6 := box_chg b6_6 c8 (fun hh => by have := n_x2 _ hh; have := h_x2 _ hh; omega)
  have b8_8 := box_chg b6_8 c8 (fun hh => by have := n_x2 _ hh; have := h_x2 _ hh; omega)
  have b8_9 := box_chg b6_9 c8 (fun hh => by have := n_x2 _ hh; have := h_x2 _ hh; omega)
  have o8_x0 := Dt.chg o6_x0 c8 (fun i hi hh => by have := n_x0 i hi; have := h_x0 i hi; have := n_x2 i hh; have := h_x2 i hh; omega)
  have o8_w1 := Dt.chg o6_w1 c8 (fun i hi hh => by have := n_w1 i hi; have := h_w1 i hi; have := n_x2 i hh; have := h_x2 i hh; omega)
  have o8_g3 := Dt.chg o6_g3 c8 (fun i hi hh => by have := n_g3 i hi; have := h_g3 i hi; have := n_x2 i hh; have := h_x2 i hh; omega)
  have o8_x4 := Dt.chg o_x4 c8 (fun i hi hh => by have := n_x4 i hi; have := h_x4 i hi; have := n_x2 i hh; have := h_x2 i hh; omega)
  have cH8 : Chg H H8 [] := (cH6).trans' c8 (fun i hi => .inr (by have := n_x2 i hi; have := cH6.1; omega))
  try simp only [hv8, dNet_val] at he8
  have fl8 : ¬ (1 + m8 < 0) := by omega
  simp [VM.look, b8_2, b8_6, b8_8, b8_9, get_app' b8_2, get_app' b8_6, get_app' b8_8, get_app' b8_9, cH8.1, Nat.le_add_right_of_le cH8.1, one_x0, one_w1, one_x2, one_g3, one_x4, ro0_2, ro0_3, ro0_4, ro0_5, ro0_6, ro0_7, ro0_8, ro0_9, dNet_val, f0, fl8]
  have eq9 := fun F => eqNet_d (frz := F) o8_g3 o8_w1
  try simp only [dNet_val] at eq9
  simp [eq9, VM.look, b8_2, b8_6, b8_8, b8_9, get_app' b8_2, get_app' b8_6, get_app' b8_8, get_app' b8_9, cH8.1, Nat.le_add_right_of_le cH8.1, one_x0, one_w1, one_x2, one_g3, one_x4, ro0_2, ro0_3, ro0_4, ro0_5, ro0_6, ro0_7, ro0_8, ro0_9, dNet_val, f0, fl8]
  have mk10 := markNet_d (frz := H.length) (k := 1) o8_g3 d_g3 (by omega) (fun i hi => by have := n_g3 i hi; have := cH8.1; omega)
  try simp only [dNet_val] at mk10
  refine wp_thn mk10 ?_
  rintro _ H10 ⟨m10, a_g3, rfl, hm10, hv10, o10_g3, c10, he10⟩
  clear mk10
  have l10 := c10.1
  try simp at l10
  have b10_2 := box_chg b8_2 c10 (fun hh => by have := n_g3 _ hh; have := h_g3 _ hh; omega)
  have b10_6 := box_chg b8_6 c10 (fun hh => by have := n_g3 _ hh; have := h_g3 _ hh; omega)
  have b10_8 := box_chg b8_8 c10 (fun hh => by have := n_g3 _ hh; have := h_g3 _ hh; omega)
  have b10_9 := box_chg b8_9 c10 (fun hh => by have := n_g3 _ hh; have := h_g3 _ hh; omega)
  have o10_x0 := Dt.chg o8_x0 c10 (fun i hi hh => by have := n_x0 i hi; have := h_x0 i hi; have := n_g3 i hh; have := h_g3 i hh; omega)
  have o10_w1 := Dt.chg o8_w1 c10 (fun i hi hh => by have := n_w1 i hi; have := h_w1 i hi; have := n_g3 i hh; have := h_g3 i hh; omega)
  have o10_x2 := Dt.chg o8_x2 c10 (fun i hi hh => by have := n_x2 i hi; have := h_x2 i hi; have := n_g3 i hh; have := h_g3 i hh; omega)
  have o10_x4 := Dt.chg o8_x4 c10 (fun i hi hh => by have := n_x4 i hi; have := h_x4 i hi; have := n_g3 i hh; have := h_g3 i hh; omega)
  have cH10 : Chg H H10 [] := (cH8).trans' c10 (fun i hi => .inr (by have := n_g3 i hi; have := cH8.1; omega))
  try simp only [hv10, dNet_val] at he10
  have fl10 : ¬ (1 + m10 < 0) := by omega
  simp [VM.look, b10_2, b10_6, b10_8, b10_9, get_app' b10_2, get_app' b10_6, get_app' b10_8, get_app' b10_9, cH10.1, Nat.le_add_right_of_le cH10.1, one_x0, one_w1, one_x2, one_g3, one_x4, ro0_2, ro0_3, ro0_4, ro0_5, ro0_6, ro0_7, ro0_8, ro0_9, dNet_val, f0, fl8, fl10]
  have hd11 := fun F => he10 F _ o10_g3
  simp [hd11, VM.look, b10_2, b10_6, b10_8, b10_9, get_app' b10_2, get_app' b10_6, get_app' b10_8, get_app' b10_9, cH10.1, Nat.le_add_right_of_le cH10.1, one_x0, one_w1, one_x2, one_g3, one_x4, ro0_2, ro0_3, ro0_4, ro0_5, ro0_6, ro0_7, ro0_8, ro0_9, dNet_val, f0, fl8, fl10]
  refine wp_thn (toNet_w a0_0 a0_1 a0_10 u0_2 u0_3 u0_4 u0_5 u0_6 u0_7 u0_8 u0_9 h0_5 h0_8 h0_9 a0_2 a0_3 a0_4 a0_6 a0_7 a0_5 a0_8 a0_9 (IsI.rd (Rd.isI (Rd.chg r0_2 cH10 (by simp)))) (IsI.rd (Rd.isI (Rd.chg r0_3 cH10 (by simp)))) (IsI.rd (Rd.isI (Rd.chg r0_4 cH10 (by simp)))) (RdL.chg r0_5 cH10 (by simp)) (IsI.rd (Rd.isI (Rd.chg r0_6 cH10 (by simp)))) (IsI.rd (Rd.isI (Rd.chg r0_7 cH10 (by simp)))) (RdL.chg r0_8 cH10 (by simp)) (RdL.chg r0_9 cH10 (by simp)) (by omega) (by omega) (by omega) (by have := tot_len a0_5; omega) (fun x hx => by have := tot_in a0_5 x hx; omega) (by omega) (by omega) (by have := tot_len a0_8; omega) (fun x hx => by have := tot_in a0_8 x hx; omega) (by have := tot_len a0_9; omega) (fun x hx => by have := tot_in a0_9 x hx; omega)) ?_
  rintro _ H12 ⟨v_x5, rfl, o_x5, c12, n_x5, d_x5⟩
  have l12 := c12.1
  try simp at l12
  have b12_2 := box_chg b10_2 c12 (by simp)
  have b12_6 := box_chg b10_6 c12 (by simp)
  have b12_8 := box_chg b10_8 c12 (by simp)
  have b12_9 := box_chg b10_9 c12 (by simp)
  have o12_x0 := Dt.chg0 o10_x0 c12
  have o12_w1 := Dt.chg0 o10_w1 c12
  have o12_x2 := Dt.chg0 o10_x2 c12
  have o12_g3 := Dt.chg0 o10_g3 c12
  have o12_x4 := Dt.chg0 o10_x4 c12
  have cH12 : Chg H H12 [] := (cH10).trans c12
  have h_x5 := dNet.lt o_x5
  try simp at n_x5
  have one_x5 := dNet_one o_x5
  simp [VM.look, b12_2, b12_6, b12_8, b12_9, get_app' b12_2, get_app' b12_6, get_app' b12_8, get_app' b12_9, cH12.1, Nat.le_add_right_of_le cH12.1, one_x0, one_w1, one_x2, one_g3, one_x4, one_x5, ro0_2, ro0_3, ro0_4, ro0_5, ro0_6, ro0_7, ro0_8, ro0_9, dNet_val, f0, fl8, fl10]
  have ex13 := breakCh_d (frz := H.length) (c := a1) o_x5
  try simp only [dNet_val] at ex13
  refine wp_thn ex13 ?_
  rintro _ H13 ⟨_, rfl, v_g6, rfl, o_g6, c13, n_g6, d_g6⟩
  clear ex13
  have l13 := c13.1
  try simp at l13
  have b13_2 := box_chg b12_2 c13 (by simp)
  have b13_6 := box_chg b12_6 c13 (by simp)
  have b13_8 := box_chg b12_8 c13 (by simp)
  have b13_9 := box_chg b12_9 c13 (by simp)
  have o13_x0 := Dt.chg0 o12_x0 c13
  have o13_w1 := Dt.chg0 o12_w1 c13
  have o13_x2 := Dt.chg0 o12_x2 c13
  have o13_g3 := Dt.chg0 o12_g3 c13
  have o13_x4 := Dt.chg0 o12_x4 c13
  have o13_x5 := Dt.chg0 o_x5 c13
  have cH13 : Chg H H13 [] := (cH12).trans c13
  have h_g6 := dNet.lt o_g6
  try simp at n_g6
  have one_g6 := dNet_one o_g6
  simp [VM.look, b13_2, b13_6, b13_8, b13_9, get_app' b13_2, get_app' b13_6, get_app' b13_8, get_app' b13_9, cH13.1, Nat.le_add_right_of_le cH13.1, one_x0, one_w1, one_x2, one_g3, one_x4, one_x5, one_g6, ro0_2, ro0_3, ro0_4, ro0_5, ro0_6, ro0_7, ro0_8, ro0_9, dNet_val, f0, fl8, fl10]
  have eq14 := fun F (L : Heap) => eqNet_d (frz := F) (H := H13 ++ L) (Dt.app o_g6) (Dt.app o13_w1)
  try simp only [dNet_val] at eq14
  simp [eq14, VM.look, b13_2, b13_6, b13_8, b13_9, get_app' b13_2, get_app' b13_6, get_app' b13_8, get_app' b13_9, cH13.1, Nat.le_add_right_of_le cH13.1, one_x0, one_w1, one_x2, one_g3, one_x4, one_x5, one_g6, ro0_2, ro0_3, ro0_4, ro0_5, ro0_6, ro0_7, ro0_8, ro0_9, dNet_val, f0, fl8, fl10]
  have hd15 := fun F (L : Heap) => he10 F (H13 ++ L) (Dt.app o13_g3)
  simp [hd15, VM.look, b13_2, b13_6, b13_8, b13_9, get_app' b13_2, get_app' b13_6, get_app' b13_8, get_app' b13_9, cH13.1, Nat.le_add_right_of_le cH13.1, one_x0, one_w1, one_x2, one_g3, one_x4, one_x5, one_g6, ro0_2, ro0_3, ro0_4, ro0_5, ro0_6, ro0_7, ro0_8, ro0_9, dNet_val, f0, fl8, fl10]
theorem law_FnExactBreakChannel {a0_0 : Int} {a0_1 : Int} {a0_2 : List (Int)} {u0_2 : Value} {a0_3 : List (Int)} {u0_3 : Value} {a0_4 : List (Int)} {u0_4 : Value} {a0_5 : List (List (Int × Int × Int × Bool × Bool))} {u0_5 : Value} {a0_6 : List (Int)} {u0_6 : Value} {a0_7 : List (Int)} {u0_7 : Value} {a0_8 : List (List (Int × Int × Int × Bool × Bool))} {u0_8 : Value} {a0_9 : List (List (Int × Int × Int × Bool × Bool))} {u0_9 : Value} {a0_10 : Int} {a1 : Int} (s0_2 : IsS (Kn.int .i64) H u0_2 a0_2) (s0_3 : IsS (Kn.int .i64) H u0_3 a0_3) (s0_4 : IsS (Kn.int .i64) H u0_4 a0_4) (s0_5 : IsS (Kn.slice (Kn.pair (Kn.int .i64) (Kn.pair (Kn.int .i64) (Kn.pair (Kn.int .i64) (Kn.pair Kn.bool Kn.bool))))) H u0_5 a0_5) (s0_6 : IsS (Kn.int .i64) H u0_6 a0_6) (s0_7 : IsS (Kn.int .i64) H u0_7 a0_7) (s0_8 : IsS (Kn.slice (Kn.pair (Kn.int .i64) (Kn.pair (Kn.int .i64) (Kn.pair (Kn.int .i64) (Kn.pair Kn.bool Kn.bool))))) H u0_8 a0_8) (s0_9 : IsS (Kn.slice (Kn.pair (Kn.int .i64) (Kn.pair (Kn.int .i64) (Kn.pair (Kn.int .i64) (Kn.pair Kn.bool Kn.bool))))) H u0_9 a0_9)
    (w0 : ((((Lit.int .i64 a0_0).wf = true) ∧ ((Lit.int .i64 a0_1).wf = true)) ∧ (a0_2.length ≤ maxLen ∧ ∀ x1 ∈ a0_2, (Lit.int .i64 x1).wf = true)) ∧ (((a0_3.length ≤ maxLen ∧ ∀ x2 ∈ a0_3, (Lit.int .i64 x2).wf = true)) ∧ ((a0_4.length ≤ maxLen ∧ ∀ x3 ∈ a0_4, (Lit.int .i64 x3).wf = true))) ∧ (a0_5.length ≤ maxLen ∧ ∀ x4 ∈ a0_5, x4.length ≤ maxLen ∧ ∀ x5 ∈ x4, ((Lit.int .i64 x5.1).wf = true) ∧ ((Lit.int .i64 x5.2.1).wf = true) ∧ ((Lit.int .i64 x5.2.2.1).wf = true) ∧ (True) ∧ (True)) ∧ (a0_6.length ≤ maxLen ∧ ∀ x6 ∈ a0_6, (Lit.int .i64 x6).wf = true) ∧ (a0_7.length ≤ maxLen ∧ ∀ x7 ∈ a0_7, (Lit.int .i64 x7).wf = true) ∧ (a0_8.length ≤ maxLen ∧ ∀ x8 ∈ a0_8, x8.length ≤ maxLen ∧ ∀ x9 ∈ x8, ((Lit.int .i64 x9.1).wf = true) ∧ ((Lit.int .i64 x9.2.1).wf = true) ∧ ((Lit.int .i64 x9.2.2.1).wf = true) ∧ (True) ∧ (True)) ∧ (a0_9.length ≤ maxLen ∧ ∀ x10 ∈ a0_9, x10.length ≤ maxLen ∧ ∀ x11 ∈ x10, ((Lit.int .i64 x11.1).wf = true) ∧ ((Lit.int .i64 x11.2.1).wf = true) ∧ ((Lit.int .i64 x11.2.2.1).wf = true) ∧ (True) ∧ (True)) ∧ ((Lit.int .i64 a0_10).wf = true)) (w1 : (Lit.int .i64 a1).wf = true) :
    vcall C frz 5 [.agg #[.int .i64 a0_0, .int .i64 a0_1, u0_2, u0_3, u0_4, u0_5, u0_6, u0_7, u0_8, u0_9, .int .i64 a0_10], .int .i64 a1] H = some (.bool true, H) :=
  (law_FnExactBreakChannel_w s0_2 s0_3 s0_4 s0_5 s0_6 s0_7 s0_8 s0_9 w0 w1).exact (by simp) rfl
end Go.Proofs.YtcigpclbhfkgaaaGreat.V
