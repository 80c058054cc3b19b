/- Texts of a proof, joined. -/
import Derived.Test.YtcigpclbhfkgaaaGreatKM0
import Derived.Test.YtcigpclbhfkgaaaGreatKM1
import Derived.Test.YtcigpclbhfkgaaaGreatKFnExactChipRun0
import Derived.Test.YtcigpclbhfkgaaaGreatKFnExactChipRun1
import Derived.Test.YtcigpclbhfkgaaaGreatKFnExactChipRun2
import Derived.Test.YtcigpclbhfkgaaaGreatKFnExactChipRun3
/-! Valid chips; what is delivered. -/
set_option linter.all false
namespace Go.Proofs.YtcigpclbhfkgaaaGreat.V
open Go Go.VM Go.Proofs
set_option maxRecDepth 10000
variable {frz : Nat} {H : Heap}
abbrev pk0 : PkD := (0, 0, 0, 0, 0)
def sentOk (w h : Int) (list : List PkD) : Prop := ∀ i, i < list.length → packetOk w h (list.getD i pk0) ∧ (list.getD i pk0).1 = (i : Int) + 1
instance (w h : Int) (list : List PkD) : Decidable (sentOk w h list) := inferInstanceAs (Decidable (∀ i, i < _ → _))
def chipOk (a : ChipD) : Prop := netOk a.1 ∧ a.2.length ≤ 200 ∧ sentOk a.1.1.1 a.1.1.2.1 a.2 ∧ keepsOk a.1 a.2
instance (a : ChipD) : Decidable (chipOk a) := inferInstanceAs (Decidable (_ ∧ _))
def delivered (a : ChipD) : Int := if chipOk a then (a.2.length : Int) - (missing a.1 a.2).length else -1
theorem chipOk_d {v : ChipV} {a : ChipD} (o : dChip.Ow H v a) : vcall C frz 32 [dChip.val v a] H = some (.bool (decide (chipOk a)), H) := by
  have oneA := dChip_one o
  have ones := oneA.1
  have one2 := oneA.2
  have o1 := o.1
  have rs := o.2.1.rd
  have nk := fun F L => netOk_d (frz := F) (H := H ++ L) (v := v.1) (x := a.1) (Dt.app (T := dNet) o1)
  have ko := fun F H' (c : Chg H H' []) => keepsOrder_d (frz := F) (H := H') (u := v.2) (list := a.2) (Dt.chg (T := dNet) o1 c (by simp)) (rs.chg c (by simp)) o.2.2
  simp only [dNet_val] at nk ko
  rw [dChip_val]
  refine wp.exact (by simp) ?_ rfl
  rw [vcall_go (fn := Tryz.f32) Tryz.func32 rfl (by kernel_rfl) rfl]
  have hY : ∀ Y, (chipOk a → Y = true) → (¬ chipOk a → Y = false) → Y = decide (chipOk a) := fun Y h1 h2 => by
    by_cases g : chipOk a
    · rw [h1 g, decide_eq_true g]
    · rw [h2 g, decide_eq_false g]
  have hno : ¬ chipOk a → false = decide (chipOk a) := fun g => by rw [decide_eq_false g]
  have hG : (H ++ [⟨[.int .i64 a.1.1.1, .int .i64 a.1.1.2.1, v.1.1, v.1.2.1.1, v.1.2.1.2, v.1.2.2.1.1, v.1.2.2.2.1, v.1.2.2.2.2.1, v.1.2.2.2.2.2.1.1, v.1.2.2.2.2.2.2.1.1, .int .i64 a.1.2.2.2.2.2.2.2, v.2], 0, 49⟩])[H.length]? = some ⟨[.int .i64 a.1.1.1, .int .i64 a.1.1.2.1, v.1.1, v.1.2.1.1, v.1.2.1.2, v.1.2.2.1.1, v.1.2.2.2.1, v.1.2.2.2.2.1, v.1.2.2.2.2.2.1.1, v.1.2.2.2.2.2.2.1.1, .int .i64 a.1.2.2.2.2.2.2.2, v.2], 0, 49⟩ := by simp
  have cG : Chg H (H ++ [⟨[.int .i64 a.1.1.1, .int .i64 a.1.1.2.1, v.1.1, v.1.2.1.1, v.1.2.1.2, v.1.2.2.1.1, v.1.2.2.2.1, v.1.2.2.2.2.1, v.1.2.2.2.2.2.1.1, v.1.2.2.2.2.2.2.1.1, .int .i64 a.1.2.2.2.2.2.2.2, v.2], 0, 49⟩]) [] := Chg.app _
  simp [ones, one2, nk]
  by_cases g0 : netOk a.1
  rotate_left
  · simp [g0]; exact fun k => g0 k.1
  have ls := fun L => (rs.app (L := L)).len (P := Tryz.prog) (ty := 47) (by simp)
  simp [g0, ones, one2, ls]
  by_cases g1 : 200 < a.2.length
  · have g1' : (200 : Int) < a.2.length := by omega
    simp [g1, g1']; exact fun k => by have := k.2.1; omega
  have g1' : ¬ (200 : Int) < a.2.length := by omega
  simp [g1, g1', ones, one2, ls]
  refine wp_inv (fun n t H' => ∃ (i : Nat), n = a.2.length - i ∧ i ≤ a.2.length ∧ t 1 = .pointer (some ⟨H.length, 0, some 0⟩) ∧ t 16 = v.2 ∧ t 17 = .int .i64 a.2.length ∧ t 18 = .int .i64 i ∧ Chg H H' [] ∧ H'[H.length]? = some ⟨[.int .i64 a.1.1.1, .int .i64 a.1.1.2.1, v.1.1, v.1.2.1.1, v.1.2.1.2, v.1.2.2.1.1, v.1.2.2.2.1, v.1.2.2.2.2.1, v.1.2.2.2.2.2.1.1, v.1.2.2.2.2.2.2.1.1, .int .i64 a.1.2.2.2.2.2.2.2, v.2], 0, 49⟩ ∧ ∀ j, j < i → packetOk a.1.1.1 a.1.1.2.1 (a.2.getD j pk0) ∧ (a.2.getD j pk0).1 = (j : Int) + 1) ?_ (n := a.2.length)
    ⟨0, rfl, by omega, by simp, by simp, by simp, by simp, cG, hG, fun _ h => absurd h (by omega)⟩
  rintro n t H' ⟨i, rfl, hi, t1, t16, t17, t18, ch, bb, hk⟩ ih
  have rd := rs.chg ch (by simp)
  have ll := rd.len (P := Tryz.prog) (ty := 47) (by simp)
  simp [t1, t16, t17, t18, VM.look, bb, ll]
  refine wp_dec ?_ ?_ <;> intro g
  rotate_left
  · have : i = a.2.length := by omega
    have hs : sentOk a.1.1.1 a.1.1.2.1 a.2 := fun j hj => hk j (by omega)
    have ko' := fun F => ko F H' ch
    simp [t1, t16, t17, t18, VM.look, bb, ones, one2, ko']
    exact ⟨fun k => ⟨g0, by omega, hs, k⟩, fun k => k.2.2.2⟩
  have hi' : i < a.2.length := by omega
  have hF : H.length ≤ H'.length := ch.1
  have q1 := rd.idx (P := Tryz.prog) (ty := 47) (e := 76) (by simp) (i := (i : Int)) (by omega) (by omega)
  have q2 := rd.load (P := Tryz.prog) (e := 76) (by simp) hi'
  simp only [Int.toNat_natCast, pkF_n] at q1 q2
  have hgd : a.2.getD i pk0 = a.2[i] := by simp [List.getD_eq_getElem?_getD, hi']
  have hfail : ¬ (packetOk a.1.1.1 a.1.1.2.1 a.2[i] ∧ a.2[i].1 = (i : Int) + 1) → ¬ chipOk a := fun k c => k (by have := c.2.2.1 i hi'; rwa [hgd] at this)
  have e1 : ∀ [Inhabited Unit], IntKind.i64.wrap ((i : Int) + 1) = (i : Int) + 1 := by intro _; exact w64 (by omega) (by omega)
  have hnx : packetOk a.1.1.1 a.1.1.2.1 a.2[i] → a.2[i].1 = (i : Int) + 1 → ∀ j, j < i + 1 → packetOk a.1.1.1 a.1.1.2.1 (a.2.getD j pk0) ∧ (a.2.getD j pk0).1 = (j : Int) + 1 := fun k1 k2 j hj => by
    rcases Nat.lt_succ_iff_lt_or_eq.1 hj with hj | rfl
    · exact hk j hj
    · rw [hgd]; exact ⟨k1, k2⟩
  obtain ⟨p, hp⟩ : ∃ p, p = a.2[i] := ⟨_, rfl⟩
  have pk := fun F L => packetOk_c (frz := F) (H := H' ++ L) a.1.1.1 a.1.1.2.1 p
  unfold pkV at pk
  rw [← hp] at q2 hfail hnx
  have bb2 := fun r => get_app' bb [r]
  simp [t1, t16, t17, t18, q1, q2, pkF_f, hF, VM.look, bb2, pk]
  by_cases g2 : packetOk a.1.1.1 a.1.1.2.1 p
  rotate_left
  · simp [g2]; exact hfail (fun k => g2 k.1)
  by_cases g3 : p.1 = (i : Int) + 1
  rotate_left
  · simp [t1, t16, t17, t18, g2, g3, VM.look, e1]; exact hfail (fun k => g3 k.2)
  simp [t1, t16, t17, t18, g2, g3, VM.look, e1]
  refine ih (a.2.length - (i + 1)) _ _ ⟨i + 1, rfl, by omega, by simp [t1], by simp [t16], by simp [t17], by simp [t18], ch.trans (Chg.app _), get_app' bb _, hnx g2 g3⟩ (by omega)
theorem sChipOk_d {v : ChipV} {a : ChipD} (o : dChip.Ow H v a) : vcall C frz 28 [dChip.val v a] H = some (.bool (decide (chipOk a)), H) := by
  have oneA := dChip_one o
  have ones := oneA.1
  have one2 := oneA.2
  have o1 := o.1
  have rs := o.2.1.rd
  have nk := fun F L => sNetOk_d (frz := F) (H := H ++ L) (v := v.1) (x := a.1) (Dt.app (T := dNet) o1)
  have ko := fun F H' (c : Chg H H' []) => sKeepsOrder_d (frz := F) (H := H') (u := v.2) (list := a.2) (Dt.chg (T := dNet) o1 c (by simp)) (rs.chg c (by simp)) o.2.2
  simp only [dNet_val] at nk ko
  rw [dChip_val]
  refine wp.exact (by simp) ?_ rfl
  rw [vcall_go (fn := Tryz.f28) Tryz.func28 rfl (by kernel_rfl) rfl]
  have hY : ∀ Y, (chipOk a → Y = true) → (¬ chipOk a → Y = false) → Y = decide (chipOk a) := fun Y h1 h2 => by
    by_cases g : chipOk a
    · rw [h1 g, decide_eq_true g]
    · rw [h2 g, decide_eq_false g]
  have hno : ¬ chipOk a → false = decide (chipOk a) := fun g => by rw [decide_eq_false g]
  have hG : (H ++ [⟨[.int .i64 a.1.1.1, .int .i64 a.1.1.2.1, v.1.1, v.1.2.1.1, v.1.2.1.2, v.1.2.2.1.1, v.1.2.2.2.1, v.1.2.2.2.2.1, v.1.2.2.2.2.2.1.1, v.1.2.2.2.2.2.2.1.1, .int .i64 a.1.2.2.2.2.2.2.2, v.2], 0, 49⟩])[H.length]? = some ⟨[.int .i64 a.1.1.1, .int .i64 a.1.1.2.1, v.1.1, v.1.2.1.1, v.1.2.1.2, v.1.2.2.1.1, v.1.2.2.2.1, v.1.2.2.2.2.1, v.1.2.2.2.2.2.1.1, v.1.2.2.2.2.2.2.1.1, .int .i64 a.1.2.2.2.2.2.2.2, v.2], 0, 49⟩ := by simp
  have cG : Chg H (H ++ [⟨[.int .i64 a.1.1.1, .int .i64 a.1.1.2.1, v.1.1, v.1.2.1.1, v.1.2.1.2, v.1.2.2.1.1, v.1.2.2.2.1, v.1.2.2.2.2.1, v.1.2.2.2.2.2.1.1, v.1.2.2.2.2.2.2.1.1, .int .i64 a.1.2.2.2.2.2.2.2, v.2], 0, 49⟩]) [] := Chg.app _
  simp [ones, one2, nk]
  by_cases g0 : netOk a.1
  rotate_left
  · simp [g0]; exact fun k => g0 k.1
  have ls := fun L => (rs.app (L := L)).len (P := Tryz.prog) (ty := 47) (by simp)
  simp [g0, ones, one2, ls]
  by_cases g1 : 200 < a.2.length
  · have g1' : (200 : Int) < a.2.length := by omega
    simp [g1, g1']; exact fun k => by have := k.2.1; omega
  have g1' : ¬ (200 : Int) < a.2.length := by omega
  simp [g1, g1', ones, one2, ls]
  refine wp_inv (fun n t H' => ∃ (i : Nat), n = a.2.length - i ∧ i ≤ a.2.length ∧ t 1 = .pointer (some ⟨H.length, 0, some 0⟩) ∧ t 3 = .int .i64 i ∧ Chg H H' [] ∧ H'[H.length]? = some ⟨[.int .i64 a.1.1.1, .int .i64 a.1.1.2.1, v.1.1, v.1.2.1.1, v.1.2.1.2, v.1.2.2.1.1, v.1.2.2.2.1, v.1.2.2.2.2.1, v.1.2.2.2.2.2.1.1, v.1.2.2.2.2.2.2.1.1, .int .i64 a.1.2.2.2.2.2.2.2, v.2], 0, 49⟩ ∧ ∀ j, j < i → packetOk a.1.1.1 a.1.1.2.1 (a.2.getD j pk0) ∧ (a.2.getD j pk0).1 = (j : Int) + 1) ?_ (n := a.2.length)
    ⟨0, rfl, by omega, by simp, by simp, cG, hG, fun _ h => absurd h (by omega)⟩
  rintro n t H' ⟨i, rfl, hi, t1, t3, ch, bb, hk⟩ ih
  have rd := rs.chg ch (by simp)
  have ll := rd.len (P := Tryz.prog) (ty := 47) (by simp)
  simp [t1, t3, VM.look, bb, ll]
  refine wp_dec ?_ ?_ <;> intro g
  rotate_left
  · have : i = a.2.length := by omega
    have hs : sentOk a.1.1.1 a.1.1.2.1 a.2 := fun j hj => hk j (by omega)
    have ko' := fun F => ko F H' ch
    simp [t1, t3, VM.look, bb, ones, one2, ko']
    exact ⟨fun k => ⟨g0, by omega, hs, k⟩, fun k => k.2.2.2⟩
  have hi' : i < a.2.length := by omega
  have hF : H.length ≤ H'.length := ch.1
  have q1 := rd.idx (P := Tryz.prog) (ty := 47) (e := 76) (by simp) (i := (i : Int)) (by omega) (by omega)
  have q2 := rd.load (P := Tryz.prog) (e := 76) (by simp) hi'
  simp only [Int.toNat_natCast, pkF_n] at q1 q2
  have hgd : a.2.getD i pk0 = a.2[i] := by simp [List.getD_eq_getElem?_getD, hi']
  have hfail : ¬ (packetOk a.1.1.1 a.1.1.2.1 a.2[i] ∧ a.2[i].1 = (i : Int) + 1) → ¬ chipOk a := fun k c => k (by have := c.2.2.1 i hi'; rwa [hgd] at this)
  have e1 : ∀ [Inhabited Unit], IntKind.i64.wrap ((i : Int) + 1) = (i : Int) + 1 := by intro _; exact w64 (by omega) (by omega)
  have hnx : packetOk a.1.1.1 a.1.1.2.1 a.2[i] → a.2[i].1 = (i : Int) + 1 → ∀ j, j < i + 1 → packetOk a.1.1.1 a.1.1.2.1 (a.2.getD j pk0) ∧ (a.2.getD j pk0).1 = (j : Int) + 1 := fun k1 k2 j hj => by
    rcases Nat.lt_succ_iff_lt_or_eq.1 hj with hj | rfl
    · exact hk j hj
    · rw [hgd]; exact ⟨k1, k2⟩
  have f0 := rd.field (P := Tryz.prog) (s := 76) (f := 0) (o := 0) (n := 1) (ag := false) (by simp) (j := i * 5) (by omega)
  have k0 := rd.cell (P := Tryz.prog) (e := 3) (by simp) hi' (c := 0) (by decide)
  simp only [pkF_n, Nat.add_zero] at f0 k0
  simp only [pkF_f] at k0
  simp at k0
  obtain ⟨p, hp⟩ : ∃ p, p = a.2[i] := ⟨_, rfl⟩
  have pk := fun F => sPacketOk_c (frz := F) (H := H') a.1.1.1 a.1.1.2.1 p
  unfold pkV at pk
  rw [← hp] at q2 hfail hnx k0
  simp
  rw [go_draw (h := by kernel_rfl)]
  simp [-vfieldAddr, vfa_ptr, t1, t3, q1, q2, pkF_f, VM.look, bb, pk]
  by_cases g2 : packetOk a.1.1.1 a.1.1.2.1 p
  rotate_left
  · simp [g2]; exact hfail (fun k => g2 k.1)
  by_cases g3 : p.1 = (i : Int) + 1
  rotate_left
  · simp [-vfieldAddr, vfa_ptr, t1, t3, g2, g3, VM.look, bb, q1, f0, k0, e1]; exact hfail (fun k => g3 k.2)
  simp [-vfieldAddr, vfa_ptr, t1, t3, g2, g3, VM.look, bb, q1, f0, k0, e1]
  refine ih (a.2.length - (i + 1)) _ _ ⟨i + 1, rfl, by omega, by simp [t1], by simp, ch, bb, hnx g2 g3⟩ (by omega)
end Go.Proofs.YtcigpclbhfkgaaaGreat.V
/-! ChipRun. -/
set_option linter.all false
namespace Go.Proofs.YtcigpclbhfkgaaaGreat.V
open Go Go.VM Go.Proofs
set_option maxRecDepth 10000
variable {frz : Nat} {H : Heap}
def chipCells (v : ChipV) (a : ChipD) : List Value := netCells v.1 a.1 ++ [v.2]
def chipRuns (a : ChipD) (k : Int) : Prop := chipOk a ∧ runs a.1 k
instance (a : ChipD) (k : Int) : Decidable (chipRuns a k) := inferInstanceAs (Decidable (_ ∧ _))
noncomputable def chipRun (a : ChipD) (k : Int) : ChipD := if chipOk a then (runNet a.1 k, a.2) else a
def zChip : List Value := [.int .i64 0, .int .i64 0, .slice none 0 0, .slice none 0 0, .slice none 0 0, .slice none 0 0, .slice none 0 0, .slice none 0 0, .slice none 0 0, .slice none 0 0, .int .i64 0, .slice none 0 0]
theorem chip_made' {K : Heap} {n : ChipV} {y z : ChipD} {ok ok' : Bool} {r : Row} (o : dChip.Ow K n y) (c : Chg H K []) (m : ∀ i ∈ dChip.ids n, H.length + 2 ≤ i) (d : (dChip.ids n).Nodup) (e1 : z = y) (e2 : ok' = ok) :
    Made2 dChip H z ok' (.tuple #[dChip.val n y, .bool ok]) (K.set (H.length + 1) r) := by
  subst e1 e2
  exact ⟨dChip.val n z, rfl, n, rfl, Dt.chg (T := dChip) o (chg_set _ _) (fun i hi hh => by have := m i hi; simp at hh; omega), c.trans' (chg_set _ _) (fun i hi => .inr (by simp at hi; omega)), fun i hi => by have := m i hi; omega, d⟩
theorem chipRun_d {v : ChipV} {a : ChipD} {k : Int} (o : dChip.Ow H v a) (h9 : allL 66000000 a.1.2.2.2.2.2.2.1) :
   wp (vcall C frz 15 [dChip.val v a, .int .i64 k] H) (Made2 dChip H (chipRun a k) (decide (chipRuns a k))) := by
  have oneA := dChip_one o
  have ones := oneA.1
  have one2 := oneA.2
  have ecopy := fun K (c : Chg H K []) => copyChip_d (frz := H.length) (H := K) (v := v) (a := a) (Dt.chg (T := dChip) o c (by simp))
  have ck := fun F K (c : Chg H K []) => chipOk_d (frz := F) (H := K) (v := v) (a := a) (Dt.chg (T := dChip) o c (by simp))
  have er := fun K (c : Chg H K []) => runNet_d (frz := H.length) (H := K) (v := v.1) (x := a.1) (k := k) (Dt.chg (T := dNet) o.1 c (by simp)) h9
  simp only [dNet_val] at er
  simp only [dChip_val] at ecopy ck ⊢
  rw [vcall_go (fn := Tryz.f15) Tryz.func15 rfl (by kernel_rfl) rfl]
  obtain ⟨G, hG⟩ : ∃ G, G = H ++ [⟨chipCells v a, 0, 49⟩, ⟨zChip, 0, 49⟩] := ⟨_, rfl⟩
  have cG : Chg H G [] := by rw [hG]; exact Chg.app _
  have b0 : G[H.length]? = some ⟨chipCells v a, 0, 49⟩ := by rw [hG]; simp
  have bR : G[H.length + 1]? = some ⟨zChip, 0, 49⟩ := by rw [hG]; simp
  have lG : G.length = H.length + 2 := by rw [hG]; simp
  have hGs := hG.symm
  unfold chipCells netCells zChip at hGs
  simp only [List.cons_append, List.nil_append] at hGs
  simp [ones, one2]
  rw [hGs]
  clear hG hGs
  have b0' := b0
  unfold chipCells netCells at b0'
  simp only [List.cons_append, List.nil_append] at b0'
  try simp [VM.look, b0', ones, one2]
  refine wp_thn (ecopy G cG) ?_
  rintro _ K ⟨n, rfl, on, cn, mn, dn⟩
  have cK : Chg H K [] := cG.trans cn
  have b0 := box_chg b0 cn (by simp)
  have bR := box_chg bR cn (by simp)
  have oneN := dChip_one on
  have qn := oneN.1
  have qn2 := oneN.2
  have lK := cn.1
  have hFK : H.length ≤ K.length := by omega
  obtain ⟨K2, hK2⟩ : ∃ K2, K2 = K ++ [⟨chipCells n a, 0, 49⟩] := ⟨_, rfl⟩
  have c12 : Chg K K2 [] := by rw [hK2]; exact Chg.app _
  have cK2 := cK.trans c12
  have l2 : K2.length = K.length + 1 := by rw [hK2]; simp
  have b0 := box_chg b0 c12 (by simp)
  have bR := box_chg bR c12 (by simp)
  have bC : K2[K.length]? = some ⟨chipCells n a, 0, 49⟩ := by rw [hK2]; simp
  have on2 := Dt.chg (T := dChip) on c12 (by simp)
  have hF : H.length ≤ H.length + 1 := by omega
  have mn' : ∀ i ∈ dChip.ids n, H.length + 2 ≤ i := fun i hi => by have := mn i hi; omega
  have ltn : ∀ i ∈ dChip.ids n, i < K.length := fun i hi => dChip.lt on i hi
  have hKs := hK2.symm
  unfold chipCells netCells at hKs
  simp only [List.cons_append, List.nil_append] at hKs
  simp [dChip_val, VM.look, qn, qn2, hFK]
  rw [hKs]
  clear hK2 hKs
  have ck' := fun F => ck F K2 cK2
  have b0' := b0
  have bC' := bC
  unfold chipCells netCells at b0' bC'
  simp only [List.cons_append, List.nil_append] at b0' bC'
  by_cases g0 : chipOk a
  rotate_left
  · have hb : ¬ chipRuns a k := fun h => g0 h.1
    have gR := set_get (r' := ⟨chipCells n a, 0, 49⟩) bR
    have hM := chip_made' (H := H) (r := ⟨chipCells n a, 0, 49⟩) on2 cK2 mn' dn (show chipRun a k = a from if_neg g0) (decide_eq_false hb)
    unfold zChip at bR
    unfold chipCells netCells at gR hM
    simp only [List.cons_append, List.nil_append] at gR hM
    simp [VM.look, b0', ones, one2, ck', g0, bC', qn, qn2, bR, gR, hF]
    simpa [hb, dChip_val] using hM
  have eR := er K2 cK2
  simp [VM.look, b0', ones, one2, ck', g0]
  refine wp_thn eR ?_
  rintro _ K3 ⟨_, rfl, n2, rfl, o3, c3, m3, d3⟩
  obtain ⟨z, hz⟩ : ∃ z, z = runNet a.1 k := ⟨_, rfl⟩
  rw [← hz] at o3
  have one3 := dNet_one o3
  have l3 := c3.1
  have hFK3 : H.length ≤ K3.length := by omega
  obtain ⟨K4, hK4⟩ : ∃ K4, K4 = K3 ++ [⟨netCells n2 z, 0, 46⟩] := ⟨_, rfl⟩
  have c34 : Chg K3 K4 [] := by rw [hK4]; exact Chg.app _
  have l4 : K4.length = K3.length + 1 := by rw [hK4]; simp
  have bN : K4[K3.length]? = some ⟨netCells n2 z, 0, 46⟩ := by rw [hK4]; simp
  have bC4 := box_chg (box_chg bC c3 (by simp)) c34 (by simp)
  have bR4 := box_chg (box_chg bR c3 (by simp)) c34 (by simp)
  have hKs := hK4.symm
  unfold netCells at hKs
  have eb : decide (chipRuns a k) = decide (runs a.1 k) := by simp [chipRuns, g0]
  have ec : chipRun a k = (z, a.2) := by rw [hz]; exact if_pos g0
  have o4 := Dt.chg (T := dNet) o3 c34 (by simp)
  have op4 := Dt.chg (T := dPk) (Dt.chg (T := dPk) on2.2 c3 (by simp)) c34 (by simp)
  simp [dNet_val, ← hz, one3, hFK3, VM.look]
  rw [hKs]
  clear hK4 hKs
  have gC := set_get (r' := ⟨chipCells (n2, n.2) (z, a.2), 0, 49⟩) bC4
  have cC : Chg K4 (K4.set K.length ⟨chipCells (n2, n.2) (z, a.2), 0, 49⟩) [K.length] := chg_set _ _
  have bR5 := box_chg bR4 cC (by simp; omega)
  have gR := set_get (r' := ⟨chipCells (n2, n.2) (z, a.2), 0, 49⟩) bR5
  have hi1 : ∀ i ∈ dNet.ids n2, K2.length ≤ i := m3
  have hi2 : ∀ i ∈ VM.ids n.2, H.length + 2 ≤ i ∧ i < K.length := fun i hi => ⟨mn' i (List.mem_append_right _ hi), ltn i (List.mem_append_right _ hi)⟩
  have hM := chip_made' (H := H) (n := (n2, n.2)) (y := (z, a.2)) (r := ⟨chipCells (n2, n.2) (z, a.2), 0, 49⟩) (K := K4.set K.length ⟨chipCells (n2, n.2) (z, a.2), 0, 49⟩)
    ⟨Dt.chg (T := dNet) o4 cC (fun i hi hh => by have := hi1 i hi; simp at hh; omega), Dt.chg (T := dPk) op4 cC (fun i hi hh => by have := (hi2 i hi).2; simp at hh; omega)⟩
    (((cK2.trans c3).trans c34).trans' cC (fun i hi => .inr (by simp at hi; omega)))
    (fun i hi => by
      rcases List.mem_append.1 hi with h | h
      · have := hi1 i h; omega
      · exact (hi2 i h).1)
    (List.nodup_append.2 ⟨d3, ids_nodup n.2, fun x hx y hy e => by
      subst e
      have := hi1 x hx
      have := (hi2 x hy).2
      omega⟩) ec eb
  unfold chipCells netCells zChip at bR5
  unfold chipCells netCells at gC bC4 gR hM
  unfold netCells at bN
  simp only [List.cons_append, List.nil_append] at gC bC4 gR hM bR5
  simp [VM.look, bN, bC4, gC, bR5, gR, one3, qn2, hF, hFK]
  rw [ec, eb]
  rw [ec, eb] at hM
  simpa [dChip_val] using hM
theorem sChipRun_d {v : ChipV} {a : ChipD} {k : Int} (o : dChip.Ow H v a) (h9 : allL 66000000 a.1.2.2.2.2.2.2.1) :
   wp (vcall C frz 14 [dChip.val v a, .int .i64 k] H) (Made2 dChip H (chipRun a k) (decide (chipRuns a k))) := by
  have oneA := dChip_one o
  have ones := oneA.1
  have one2 := oneA.2
  have ecopy := fun K (c : Chg H K []) => l37Copy_d (frz := H.length) (H := K) (v := v) (a := a) (Dt.chg (T := dChip) o c (by simp))
  have ck := fun F K (c : Chg H K []) => sChipOk_d (frz := F) (H := K) (v := v) (a := a) (Dt.chg (T := dChip) o c (by simp))
  have er := fun K (c : Chg H K []) => sRunNet_d (frz := H.length) (H := K) (v := v.1) (x := a.1) (k := k) (Dt.chg (T := dNet) o.1 c (by simp)) h9
  simp only [dNet_val] at er
  simp only [dChip_val] at ecopy ck ⊢
  rw [vcall_go (fn := Tryz.f14) Tryz.func14 rfl (by kernel_rfl) rfl]
  obtain ⟨G, hG⟩ : ∃ G, G = H ++ [⟨chipCells v a, 0, 49⟩, ⟨zChip, 0, 49⟩] := ⟨_, rfl⟩
  have cG : Chg H G [] := by rw [hG]; exact Chg.app _
  have b0 : G[H.length]? = some ⟨chipCells v a, 0, 49⟩ := by rw [hG]; simp
  have bR : G[H.length + 1]? = some ⟨zChip, 0, 49⟩ := by rw [hG]; simp
  have lG : G.length = H.length + 2 := by rw [hG]; simp
  have hGs := hG.symm
  unfold chipCells netCells zChip at hGs
  simp only [List.cons_append, List.nil_append] at hGs
  simp [ones, one2]
  rw [hGs]
  clear hG hGs
  have b0' := b0
  unfold chipCells netCells at b0'
  simp only [List.cons_append, List.nil_append] at b0'
  try simp [VM.look, b0', ones, one2]
  refine wp_thn (ecopy G cG) ?_
  rintro _ K ⟨n, rfl, on, cn, mn, dn⟩
  have cK : Chg H K [] := cG.trans cn
  have b0 := box_chg b0 cn (by simp)
  have bR := box_chg bR cn (by simp)
  have oneN := dChip_one on
  have qn := oneN.1
  have qn2 := oneN.2
  have lK := cn.1
  have hFK : H.length ≤ K.length := by omega
  obtain ⟨K2, hK2⟩ : ∃ K2, K2 = K ++ [⟨chipCells n a, 0, 49⟩] := ⟨_, rfl⟩
  have c12 : Chg K K2 [] := by rw [hK2]; exact Chg.app _
  have cK2 := cK.trans c12
  have l2 : K2.length = K.length + 1 := by rw [hK2]; simp
  have b0 := box_chg b0 c12 (by simp)
  have bR := box_chg bR c12 (by simp)
  have bC : K2[K.length]? = some ⟨chipCells n a, 0, 49⟩ := by rw [hK2]; simp
  have on2 := Dt.chg (T := dChip) on c12 (by simp)
  have hF : H.length ≤ H.length + 1 := by omega
  have mn' : ∀ i ∈ dChip.ids n, H.length + 2 ≤ i := fun i hi => by have := mn i hi; omega
  have ltn : ∀ i ∈ dChip.ids n, i < K.length := fun i hi => dChip.lt on i hi
  have hKs := hK2.symm
  unfold chipCells netCells at hKs
  simp only [List.cons_append, List.nil_append] at hKs
  simp [dChip_val, VM.look, qn, qn2, hFK]
  rw [hKs]
  clear hK2 hKs
  have ck' := fun F => ck F K2 cK2
  have b0' := b0
  have bC' := bC
  unfold chipCells netCells at b0' bC'
  simp only [List.cons_append, List.nil_append] at b0' bC'
  by_cases g0 : chipOk a
  rotate_left
  · have hb : ¬ chipRuns a k := fun h => g0 h.1
    have gR := set_get (r' := ⟨chipCells n a, 0, 49⟩) bR
    have hM := chip_made' (H := H) (r := ⟨chipCells n a, 0, 49⟩) on2 cK2 mn' dn (show chipRun a k = a from if_neg g0) (decide_eq_false hb)
    unfold zChip at bR
    unfold chipCells netCells at gR hM
    simp only [List.cons_append, List.nil_append] at gR hM
    simp [VM.look, b0', ones, one2, ck', g0, bC', qn, qn2, bR, gR, hF]
    simpa [hb, dChip_val] using hM
  have eR := er K2 cK2
  simp [VM.look, b0', ones, one2, ck', g0]
  refine wp_thn eR ?_
  rintro _ K3 ⟨_, rfl, n2, rfl, o3, c3, m3, d3⟩
  obtain ⟨z, hz⟩ : ∃ z, z = runNet a.1 k := ⟨_, rfl⟩
  rw [← hz] at o3
  have one3 := dNet_one o3
  have l3 := c3.1
  have hFK3 : H.length ≤ K3.length := by omega
  obtain ⟨K4, hK4⟩ : ∃ K4, K4 = K3 ++ [⟨netCells n2 z, 0, 46⟩] := ⟨_, rfl⟩
  have c34 : Chg K3 K4 [] := by rw [hK4]; exact Chg.app _
  have l4 : K4.length = K3.length + 1 := by rw [hK4]; simp
  have bN : K4[K3.length]? = some ⟨netCells n2 z, 0, 46⟩ := by rw [hK4]; simp
  have bC4 := box_chg (box_chg bC c3 (by simp)) c34 (by simp)
  have bR4 := box_chg (box_chg bR c3 (by simp)) c34 (by simp)
  have hKs := hK4.symm
  unfold netCells at hKs
  have eb : decide (chipRuns a k) = decide (runs a.1 k) := by simp [chipRuns, g0]
  have ec : chipRun a k = (z, a.2) := by rw [hz]; exact if_pos g0
  have o4 := Dt.chg (T := dNet) o3 c34 (by simp)
  have op4 := Dt.chg (T := dPk) (Dt.chg (T := dPk) on2.2 c3 (by simp)) c34 (by simp)
  simp [dNet_val, ← hz, one3, hFK3, VM.look]
  rw [hKs]
  clear hK4 hKs
  have gC := set_get (r' := ⟨chipCells (n2, n.2) (z, a.2), 0, 49⟩) bC4
  have cC : Chg K4 (K4.set K.length ⟨chipCells (n2, n.2) (z, a.2), 0, 49⟩) [K.length] := chg_set _ _
  have bR5 := box_chg bR4 cC (by simp; omega)
  have gR := set_get (r' := ⟨chipCells (n2, n.2) (z, a.2), 0, 49⟩) bR5
  have hi1 : ∀ i ∈ dNet.ids n2, K2.length ≤ i := m3
  have hi2 : ∀ i ∈ VM.ids n.2, H.length + 2 ≤ i ∧ i < K.length := fun i hi => ⟨mn' i (List.mem_append_right _ hi), ltn i (List.mem_append_right _ hi)⟩
  have hM := chip_made' (H := H) (n := (n2, n.2)) (y := (z, a.2)) (r := ⟨chipCells (n2, n.2) (z, a.2), 0, 49⟩) (K := K4.set K.length ⟨chipCells (n2, n.2) (z, a.2), 0, 49⟩)
    ⟨Dt.chg (T := dNet) o4 cC (fun i hi hh => by have := hi1 i hi; simp at hh; omega), Dt.chg (T := dPk) op4 cC (fun i hi hh => by have := (hi2 i hi).2; simp at hh; omega)⟩
    (((cK2.trans c3).trans c34).trans' cC (fun i hi => .inr (by simp at hi; omega)))
    (fun i hi => by
      rcases List.mem_append.1 hi with h | h
      · have := hi1 i h; omega
      · exact (hi2 i h).1)
    (List.nodup_append.2 ⟨d3, ids_nodup n.2, fun x hx y hy e => by
      subst e
      have := hi1 x hx
      have := (hi2 x hy).2
      omega⟩) ec eb
  unfold chipCells netCells zChip at bR5
  unfold chipCells netCells at gC bC4 gR hM
  unfold netCells at bN
  simp only [List.cons_append, List.nil_append] at gC bC4 gR hM bR5
  simp [VM.look, bN, bC4, gC, bR5, gR, one3, qn2, hF, hFK]
  rw [ec, eb]
  rw [ec, eb] at hM
  simpa [dChip_val] using hM
end Go.Proofs.YtcigpclbhfkgaaaGreat.V
/-! Marks: packets, chips. -/
set_option linter.all false
namespace Go.Proofs.YtcigpclbhfkgaaaGreat.V
open Go Go.VM Go.Proofs
set_option maxRecDepth 10000
variable {frz : Nat} {H : Heap}
def mkP (k : Int) : PkD := (k, k + 1, k + 2, k + 3, k + 4)
def marksP (k : Int) : Nat → List PkD
  | 0 => []
  | n + 1 => marksP k n ++ [mkP (k + 5 * n)]
@[simp] theorem marksP_len (k : Int) : ∀ n, (marksP k n).length = n
  | 0 => rfl
  | n + 1 => by simp [marksP, marksP_len k n]
theorem marksP_get (k : Int) {i : Nat} : ∀ n (h : i < n), (marksP k n)[i]'(by simpa using h) = mkP (k + 5 * i)
  | 0, h => by omega
  | n + 1, h => by
    simp only [marksP]
    by_cases hi : i < n
    · rw [List.getElem_append_left (by simpa using hi)]; exact marksP_get k n hi
    · have : i = n := by omega
      subst this
      rw [List.getElem_append_right (by simp)]; simp
theorem marksP_set (k : Int) (xs : List PkD) {i : Nat} (h : i < xs.length) : (marksP k i ++ xs.drop i).set i (mkP (k + 5 * i)) = marksP k (i + 1) ++ xs.drop (i + 1) := by
  rw [List.set_append_right _ _ (by simp), marksP_len, Nat.sub_self, List.drop_eq_getElem_cons h, List.set_cons_zero, marksP]
  simp
theorem markPacketS_w (v : Value) (xs : List PkD) (e : TypeId) (k : Int) (h : Ow pkF e H v xs) (hl : xs.length ≤ 1073741824) (hk : 0 ≤ k ∧ k ≤ 4611686018427387904) (hf : ∀ i ∈ ids v, frz ≤ i) :
   wp (vcall C frz 35 [v, .int .i64 k] H) (fun r H' => r = .int .i64 (k + 5 * xs.length) ∧ Ow pkF e H' v (marksP k xs.length) ∧ Chg H H' (ids v) ∧ H'.length = H.length) := by
  rw [vcall_go (fn := Tryz.f35) Tryz.func35 rfl (by kernel_rfl) rfl]
  simp
  refine wp_inv (fun n t H' => ∃ i : Nat, n = xs.length - i ∧ i ≤ xs.length ∧ t 0 = v ∧ t 1 = .int .i64 (k + 5 * i) ∧ t 5 = .int .i64 i ∧ Ow pkF e H' v (marksP k i ++ xs.drop i) ∧ Chg H H' (ids v) ∧ H'.length = H.length) ?_ (n := xs.length)
    ⟨0, by simp, by omega, by simp, by simp, by simp, by simpa [marksP] using h, Chg.refl _, rfl⟩
  rintro n t H' ⟨i, rfl, hi, h0, h1, h5, o, c, l⟩ ih
  have hlen : (marksP k i ++ xs.drop i).length = xs.length := by simp; omega
  have ll := o.rd.len (P := Tryz.prog) (ty := 47) (by simp)
  rw [hlen] at ll
  simp [h0, h1, h5, ll]
  refine wp_dec ?_ ?_ <;> intro h6
  · have hi' : i < xs.length := by omega
    have hms := marksP_set k xs hi'
    generalize marksP k i ++ xs.drop i = ys at *
    have hy : i < ys.length := by omega
    obtain ⟨K, hK⟩ : ∃ K, K = k + 5 * (i : Int) := ⟨_, rfl⟩
    obtain ⟨K1, hK1⟩ : ∃ K1, K1 = K + 1 := ⟨_, rfl⟩
    obtain ⟨K2, hK2⟩ : ∃ K1, K1 = K + 2 := ⟨_, rfl⟩
    obtain ⟨K3, hK3⟩ : ∃ K1, K1 = K + 3 := ⟨_, rfl⟩
    obtain ⟨K4, hK4⟩ : ∃ K1, K1 = K + 4 := ⟨_, rfl⟩
    have hmk : mkP K = (K, K1, K2, K3, K4) := by rw [hK1, hK2, hK3, hK4]; rfl
    have w1 : ∀ [Inhabited Unit], IntKind.i64.wrap (K + 1) = K1 := by intro _; rw [w64 (by omega) (by omega), hK1]
    have w2 : ∀ [Inhabited Unit], IntKind.i64.wrap (K1 + 1) = K2 := by intro _; rw [w64 (by omega) (by omega)]; omega
    have w3 : ∀ [Inhabited Unit], IntKind.i64.wrap (K2 + 1) = K3 := by intro _; rw [w64 (by omega) (by omega)]; omega
    have w4 : ∀ [Inhabited Unit], IntKind.i64.wrap (K3 + 1) = K4 := by intro _; rw [w64 (by omega) (by omega)]; omega
    have w5 : ∀ [Inhabited Unit], IntKind.i64.wrap (K4 + 1) = k + 5 * ((i + 1 : Nat) : Int) := by intro _; rw [w64 (by omega) (by omega)]; omega
    rw [← hK] at hms h1
    obtain ⟨z, hz⟩ : ∃ z, z = ys[i] := ⟨_, rfl⟩
    have ix := fun {G : Heap} {zs : List PkD} (oo : Ow pkF e G v zs) (hh : i < zs.length) => oo.rd.idx (P := Tryz.prog) (ty := 47) (e := 76) (by simp) (i := (i : Int)) (by omega) (by omega)
    have fa := fun {G : Heap} {zs : List PkD} (oo : Ow pkF e G v zs) (hh : i < zs.length) => (show _ ∧ _ ∧ _ ∧ _ ∧ _ from
      ⟨oo.rd.field (P := Tryz.prog) (s := 76) (f := 0) (o := 0) (n := 1) (ag := false) (by simp) (j := i * 5) (by omega), oo.rd.field (P := Tryz.prog) (s := 76) (f := 1) (o := 1) (n := 1) (ag := false) (by simp) (j := i * 5) (by omega),
       oo.rd.field (P := Tryz.prog) (s := 76) (f := 2) (o := 2) (n := 1) (ag := false) (by simp) (j := i * 5) (by omega), oo.rd.field (P := Tryz.prog) (s := 76) (f := 3) (o := 3) (n := 1) (ag := false) (by simp) (j := i * 5) (by omega),
       oo.rd.field (P := Tryz.prog) (s := 76) (f := 4) (o := 4) (n := 1) (ag := false) (by simp) (j := i * 5) (by omega)⟩)
    obtain ⟨H1, s1, o1, c1, l1⟩ := o.store1 (P := Tryz.prog) (frz := frz) (et := 3) (ag := false) (x := .int .i64 K) (by simp) (j := i) (c := 0) (y := (K, z.2)) hy (by decide) rfl rfl (by rw [← hz]; rfl) hf
    obtain ⟨H2, s2, o2, c2, l2⟩ := o1.store1 (P := Tryz.prog) (frz := frz) (et := 3) (ag := false) (x := .int .i64 K1) (by simp) (j := i) (c := 1) (y := (K, K1, z.2.2)) (by simpa using hy) (by decide) rfl rfl (by simp [pkF_f]) hf
    obtain ⟨H3, s3, o3, c3, l3⟩ := o2.store1 (P := Tryz.prog) (frz := frz) (et := 3) (ag := false) (x := .int .i64 K2) (by simp) (j := i) (c := 2) (y := (K, K1, K2, z.2.2.2)) (by simpa using hy) (by decide) rfl rfl (by simp [pkF_f]) hf
    obtain ⟨H4, s4, o4, c4, l4⟩ := o3.store1 (P := Tryz.prog) (frz := frz) (et := 3) (ag := false) (x := .int .i64 K3) (by simp) (j := i) (c := 3) (y := (K, K1, K2, K3, z.2.2.2.2)) (by simpa using hy) (by decide) rfl rfl (by simp [pkF_f]) hf
    obtain ⟨H5, s5, o5, c5, l5⟩ := o4.store1 (P := Tryz.prog) (frz := frz) (et := 3) (ag := false) (x := .int .i64 K4) (by simp) (j := i) (c := 4) (y := (K, K1, K2, K3, K4)) (by simpa using hy) (by decide) rfl rfl (by simp [pkF_f]) hf
    have i0 := ix o hy
    have i1 := ix o1 (by simpa using hy)
    have i2 := ix o2 (by simpa using hy)
    have i3 := ix o3 (by simpa using hy)
    have i4 := ix o4 (by simpa using hy)
    have f0 := (fa o hy).1
    have f1 := (fa o1 (by simpa using hy)).2.1
    have f2 := (fa o2 (by simpa using hy)).2.2.1
    have f3 := (fa o3 (by simpa using hy)).2.2.2.1
    have f4 := (fa o4 (by simpa using hy)).2.2.2.2
    simp only [Int.toNat_natCast, pkF_n, Nat.add_zero] at i0 i1 i2 i3 i4 s1 s2 s3 s4 s5 f0
    simp [-vfieldAddr, vfa_ptr, h0, h1, h5, i0, i1, i2, i3, i4, f0, f1, f2, f3, f4, s1, s2, s3, s4, s5, w1, w2, w3, w4, w5]
    refine ih (xs.length - (i + 1)) _ _ ⟨i + 1, rfl, by omega, by simp [h0], ?_, ?_, ?_, (((((c.trans c1).trans c2).trans c3).trans c4).trans c5), by omega⟩ (by omega)
    · simp
    · simp; rw [w64 (by omega) (by omega)]
    · rw [← hms, hmk]; simpa only [List.set_set] using o5
  · have : i = xs.length := by omega
    subst this
    simp [h0, h1, h5]
    exact ⟨by simpa using o, c, l⟩
theorem heldPacketS_c (v : Value) (n : Nat) (k : Int) (h : Rd pkF H v (marksP k n)) (hl : n ≤ 1073741824) (hk : 0 ≤ k ∧ k ≤ 4611686018427387904) :
   vcall C frz 36 [v, .int .i64 k] H = some (.int .i64 (k + 5 * n), H) := by
  refine wp.exact (by simp) ?_ rfl
  rw [vcall_go (fn := Tryz.f36) Tryz.func36 rfl (by kernel_rfl) rfl]
  have ll := h.len (P := Tryz.prog) (ty := 47) (by simp)
  rw [marksP_len] at ll
  simp
  refine wp_inv (fun m t H' => ∃ i : Nat, m = n - i ∧ i ≤ n ∧ t 0 = v ∧ t 1 = .int .i64 (k + 5 * i) ∧ t 5 = .int .i64 i ∧ H' = H) ?_ (n := n) ⟨0, rfl, by omega, by simp, by simp, by simp, rfl⟩
  rintro m t H' ⟨i, rfl, hi, h0, h1, h5, rfl⟩ ih
  simp [h0, h1, h5, ll]
  refine wp_dec ?_ ?_ <;> intro h6
  · have hi' : i < n := by omega
    have hy : i < (marksP k n).length := by simpa using hi'
    obtain ⟨K, hK⟩ : ∃ K, K = k + 5 * (i : Int) := ⟨_, rfl⟩
    obtain ⟨K1, hK1⟩ : ∃ K1, K1 = K + 1 := ⟨_, rfl⟩
    obtain ⟨K2, hK2⟩ : ∃ K1, K1 = K + 2 := ⟨_, rfl⟩
    obtain ⟨K3, hK3⟩ : ∃ K1, K1 = K + 3 := ⟨_, rfl⟩
    obtain ⟨K4, hK4⟩ : ∃ K1, K1 = K + 4 := ⟨_, rfl⟩
    have hmk : (marksP k n)[i] = (K, K1, K2, K3, K4) := by rw [marksP_get k n hi', hK1, hK2, hK3, hK4, hK]; rfl
    have w1 : ∀ [Inhabited Unit], IntKind.i64.wrap (K + 1) = K1 := by intro _; rw [w64 (by omega) (by omega), hK1]
    have w2 : ∀ [Inhabited Unit], IntKind.i64.wrap (K1 + 1) = K2 := by intro _; rw [w64 (by omega) (by omega)]; omega
    have w3 : ∀ [Inhabited Unit], IntKind.i64.wrap (K2 + 1) = K3 := by intro _; rw [w64 (by omega) (by omega)]; omega
    have w4 : ∀ [Inhabited Unit], IntKind.i64.wrap (K3 + 1) = K4 := by intro _; rw [w64 (by omega) (by omega)]; omega
    have w5 : ∀ [Inhabited Unit], IntKind.i64.wrap (K4 + 1) = k + 5 * ((i + 1 : Nat) : Int) := by intro _; rw [w64 (by omega) (by omega)]; omega
    rw [← hK] at h1
    have i0 := h.idx (P := Tryz.prog) (ty := 47) (e := 76) (by simp) (i := (i : Int)) (by omega) (by omega)
    have f0 := h.field (P := Tryz.prog) (s := 76) (f := 0) (o := 0) (n := 1) (ag := false) (by simp) (j := i * 5) (by omega)
    have f1 := h.field (P := Tryz.prog) (s := 76) (f := 1) (o := 1) (n := 1) (ag := false) (by simp) (j := i * 5) (by omega)
    have f2 := h.field (P := Tryz.prog) (s := 76) (f := 2) (o := 2) (n := 1) (ag := false) (by simp) (j := i * 5) (by omega)
    have f3 := h.field (P := Tryz.prog) (s := 76) (f := 3) (o := 3) (n := 1) (ag := false) (by simp) (j := i * 5) (by omega)
    have f4 := h.field (P := Tryz.prog) (s := 76) (f := 4) (o := 4) (n := 1) (ag := false) (by simp) (j := i * 5) (by omega)
    have c0 := h.cell (P := Tryz.prog) (e := 3) (by simp) hy (c := 0) (by decide)
    have c1 := h.cell (P := Tryz.prog) (e := 3) (by simp) hy (c := 1) (by decide)
    have c2 := h.cell (P := Tryz.prog) (e := 3) (by simp) hy (c := 2) (by decide)
    have c3 := h.cell (P := Tryz.prog) (e := 3) (by simp) hy (c := 3) (by decide)
    have c4 := h.cell (P := Tryz.prog) (e := 3) (by simp) hy (c := 4) (by decide)
    rw [hmk] at c0 c1 c2 c3 c4
    simp only [Int.toNat_natCast, pkF_n, pkF_f, Nat.add_zero] at i0 f0 c0 c1 c2 c3 c4
    simp at c0 c1 c2 c3 c4
    simp [-vfieldAddr, vfa_ptr, h0, h1, h5, i0, f0, f1, f2, f3, f4, c0, c1, c2, c3, c4, w1, w2, w3, w4, w5]
    refine ih (n - (i + 1)) _ _ ⟨i + 1, rfl, by omega, by simp [h0], ?_, ?_, rfl⟩ (by omega)
    · simp
    · simp; rw [w64 (by omega) (by omega)]
  · have : i = n := by omega
    subst this
    simp [h0, h1, h5]
theorem markPk_d {v : Value} {a : List PkD} {k : Int} (h : dPk.Ow H v a) (hd : (dPk.ids v).Nodup) (hk : 0 ≤ k ∧ k ≤ 2305843009213693952) (hf : ∀ i ∈ dPk.ids v, frz ≤ i) :
    wp (vcall C frz 35 [v, .int .i64 k] H) (Marks 5368709120 dPk 36 H v a k) := by
  refine (markPacketS_w v a _ k h.1 h.2 ⟨by omega, by omega⟩ hf).mono ?_
  rintro r H' ⟨rfl, o, c, l⟩
  have := h.2
  refine ⟨5 * (a.length : Int), marksP k a.length, rfl, by omega, rfl, ⟨o, by simpa using h.2⟩, c, fun F H2 h2 => ?_⟩
  exact heldPacketS_c v a.length k h2.1.rd h.2 ⟨by omega, by omega⟩
theorem markChip_d {v : ChipV} {a : ChipD} {k : Int} (h : dChip.Ow H v a) (hd : (dChip.ids v).Nodup) (hk : 0 ≤ k ∧ k ≤ 576460752303423488) (hf : ∀ i ∈ dChip.ids v, frz ≤ i) :
    wp (vcall C frz 12 [dChip.val v a, .int .i64 k] H) (Marks 9007199254740992 dChip 13 H v a k) := by
  have oneA := dChip_one h
  obtain ⟨v1, v2⟩ := v
  obtain ⟨⟨⟨w, g, b⟩, r2, r3, r4, r5, r6, r7, tm⟩, a2⟩ := a
  obtain ⟨h1, h2⟩ := h
  have ones := oneA.1
  have one2 := oneA.2
  simp only at h1 h2 ones one2
  rw [dChip_val]
  rw [vcall_go (fn := Tryz.f12) Tryz.func12 rfl (by kernel_rfl) rfl]
  have rest7 : dChip.ids (v1, v2) = dNet.ids v1 ++ dPk.ids v2 := rfl
  rw [rest7] at hd hf
  obtain ⟨d1, d2, x1⟩ := List.nodup_append.1 hd
  have z2_1 : ∀ i ∈ dPk.ids v2, i ∉ dNet.ids v1 := fun i hi hh => x1 i hh i hi rfl
  have z1_2 : ∀ i ∈ dNet.ids v1, i ∉ dPk.ids v2 := fun i hh hi => x1 i hh i hi rfl
  have lt1 := dNet.lt h1
  have lt2 := dPk.lt h2
  simp [ones, one2]
  obtain ⟨G0, hG0⟩ : ∃ G, G = H ++ [⟨[.int .i64 w, .int .i64 g, v1.1, v1.2.1.1, v1.2.1.2, v1.2.2.1.1, v1.2.2.2.1, v1.2.2.2.2.1, v1.2.2.2.2.2.1.1, v1.2.2.2.2.2.2.1.1, .int .i64 tm, v2], 0, 49⟩] := ⟨_, rfl⟩
  have b0 : G0[H.length]? = some ⟨[.int .i64 w, .int .i64 g, v1.1, v1.2.1.1, v1.2.1.2, v1.2.2.1.1, v1.2.2.2.1, v1.2.2.2.2.1, v1.2.2.2.2.2.1.1, v1.2.2.2.2.2.2.1.1, .int .i64 tm, v2], 0, 49⟩ := by rw [hG0]; simp
  have cH : Chg H G0 (dChip.ids (v1, v2)) := by rw [hG0]; exact Chg.app _
  have h1 := (by rw [hG0]; exact Dt.app (T := dNet) h1 : dNet.Ow G0 v1 ((w, g, b), r2, r3, r4, r5, r6, r7, tm))
  have h2 := (by rw [hG0]; exact Dt.app (T := dPk) h2 : dPk.Ow G0 v2 a2)
  rw [← hG0]
  clear hG0
  have m1 := markNet_d (frz := frz) (k := k) h1 d1 (by omega) (fun i hi => hf i (List.mem_append.2 (.inl hi)))
  simp only [dNet_val] at m1
  refine wp_thn m1 ?_
  rintro _ G1 ⟨n1, a1', rfl, hn1, hv1, o1, c1, he1⟩
  clear m1
  have b0 := box_chg b0 c1 (fun hh => by have := lt1 _ hh; omega)
  have h2 := Dt.chg (T := dPk) h2 c1 z2_1
  have cH := cH.trans (c1.mono (fun i hi => List.mem_append.2 (.inl hi)))
  have m2 := markPk_d (frz := frz) (k := k + n1) h2 d2 (by omega) (fun i hi => hf i (List.mem_append.2 (.inr hi)))
  simp [VM.look, b0, ones, one2]
  refine wp_thn m2 ?_
  rintro _ G2 ⟨n2, a2', rfl, hn2, hv2, o2, c2, he2⟩
  clear m2
  have o1 := Dt.chg (T := dNet) o1 c2 z1_2
  have cH := cH.trans (c2.mono (fun i hi => List.mem_append.2 (.inr hi)))
  simp
  obtain ⟨⟨w', g', b'⟩, s2, s3, s4, s5, s6, s7, tm'⟩ := a1'
  obtain ⟨e1, e2, e3⟩ : w' = w ∧ g' = g ∧ tm' = tm := by simpa [dNet_val] using hv1
  subst e1 e2 e3
  refine ⟨n1 + n2, (((w', g', b'), s2, s3, s4, s5, s6, s7, tm'), a2'), by congr 1; omega, by omega, by rw [dChip_val, dChip_val], ⟨o1, o2⟩, cH, fun F H3 q => ?_⟩
  obtain ⟨p1, p2⟩ := q
  simp only at p1 p2
  rw [dChip_val]
  rw [vcall_go (fn := Tryz.f13) Tryz.func13 rfl (by kernel_rfl) rfl]
  have y1 := fun F => he1 F (H3 ++ [⟨[.int .i64 w', .int .i64 g', v1.1, v1.2.1.1, v1.2.1.2, v1.2.2.1.1, v1.2.2.2.1, v1.2.2.2.2.1, v1.2.2.2.2.2.1.1, v1.2.2.2.2.2.2.1.1, .int .i64 tm', v2], 0, 49⟩]) (Dt.app (T := dNet) p1)
  simp only [dNet_val] at y1
  have f1 : ¬ k + n1 < 0 := by omega
  have y2 := fun F => he2 F (H3 ++ [⟨[.int .i64 w', .int .i64 g', v1.1, v1.2.1.1, v1.2.1.2, v1.2.2.1.1, v1.2.2.2.1, v1.2.2.2.2.1, v1.2.2.2.2.2.1.1, v1.2.2.2.2.2.2.1.1, .int .i64 tm', v2], 0, 49⟩]) (Dt.app (T := dPk) p2)
  simp only [show ∀ (v : Value) (a : List PkD), dPk.val v a = v from fun _ _ => rfl] at y2
  have f2 : ¬ k + n1 + n2 < 0 := by omega
  simp [ones, one2, y1, f1]
  simp [ones, one2, y2, f2]
  omega
end Go.Proofs.YtcigpclbhfkgaaaGreat.V
/-! The law FnExactChipRun. -/
set_option linter.all false
namespace Go.Proofs.YtcigpclbhfkgaaaGreat.V
open Go Go.VM Go.Proofs
set_option maxRecDepth 10000
variable {frz : Nat} {H : Heap}
theorem law_FnExactChipRun_w {a0_0 : Int} {a0_1 : Int} {a0_2 : List (Int)} {u0_2 : Value} {a0_3 : List (Int)} {u0_3 : Value} {a0_4 : List (Int)} {u0_4 : Value} {a0_5 : List (List (Int × Int × Int × Bool × Bool))} {u0_5 : Value} {a0_6 : List (Int)} {u0_6 : Value} {a0_7 : List (Int)} {u0_7 : Value} {a0_8 : List (List (Int × Int × Int × Bool × Bool))} {u0_8 : Value} {a0_9 : List (List (Int × Int × Int × Bool × Bool))} {u0_9 : Value} {a0_10 : Int} {a0_11 : List (Int × Int × Int × Int × Int)} {u0_11 : Value} {a1 : Int} (s0_2 : IsS (Kn.int .i64) H u0_2 a0_2) (s0_3 : IsS (Kn.int .i64) H u0_3 a0_3) (s0_4 : IsS (Kn.int .i64) H u0_4 a0_4) (s0_5 : IsS (Kn.slice (Kn.pair (Kn.int .i64) (Kn.pair (Kn.int .i64) (Kn.pair (Kn.int .i64) (Kn.pair Kn.bool Kn.bool))))) H u0_5 a0_5) (s0_6 : IsS (Kn.int .i64) H u0_6 a0_6) (s0_7 : IsS (Kn.int .i64) H u0_7 a0_7) (s0_8 : IsS (Kn.slice (Kn.pair (Kn.int .i64) (Kn.pair (Kn.int .i64) (Kn.pair (Kn.int .i64) (Kn.pair Kn.bool Kn.bool))))) H u0_8 a0_8) (s0_9 : IsS (Kn.slice (Kn.pair (Kn.int .i64) (Kn.pair (Kn.int .i64) (Kn.pair (Kn.int .i64) (Kn.pair Kn.bool Kn.bool))))) H u0_9 a0_9) (s0_11 : IsS (Kn.pair (Kn.int .i64) (Kn.pair (Kn.int .i64) (Kn.pair (Kn.int .i64) (Kn.pair (Kn.int .i64) (Kn.int .i64))))) H u0_11 a0_11)
    (w0 : (((((Lit.int .i64 a0_0).wf = true) ∧ ((Lit.int .i64 a0_1).wf = true)) ∧ (a0_2.length ≤ maxLen ∧ ∀ x1 ∈ a0_2, (Lit.int .i64 x1).wf = true)) ∧ (((a0_3.length ≤ maxLen ∧ ∀ x2 ∈ a0_3, (Lit.int .i64 x2).wf = true)) ∧ ((a0_4.length ≤ maxLen ∧ ∀ x3 ∈ a0_4, (Lit.int .i64 x3).wf = true))) ∧ (a0_5.length ≤ maxLen ∧ ∀ x4 ∈ a0_5, x4.length ≤ maxLen ∧ ∀ x5 ∈ x4, ((Lit.int .i64 x5.1).wf = true) ∧ ((Lit.int .i64 x5.2.1).wf = true) ∧ ((Lit.int .i64 x5.2.2.1).wf = true) ∧ (True) ∧ (True)) ∧ (a0_6.length ≤ maxLen ∧ ∀ x6 ∈ a0_6, (Lit.int .i64 x6).wf = true) ∧ (a0_7.length ≤ maxLen ∧ ∀ x7 ∈ a0_7, (Lit.int .i64 x7).wf = true) ∧ (a0_8.length ≤ maxLen ∧ ∀ x8 ∈ a0_8, x8.length ≤ maxLen ∧ ∀ x9 ∈ x8, ((Lit.int .i64 x9.1).wf = true) ∧ ((Lit.int .i64 x9.2.1).wf = true) ∧ ((Lit.int .i64 x9.2.2.1).wf = true) ∧ (True) ∧ (True)) ∧ (a0_9.length ≤ maxLen ∧ ∀ x10 ∈ a0_9, x10.length ≤ maxLen ∧ ∀ x11 ∈ x10, ((Lit.int .i64 x11.1).wf = true) ∧ ((Lit.int .i64 x11.2.1).wf = true) ∧ ((Lit.int .i64 x11.2.2.1).wf = true) ∧ (True) ∧ (True)) ∧ ((Lit.int .i64 a0_10).wf = true)) ∧ (a0_11.length ≤ maxLen ∧ ∀ x12 ∈ a0_11, ((Lit.int .i64 x12.1).wf = true) ∧ ((Lit.int .i64 x12.2.1).wf = true) ∧ ((Lit.int .i64 x12.2.2.1).wf = true) ∧ ((Lit.int .i64 x12.2.2.2.1).wf = true) ∧ ((Lit.int .i64 x12.2.2.2.2).wf = true))) (w1 : (Lit.int .i64 a1).wf = true) :
    wp (vcall C frz 4 [.agg #[.int .i64 a0_0, .int .i64 a0_1, u0_2, u0_3, u0_4, u0_5, u0_6, u0_7, u0_8, u0_9, .int .i64 a0_10, u0_11], .int .i64 a1] H) (fun r _ => r = .bool true) := by
  have r0_2 := s0_2.ints.rd
  have r0_3 := s0_3.ints.rd
  have r0_4 := s0_4.ints.rd
  obtain ⟨h0_5, r0_5⟩ := IsS.rdL_of (fun hh => IsS.rd_of rfl knF_is hh) s0_5
  have r0_6 := s0_6.ints.rd
  have r0_7 := s0_7.ints.rd
  obtain ⟨h0_8, r0_8⟩ := IsS.rdL_of (fun hh => IsS.rd_of rfl knF_is hh) s0_8
  obtain ⟨h0_9, r0_9⟩ := IsS.rdL_of (fun hh => IsS.rd_of rfl knF_is hh) s0_9
  have r0_11 := IsS.rd_of (D := pkF) rfl knP_is s0_11
  have rl0_2 := fun (L : Heap) => (Rd.app (L := L) r0_2).len (P := Tryz.prog) (ty := 24) (by simp)
  have rm0_2 := r0_2.len (P := Tryz.prog) (ty := 24) (by simp)
  have rl0_3 := fun (L : Heap) => (Rd.app (L := L) r0_3).len (P := Tryz.prog) (ty := 24) (by simp)
  have rm0_3 := r0_3.len (P := Tryz.prog) (ty := 24) (by simp)
  have rl0_4 := fun (L : Heap) => (Rd.app (L := L) r0_4).len (P := Tryz.prog) (ty := 24) (by simp)
  have rm0_4 := r0_4.len (P := Tryz.prog) (ty := 24) (by simp)
  have rl0_6 := fun (L : Heap) => (Rd.app (L := L) r0_6).len (P := Tryz.prog) (ty := 24) (by simp)
  have rm0_6 := r0_6.len (P := Tryz.prog) (ty := 24) (by simp)
  have rl0_7 := fun (L : Heap) => (Rd.app (L := L) r0_7).len (P := Tryz.prog) (ty := 24) (by simp)
  have rm0_7 := r0_7.len (P := Tryz.prog) (ty := 24) (by simp)
  have rl0_11 := fun (L : Heap) => (Rd.app (L := L) r0_11).len (P := Tryz.prog) (ty := 34) (by simp)
  have rm0_11 := r0_11.len (P := Tryz.prog) (ty := 34) (by simp)
  rw [vcall_go (fn := Tryz.f4) Tryz.func4 rfl (by kernel_rfl) rfl]
  have ro0_2 := And.intro r0_2.one' r0_2.cells
  have ro0_3 := And.intro r0_3.one' r0_3.cells
  have ro0_4 := And.intro r0_4.one' r0_4.cells
  have ro0_5 := And.intro r0_5.1.one' r0_5.1.cells
  have ro0_6 := And.intro r0_6.one' r0_6.cells
  have ro0_7 := And.intro r0_7.one' r0_7.cells
  have ro0_8 := And.intro r0_8.1.one' r0_8.1.cells
  have ro0_9 := And.intro r0_9.1.one' r0_9.1.cells
  have ro0_11 := And.intro r0_11.one' r0_11.cells
  simp [VM.look, ro0_2, rl0_2, rm0_2, ro0_3, rl0_3, rm0_3, ro0_4, rl0_4, rm0_4, ro0_5, ro0_6, rl0_6, rm0_6, ro0_7, rl0_7, rm0_7, ro0_8, ro0_9, ro0_11, rl0_11, rm0_11]
  have sz0 := fun F (L : Heap) => szChip_c (frz := F) (H := H ++ L) a0_0 a0_1 a0_10 1048576 u0_2 u0_3 u0_4 u0_5 u0_6 u0_7 u0_8 u0_9 u0_11 h0_5 h0_8 h0_9 a0_2 a0_3 a0_4 a0_6 a0_7 a0_5 a0_8 a0_9 a0_11 (IsI.rd (Rd.isI (Rd.chg r0_2 ((Chg.refl (H := H) []).trans (Chg.app [])) (by simp)))) (IsI.rd (Rd.isI (Rd.chg r0_3 ((Chg.refl (H := H) []).trans (Chg.app [])) (by simp)))) (IsI.rd (Rd.isI (Rd.chg r0_4 ((Chg.refl (H := H) []).trans (Chg.app [])) (by simp)))) (RdL.chg r0_5 ((Chg.refl (H := H) []).trans (Chg.app [])) (by simp)) (IsI.rd (Rd.isI (Rd.chg r0_6 ((Chg.refl (H := H) []).trans (Chg.app [])) (by simp)))) (IsI.rd (Rd.isI (Rd.chg r0_7 ((Chg.refl (H := H) []).trans (Chg.app [])) (by simp)))) (RdL.chg r0_8 ((Chg.refl (H := H) []).trans (Chg.app [])) (by simp)) (RdL.chg r0_9 ((Chg.refl (H := H) []).trans (Chg.app [])) (by simp)) (Rd.chg r0_11 ((Chg.refl (H := H) []).trans (Chg.app [])) (by simp)) (by have := w0.1.1.2.1; simpa [maxLen] using this) (by have := w0.1.2.1.1.1; simpa [maxLen] using this) (by have := w0.1.2.1.2.1; simpa [maxLen] using this) (by have := w0.1.2.2.1.1; simpa [maxLen] using this) (fun x hx => by have := (w0.1.2.2.1.2 x hx).1; simpa [maxLen] using this) (by have := w0.1.2.2.2.1.1; simpa [maxLen] using this) (by have := w0.1.2.2.2.2.1.1; simpa [maxLen] using this) (by have := w0.1.2.2.2.2.2.1.1; simpa [maxLen] using this) (fun x hx => by have := (w0.1.2.2.2.2.2.1.2 x hx).1; simpa [maxLen] using this) (by have := w0.1.2.2.2.2.2.2.1.1; simpa [maxLen] using this) (fun x hx => by have := (w0.1.2.2.2.2.2.2.1.2 x hx).1; simpa [maxLen] using this) (by have := w0.2.1; simpa [maxLen] using this) (by omega) (by omega)
  simp [VM.look, ro0_2, rl0_2, rm0_2, ro0_3, rl0_3, rm0_3, ro0_4, rl0_4, rm0_4, ro0_5, ro0_6, rl0_6, rm0_6, ro0_7, rl0_7, rm0_7, ro0_8, ro0_9, ro0_11, rl0_11, rm0_11, sz0]
  refine wp_dec ?_ ?_ <;> intro g1 <;> simp [g1]
  have t0 : (a0_2.length : Int) + ((a0_3.length : Int) + (a0_4.length : Int)) + (tot a0_5 : Int) + (a0_6.length : Int) + (a0_7.length : Int) + (tot a0_8 : Int) + (tot a0_9 : Int) + (a0_11.length : Int) ≤ 1048576 := by split at g1 <;> omega
  have f0 : ¬ (1048576 : Int) < (a0_2.length : Int) + ((a0_3.length : Int) + (a0_4.length : Int)) + (tot a0_5 : Int) + (a0_6.length : Int) + (a0_7.length : Int) + (tot a0_8 : Int) + (tot a0_9 : Int) + (a0_11.length : Int) := by omega
  simp only [if_neg f0]
  try simp [VM.look, ro0_2, rl0_2, rm0_2, ro0_3, rl0_3, rm0_3, ro0_4, rl0_4, rm0_4, ro0_5, ro0_6, rl0_6, rm0_6, ro0_7, rl0_7, rm0_7, ro0_8, ro0_9, ro0_11, rl0_11, rm0_11, f0]
  refine wp_thn (toChip_w a0_0 a0_1 a0_10 u0_2 u0_3 u0_4 u0_5 u0_6 u0_7 u0_8 u0_9 u0_11 h0_5 h0_8 h0_9 a0_2 a0_3 a0_4 a0_6 a0_7 a0_5 a0_8 a0_9 a0_11 (IsI.rd (Rd.isI (Rd.chg r0_2 ((Chg.refl (H := H) []).trans (Chg.app [])) (by simp)))) (IsI.rd (Rd.isI (Rd.chg r0_3 ((Chg.refl (H := H) []).trans (Chg.app [])) (by simp)))) (IsI.rd (Rd.isI (Rd.chg r0_4 ((Chg.refl (H := H) []).trans (Chg.app [])) (by simp)))) (RdL.chg r0_5 ((Chg.refl (H := H) []).trans (Chg.app [])) (by simp)) (IsI.rd (Rd.isI (Rd.chg r0_6 ((Chg.refl (H := H) []).trans (Chg.app [])) (by simp)))) (IsI.rd (Rd.isI (Rd.chg r0_7 ((Chg.refl (H := H) []).trans (Chg.app [])) (by simp)))) (RdL.chg r0_8 ((Chg.refl (H := H) []).trans (Chg.app [])) (by simp)) (RdL.chg r0_9 ((Chg.refl (H := H) []).trans (Chg.app [])) (by simp)) (Rd.chg r0_11 ((Chg.refl (H := H) []).trans (Chg.app [])) (by simp)) (by omega) (by omega) (by omega) (by have := tot_len a0_5; omega) (fun x hx => by have := tot_in a0_5 x hx; omega) (by omega) (by omega) (by have := tot_len a0_8; omega) (fun x hx => by have := tot_in a0_8 x hx; omega) (by have := tot_len a0_9; omega) (fun x hx => by have := tot_in a0_9 x hx; omega) (by omega)) ?_
  rintro _ H1 ⟨v_x0, rfl, o_x0, c1, n_x0, d_x0⟩
  have l1 := c1.1
  try simp at l1
  have b1_2 := box_chg ((app_get0 _ _).trans rfl) c1 (by simp)
  have cH1 : Chg H H1 [] := ((Chg.refl (H := H) []).trans (Chg.app [])).trans c1
  have h_x0 := dChip.lt o_x0
  try simp at n_x0
  have one_x0 := dChip_one o_x0
  simp [VM.look, b1_2, get_app' b1_2, cH1.1, Nat.le_add_right_of_le cH1.1, one_x0, ro0_2, ro0_3, ro0_4, ro0_5, ro0_6, ro0_7, ro0_8, ro0_9, ro0_11, dChip_val, f0]
  have ex2 := sChipRun_d (frz := H.length) (H := H1) (k := a1) o_x0 (fun x hx => by have := tot_in a0_9 x hx; omega)
  try simp only [dChip_val] at ex2
  refine wp_thn ex2 ?_
  rintro _ H2 ⟨_, rfl, v_w1, rfl, o_w1, c2, n_w1, d_w1⟩
  clear ex2
  have l2 := c2.1
  try simp at l2
  have b2_2 := box_chg b1_2 c2 (by simp)
  have o2_x0 := Dt.chg0 o_x0 c2
  have cH2 : Chg H H2 [] := (cH1).trans c2
  have h_w1 := dChip.lt o_w1
  try simp at n_w1
  have one_w1 := dChip_one o_w1
  simp [VM.look, b2_2, get_app' b2_2, cH2.1, Nat.le_add_right_of_le cH2.1, one_x0, one_w1, ro0_2, ro0_3, ro0_4, ro0_5, ro0_6, ro0_7, ro0_8, ro0_9, ro0_11, dChip_val, f0]
  refine wp_thn (toChip_w a0_0 a0_1 a0_10 u0_2 u0_3 u0_4 u0_5 u0_6 u0_7 u0_8 u0_9 u0_11 h0_5 h0_8 h0_9 a0_2 a0_3 a0_4 a0_6 a0_7 a0_5 a0_8 a0_9 a0_11 (IsI.rd (Rd.isI (Rd.chg r0_2 (cH2.trans (Chg.app [])) (by simp)))) (IsI.rd (Rd.isI (Rd.chg r0_3 (cH2.trans (Chg.app [])) (by simp)))) (IsI.rd (Rd.isI (Rd.chg r0_4 (cH2.trans (Chg.app [])) (by simp)))) (RdL.chg r0_5 (cH2.trans (Chg.app [])) (by simp)) (IsI.rd (Rd.isI (Rd.chg r0_6 (cH2.trans (Chg.app [])) (by simp)))) (IsI.rd (Rd.isI (Rd.chg r0_7 (cH2.trans (Chg.app [])) (by simp)))) (RdL.chg r0_8 (cH2.trans (Chg.app [])) (by simp)) (RdL.chg r0_9 (cH2.trans (Chg.app [])) (by simp)) (Rd.chg r0_11 (cH2.trans (Chg.app [])) (by simp)) (by omega) (by omega) (by omega) (by have := tot_len a0_5; omega) (fun x hx => by have := tot_in a0_5 x hx; omega) (by omega) (by omega) (by have := tot_len a0_8; omega) (fun x hx => by have := tot_in a0_8 x hx; omega) (by have := tot_len a0_9; omega) (fun x hx => by have := tot_in a0_9 x hx; omega) (by omega)) ?_
  rintro _ H3 ⟨v_x2, rfl, o_x2, c3, n_x2, d_x2⟩
  have l3 := c3.1
  try simp at l3
  have b3_6 := box_chg ((app_get0 _ _).trans rfl) c3 (by simp)
  have b3_2 := box_chg (get_app' b2_2 _) c3 (by simp)
  have o3_x0 := Dt.chg0 (Dt.app o2_x0) c3
  have o3_w1 := Dt.chg0 (Dt.app o_w1) c3
  have cH3 : Chg H H3 [] := (cH2.trans (Chg.app [])).trans c3
  have h_x2 := dChip.lt o_x2
  try simp at n_x2
  have one_x2 := dChip_one o_x2
  simp [VM.look, b3_2, b3_6, get_app' b3_2, get_app' b3_6, cH3.1, Nat.le_add_right_of_le cH3.1, one_x0, one_w1, one_x2, ro0_2, ro0_3, ro0_4, ro0_5, ro0_6, ro0_7, ro0_8, ro0_9, ro0_11, dChip_val, f0]
  have ex4 := fun (L : Heap) => chipRun_d (frz := H.length) (H := H3 ++ L) (k := a1) (Dt.app o_x2) (fun x hx => by have := tot_in a0_9 x hx; omega)
  try simp only [dChip_val] at ex4
  refine wp_thn (ex4 _) ?_
  rintro _ H4 ⟨_, rfl, v_g3, rfl, o_g3, c4, n_g3, d_g3⟩
  clear ex4
  have l4 := c4.1
  try simp at l4
  have b4_8 := box_chg ((app_get0 _ _).trans rfl) c4 (by simp)
  have b4_2 := box_chg (get_app' b3_2 _) c4 (by simp)
  have b4_6 := box_chg (get_app' b3_6 _) c4 (by simp)
  have o4_x0 := Dt.chg0 (Dt.app o3_x0) c4
  have o4_w1 := Dt.chg0 (Dt.app o3_w1) c4
  have o4_x2 := Dt.chg0 (Dt.app o_x2) c4
  have cH4 : Chg H H4 [] := (cH3.trans (Chg.app [])).trans c4
  have h_g3 := dChip.lt o_g3
  try simp at n_g3
  have one_g3 := dChip_one o_g3
  simp [VM.look, b4_2, b4_6, b4_8, get_app' b4_2, get_app' b4_6, get_app' b4_8, cH4.1, Nat.le_add_right_of_le cH4.1, one_x0, one_w1, one_x2, one_g3, ro0_2, ro0_3, ro0_4, ro0_5, ro0_6, ro0_7, ro0_8, ro0_9, ro0_11, dChip_val, f0]
  have eq5 := fun F (L : Heap) => eqChip_d (frz := F) (H := H4 ++ L) (Dt.app o_g3) (Dt.app o4_w1)
  try simp only [dChip_val] at eq5
  simp [eq5, VM.look, b4_2, b4_6, b4_8, get_app' b4_2, get_app' b4_6, get_app' b4_8, cH4.1, Nat.le_add_right_of_le cH4.1, one_x0, one_w1, one_x2, one_g3, ro0_2, ro0_3, ro0_4, ro0_5, ro0_6, ro0_7, ro0_8, ro0_9, ro0_11, dChip_val, f0]
  rw [go_draw (h := by kernel_rfl)]
  simp [VM.look, b4_2, b4_6, b4_8, get_app' b4_2, get_app' b4_6, get_app' b4_8, cH4.1, Nat.le_add_right_of_le cH4.1, one_x0, one_w1, one_x2, one_g3, ro0_2, ro0_3, ro0_4, ro0_5, ro0_6, ro0_7, ro0_8, ro0_9, ro0_11, dChip_val, f0]
  refine wp_thn (toChip_w a0_0 a0_1 a0_10 u0_2 u0_3 u0_4 u0_5 u0_6 u0_7 u0_8 u0_9 u0_11 h0_5 h0_8 h0_9 a0_2 a0_3 a0_4 a0_6 a0_7 a0_5 a0_8 a0_9 a0_11 (IsI.rd (Rd.isI (Rd.chg r0_2 (cH4.trans (Chg.app [])) (by simp)))) (IsI.rd (Rd.isI (Rd.chg r0_3 (cH4.trans (Chg.app [])) (by simp)))) (IsI.rd (Rd.isI (Rd.chg r0_4 (cH4.trans (Chg.app [])) (by simp)))) (RdL.chg r0_5 (cH4.trans (Chg.app [])) (by simp)) (IsI.rd (Rd.isI (Rd.chg r0_6 (cH4.trans (Chg.app [])) (by simp)))) (IsI.rd (Rd.isI (Rd.chg r0_7 (cH4.trans (Chg.app [])) (by simp)))) (RdL.chg r0_8 (cH4.trans (Chg.app [])) (by simp)) (RdL.chg r0_9 (cH4.trans (Chg.app [])) (by simp)) (Rd.chg r0_11 (cH4.trans (Chg.app [])) (by simp)) (by omega) (by omega) (by omega) (by have := tot_len a0_5; omega) (fun x hx => by have := tot_in a0_5 x hx; omega) (by omega) (by omega) (by have := tot_len a0_8; omega) (fun x hx => by have := tot_in a0_8 x hx; omega) (by have := tot_len a0_9; omega) (fun x hx => by have := tot_in a0_9 x hx; omega) (by omega)) ?_
  rintro _ H6 ⟨v_x4, rfl, o_x4, c6, n_x4, d_x4⟩
  have l6 := c6.1
  try simp at l6
  have b6_9 := box_chg ((app_get0 _ _).trans rfl) c6 (by simp)
  have b6_2 := box_chg (get_app' b4_2 _) c6 (by simp)
  have b6_6 := box_chg (get_app' b4_6 _) c6 (by simp)
  have b6_8 := box_chg (get_app' b4_8 _) c6 (by simp)
  have o6_x0 := Dt.chg0 (Dt.app o4_x0) c6
  have o6_w1 := Dt.chg0 (Dt.app o4_w1) c6
  have o6_x2 := Dt.chg0 (Dt.app o4_x2) c6
  have o6_g3 := Dt.chg0 (Dt.app o_g3) c6
  have cH6 : Chg H H6 [] := (cH4.trans (Chg.app [])).trans c6
  have h_x4 := dChip.lt o_x4
  try simp at n_x4
  have one_x4 := dChip_one o_x4
  simp [VM.look, b6_2, b6_6, b6_8, b6_9, get_app' b6_2, get_app' b6_6, get_app' b6_8, get_app' b6_9, cH6.1, Nat.le_add_right_of_le cH6.1, one_x0, one_w1, one_x2, one_g3, one_x4, ro0_2, ro0_3, ro0_4, ro0_5, ro0_6, ro0_7, ro0_8, ro0_9, ro0_11, dChip_val, f0]
  have eq7 := fun F => eqChip_d (frz := F) (H := H6) o6_x2 o_x4
  try simp only [dChip_val] at eq7
  simp [eq7, VM.look, b6_2, b6_6, b6_8, b6_9, get_app' b6_2, get_app' b6_6, get_app' b6_8, get_app' b6_9, cH6.1, Nat.le_add_right_of_le cH6.1, one_x0, one_w1, one_x2, one_g3, one_x4, ro0_2, ro0_3, ro0_4, ro0_5, ro0_6, ro0_7, ro0_8, ro0_9, ro0_11, dChip_val, f0]
  have mk8 := markChip_d (frz := H.length) (H := H6) (k := 1) o6_x2 d_x2 (by omega) (fun i hi => by have := n_x2 i hi; have := cH6.1; omega)
  try simp only [dChip_val] at mk8
  refine wp_thn mk8 ?_
  rintro _ H8 ⟨m8, a_x2, rfl, hm8, hv8, o8_x2, c8, he8⟩
  clear mk8
  have l8 := c8.1
  try simp at l8
  have b8_2 := box_chg b6_2 c8 (fun hh => by have := n_x2 _ hh; have := h_x2 _ hh; omega)
  have b8_6 := box_chg b6_6 c8 (fun hh => by have := n_x2 _ hh; have := h_x2 _ hh; omega)
  have b8_8 := box_chg b6_8 c8 (fun hh => by have := n_x2 _ hh; have := h_x2 _ hh; omega)
  have b8_9 := box_chg b6_9 c8 (fun hh => by have := n_x2 _ hh; have := h_x2 _ hh; omega)
  have o8_x0 := Dt.chg o6_x0 c8 (fun i hi hh => by have := n_x0 i hi; have := h_x0 i hi; have := n_x2 i hh; have := h_x2 i hh; omega)
  have o8_w1 := Dt.chg o6_w1 c8 (fun i hi hh => by have := n_w1 i hi; have := h_w1 i hi; have := n_x2 i hh; have := h_x2 i hh; omega)
  have o8_g3 := Dt.chg o6_g3 c8 (fun i hi hh => by have := n_g3 i hi; have := h_g3 i hi; have := n_x2 i hh; have := h_x2 i hh; omega)
  have o8_x4 := Dt.chg o_x4 c8 (fun i hi hh => by have := n_x4 i hi; have := h_x4 i hi; have := n_x2 i hh; have := h_x2 i hh; omega)
  have cH8 : Chg H H8 [] := (cH6).trans' c8 (fun i hi => .inr (by have := n_x2 i hi; have := cH6.1; omega))
  try simp only [hv8, dChip_val] at he8
  have fl8 : ¬ (1 + m8 < 0) := by omega
  simp [VM.look, b8_2, b8_6, b8_8, b8_9, get_app' b8_2, get_app' b8_6, get_app' b8_8, get_app' b8_9, cH8.1, Nat.le_add_right_of_le cH8.1, one_x0, one_w1, one_x2, one_g3, one_x4, ro0_2, ro0_3, ro0_4, ro0_5, ro0_6, ro0_7, ro0_8, ro0_9, ro0_11, dChip_val, f0, fl8]
  have eq9 := fun F => eqChip_d (frz := F) (H := H8) o8_g3 o8_w1
  try simp only [dChip_val] at eq9
  simp [eq9, VM.look, b8_2, b8_6, b8_8, b8_9, get_app' b8_2, get_app' b8_6, get_app' b8_8, get_app' b8_9, cH8.1, Nat.le_add_right_of_le cH8.1, one_x0, one_w1, one_x2, one_g3, one_x4, ro0_2, ro0_3, ro0_4, ro0_5, ro0_6, ro0_7, ro0_8, ro0_9, ro0_11, dChip_val, f0, fl8]
  have mk10 := markChip_d (frz := H.length) (H := H8) (k := 1) o8_g3 d_g3 (by omega) (fun i hi => by have := n_g3 i hi; have := cH8.1; omega)
  try simp only [dChip_val] at mk10
  refine wp_thn mk10 ?_
  rintro _ H10 ⟨m10, a_g3, rfl, hm10, hv10, o10_g3, c10, he10⟩
  clear mk10
  have l10 := c10.1
  try simp at l10
  have b10_2 := box_chg b8_2 c10 (fun hh => by have := n_g3 _ hh; have := h_g3 _ hh; omega)
  have b10_6 := box_chg b8_6 c10 (fun hh => by have := n_g3 _ hh; have := h_g3 _ hh; omega)
  have b10_8 := box_chg b8_8 c10 (fun hh => by have := n_g3 _ hh; have := h_g3 _ hh; omega)
  have b10_9 := box_chg b8_9 c10 (fun hh => by have := n_g3 _ hh; have := h_g3 _ hh; omega)
  have o10_x0 := Dt.chg o8_x0 c10 (fun i hi hh => by have := n_x0 i hi; have := h_x0 i hi; have := n_g3 i hh; have := h_g3 i hh; omega)
  have o10_w1 := Dt.chg o8_w1 c10 (fun i hi hh => by have := n_w1 i hi; have := h_w1 i hi; have := n_g3 i hh; have := h_g3 i hh; omega)
  have o10_x2 := Dt.chg o8_x2 c10 (fun i hi hh => by have := n_x2 i hi; have := h_x2 i hi; have := n_g3 i hh; have := h_g3 i hh; omega)
  have o10_x4 := Dt.chg o8_x4 c10 (fun i hi hh => by have := n_x4 i hi; have := h_x4 i hi; have := n_g3 i hh; have := h_g3 i hh; omega)
  have cH10 : Chg H H10 [] := (cH8).trans' c10 (fun i hi => .inr (by have := n_g3 i hi; have := cH8.1; omega))
  try simp only [hv10, dChip_val] at he10
  have fl10 : ¬ (1 + m10 < 0) := by omega
  simp [VM.look, b10_2, b10_6, b10_8, b10_9, get_app' b10_2, get_app' b10_6, get_app' b10_8, get_app' b10_9, cH10.1, Nat.le_add_right_of_le cH10.1, one_x0, one_w1, one_x2, one_g3, one_x4, ro0_2, ro0_3, ro0_4, ro0_5, ro0_6, ro0_7, ro0_8, ro0_9, ro0_11, dChip_val, f0, fl8, fl10]
  have hd11 := fun F => he10 F _ o10_g3
  simp [hd11, VM.look, b10_2, b10_6, b10_8, b10_9, get_app' b10_2, get_app' b10_6, get_app' b10_8, get_app' b10_9, cH10.1, Nat.le_add_right_of_le cH10.1, one_x0, one_w1, one_x2, one_g3, one_x4, ro0_2, ro0_3, ro0_4, ro0_5, ro0_6, ro0_7, ro0_8, ro0_9, ro0_11, dChip_val, f0, fl8, fl10]
  refine wp_thn (toChip_w a0_0 a0_1 a0_10 u0_2 u0_3 u0_4 u0_5 u0_6 u0_7 u0_8 u0_9 u0_11 h0_5 h0_8 h0_9 a0_2 a0_3 a0_4 a0_6 a0_7 a0_5 a0_8 a0_9 a0_11 (IsI.rd (Rd.isI (Rd.chg r0_2 cH10 (by simp)))) (IsI.rd (Rd.isI (Rd.chg r0_3 cH10 (by simp)))) (IsI.rd (Rd.isI (Rd.chg r0_4 cH10 (by simp)))) (RdL.chg r0_5 cH10 (by simp)) (IsI.rd (Rd.isI (Rd.chg r0_6 cH10 (by simp)))) (IsI.rd (Rd.isI (Rd.chg r0_7 cH10 (by simp)))) (RdL.chg r0_8 cH10 (by simp)) (RdL.chg r0_9 cH10 (by simp)) (Rd.chg r0_11 cH10 (by simp)) (by omega) (by omega) (by omega) (by have := tot_len a0_5; omega) (fun x hx => by have := tot_in a0_5 x hx; omega) (by omega) (by omega) (by have := tot_len a0_8; omega) (fun x hx => by have := tot_in a0_8 x hx; omega) (by have := tot_len a0_9; omega) (fun x hx => by have := tot_in a0_9 x hx; omega) (by omega)) ?_
  rintro _ H12 ⟨v_x5, rfl, o_x5, c12, n_x5, d_x5⟩
  have l12 := c12.1
  try simp at l12
  have b12_2 := box_chg b10_2 c12 (by simp)
  have b12_6 := box_chg b10_6 c12 (by simp)
  have b12_8 := box_chg b10_8 c12 (by simp)
  have b12_9 := box_chg b10_9 c12 (by simp)
  have o12_x0 := Dt.chg0 o10_x0 c12
  have o12_w1 := Dt.chg0 o10_w1 c12
  have o12_x2 := Dt.chg0 o10_x2 c12
  have o12_g3 := Dt.chg0 o10_g3 c12
  have o12_x4 := Dt.chg0 o10_x4 c12
  have cH12 : Chg H H12 [] := (cH10).trans c12
  have h_x5 := dChip.lt o_x5
  try simp at n_x5
  have one_x5 := dChip_one o_x5
  simp [VM.look, b12_2, b12_6, b12_8, b12_9, get_app' b12_2, get_app' b12_6, get_app' b12_8, get_app' b12_9, cH12.1, Nat.le_add_right_of_le cH12.1, one_x0, one_w1, one_x2, one_g3, one_x4, one_x5, ro0_2, ro0_3, ro0_4, ro0_5, ro0_6, ro0_7, ro0_8, ro0_9, ro0_11, dChip_val, f0, fl8, fl10]
  have ex13 := chipRun_d (frz := H.length) (H := H12) (k := a1) o_x5 (fun x hx => by have := tot_in a0_9 x hx; omega)
  try simp only [dChip_val] at ex13
  refine wp_thn ex13 ?_
  rintro _ H13 ⟨_, rfl, v_g6, rfl, o_g6, c13, n_g6, d_g6⟩
  clear ex13
  have l13 := c13.1
  try simp at l13
  have b13_2 := box_chg b12_2 c13 (by simp)
  have b13_6 := box_chg b12_6 c13 (by simp)
  have b13_8 := box_chg b12_8 c13 (by simp)
  have b13_9 := box_chg b12_9 c13 (by simp)
  have o13_x0 := Dt.chg0 o12_x0 c13
  have o13_w1 := Dt.chg0 o12_w1 c13
  have o13_x2 := Dt.chg0 o12_x2 c13
  have o13_g3 := Dt.chg0 o12_g3 c13
  have o13_x4 := Dt.chg0 o12_x4 c13
  have o13_x5 := Dt.chg0 o_x5 c13
  have cH13 : Chg H H13 [] := (cH12).trans c13
  have h_g6 := dChip.lt o_g6
  try simp at n_g6
  have one_g6 := dChip_one o_g6
  simp [VM.look, b13_2, b13_6, b13_8, b13_9, get_app' b13_2, get_app' b13_6, get_app' b13_8, get_app' b13_9, cH13.1, Nat.le_add_right_of_le cH13.1, one_x0, one_w1, one_x2, one_g3, one_x4, one_x5, one_g6, ro0_2, ro0_3, ro0_4, ro0_5, ro0_6, ro0_7, ro0_8, ro0_9, ro0_11, dChip_val, f0, fl8, fl10]
  have eq14 := fun F (L : Heap) => eqChip_d (frz := F) (H := H13 ++ L) (Dt.app o_g6) (Dt.app o13_w1)
  try simp only [dChip_val] at eq14
  simp [eq14, VM.look, b13_2, b13_6, b13_8, b13_9, get_app' b13_2, get_app' b13_6, get_app' b13_8, get_app' b13_9, cH13.1, Nat.le_add_right_of_le cH13.1, one_x0, one_w1, one_x2, one_g3, one_x4, one_x5, one_g6, ro0_2, ro0_3, ro0_4, ro0_5, ro0_6, ro0_7, ro0_8, ro0_9, ro0_11, dChip_val, f0, fl8, fl10]
  have hd15 := fun F (L : Heap) => he10 F (H13 ++ L) (Dt.app o13_g3)
  simp [hd15, VM.look, b13_2, b13_6, b13_8, b13_9, get_app' b13_2, get_app' b13_6, get_app' b13_8, get_app' b13_9, cH13.1, Nat.le_add_right_of_le cH13.1, one_x0, one_w1, one_x2, one_g3, one_x4, one_x5, one_g6, ro0_2, ro0_3, ro0_4, ro0_5, ro0_6, ro0_7, ro0_8, ro0_9, ro0_11, dChip_val, f0, fl8, fl10]
theorem law_FnExactChipRun {a0_0 : Int} {a0_1 : Int} {a0_2 : List (Int)} {u0_2 : Value} {a0_3 : List (Int)} {u0_3 : Value} {a0_4 : List (Int)} {u0_4 : Value} {a0_5 : List (List (Int × Int × Int × Bool × Bool))} {u0_5 : Value} {a0_6 : List (Int)} {u0_6 : Value} {a0_7 : List (Int)} {u0_7 : Value} {a0_8 : List (List (Int × Int × Int × Bool × Bool))} {u0_8 : Value} {a0_9 : List (List (Int × Int × Int × Bool × Bool))} {u0_9 : Value} {a0_10 : Int} {a0_11 : List (Int × Int × Int × Int × Int)} {u0_11 : Value} {a1 : Int} (s0_2 : IsS (Kn.int .i64) H u0_2 a0_2) (s0_3 : IsS (Kn.int .i64) H u0_3 a0_3) (s0_4 : IsS (Kn.int .i64) H u0_4 a0_4) (s0_5 : IsS (Kn.slice (Kn.pair (Kn.int .i64) (Kn.pair (Kn.int .i64) (Kn.pair (Kn.int .i64) (Kn.pair Kn.bool Kn.bool))))) H u0_5 a0_5) (s0_6 : IsS (Kn.int .i64) H u0_6 a0_6) (s0_7 : IsS (Kn.int .i64) H u0_7 a0_7) (s0_8 : IsS (Kn.slice (Kn.pair (Kn.int .i64) (Kn.pair (Kn.int .i64) (Kn.pair (Kn.int .i64) (Kn.pair Kn.bool Kn.bool))))) H u0_8 a0_8) (s0_9 : IsS (Kn.slice (Kn.pair (Kn.int .i64) (Kn.pair (Kn.int .i64) (Kn.pair (Kn.int .i64) (Kn.pair Kn.bool Kn.bool))))) H u0_9 a0_9) (s0_11 : IsS (Kn.pair (Kn.int .i64) (Kn.pair (Kn.int .i64) (Kn.pair (Kn.int .i64) (Kn.pair (Kn.int .i64) (Kn.int .i64))))) H u0_11 a0_11)
    (w0 : (((((Lit.int .i64 a0_0).wf = true) ∧ ((Lit.int .i64 a0_1).wf = true)) ∧ (a0_2.length ≤ maxLen ∧ ∀ x1 ∈ a0_2, (Lit.int .i64 x1).wf = true)) ∧ (((a0_3.length ≤ maxLen ∧ ∀ x2 ∈ a0_3, (Lit.int .i64 x2).wf = true)) ∧ ((a0_4.length ≤ maxLen ∧ ∀ x3 ∈ a0_4, (Lit.int .i64 x3).wf = true))) ∧ (a0_5.length ≤ maxLen ∧ ∀ x4 ∈ a0_5, x4.length ≤ maxLen ∧ ∀ x5 ∈ x4, ((Lit.int .i64 x5.1).wf = true) ∧ ((Lit.int .i64 x5.2.1).wf = true) ∧ ((Lit.int .i64 x5.2.2.1).wf = true) ∧ (True) ∧ (True)) ∧ (a0_6.length ≤ maxLen ∧ ∀ x6 ∈ a0_6, (Lit.int .i64 x6).wf = true) ∧ (a0_7.length ≤ maxLen ∧ ∀ x7 ∈ a0_7, (Lit.int .i64 x7).wf = true) ∧ (a0_8.length ≤ maxLen ∧ ∀ x8 ∈ a0_8, x8.length ≤ maxLen ∧ ∀ x9 ∈ x8, ((Lit.int .i64 x9.1).wf = true) ∧ ((Lit.int .i64 x9.2.1).wf = true) ∧ ((Lit.int .i64 x9.2.2.1).wf = true) ∧ (True) ∧ (True)) ∧ (a0_9.length ≤ maxLen ∧ ∀ x10 ∈ a0_9, x10.length ≤ maxLen ∧ ∀ x11 ∈ x10, ((Lit.int .i64 x11.1).wf = true) ∧ ((Lit.int .i64 x11.2.1).wf = true) ∧ ((Lit.int .i64 x11.2.2.1).wf = true) ∧ (True) ∧ (True)) ∧ ((Lit.int .i64 a0_10).wf = true)) ∧ (a0_11.length ≤ maxLen ∧ ∀ x12 ∈ a0_11, ((Lit.int .i64 x12.1).wf = true) ∧ ((Lit.int .i64 x12.2.1).wf = true) ∧ ((Lit.int .i64 x12.2.2.1).wf = true) ∧ ((Lit.int .i64 x12.2.2.2.1).wf = true) ∧ ((Lit.int .i64 x12.2.2.2.2).wf = true))) (w1 : (Lit.int .i64 a1).wf = true) :
    vcall C frz 4 [.agg #[.int .i64 a0_0, .int .i64 a0_1, u0_2, u0_3, u0_4, u0_5, u0_6, u0_7, u0_8, u0_9, .int .i64 a0_10, u0_11], .int .i64 a1] H = some (.bool true, H) :=
  (law_FnExactChipRun_w s0_2 s0_3 s0_4 s0_5 s0_6 s0_7 s0_8 s0_9 s0_11 w0 w1).exact (by simp) rfl
end Go.Proofs.YtcigpclbhfkgaaaGreat.V
