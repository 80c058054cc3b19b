import Derived.Test.YtnakhkfgheapoaaVN3
import Derived.Test.YtnakhkfgheapoaaVM25
/-! The laws' own functions: numbers, meshes, tables. -/
set_option linter.all false
namespace Go.Proofs.Ytnakhkfgheapoaa.V
open Go Go.VM Go.Proofs
set_option maxRecDepth 10000
variable {frz : Nat} {H : Heap}
def big : Nat := 1073741824
abbrev dIntS : Dt Value (List Int) := dFlat Fl.int 3 1073741824
/-- what a marking function leaves, told by what its reader says of it -/
def Marks {V A : Type} (T : Dt V A) (held : Nat) (H : Heap) (v : V) (a : A) (k : Int) (r : Value) (H' : Heap) : Prop :=
  ∃ (n : Int) (a' : A), r = .int .i64 (k + n) ∧ (0 ≤ n ∧ n ≤ 1125899906842624) ∧ T.val v a' = T.val v a ∧ T.Ow H' v a' ∧ Chg H H' (T.ids v) ∧
    ∀ F H2, T.Ow H2 v a' → vcall C F held [T.val v a', .int .i64 k] H2 = some (.int .i64 (k + n), H2)
theorem toIntS_w (v : Value) (xs : List Int) (hI : IsI H v xs) (hb : xs.length ≤ 1073741824) : wp (vcall C frz 16 [v] H) (dIntS.Made H xs) := by
  rw [toIntS_c v xs hI hb]
  simp
  exact ⟨_, rfl, ⟨Ow.new0 rfl (cellsOf_int xs).symm (by simp) rfl, hb⟩, Chg.app _, by simp [dFlat], ids_nodup (.slice (some ⟨H.length, 0, some 0⟩) xs.length 0)⟩
theorem eqIntS_d {a b : Value} {xs ys : List Int} (ha : dIntS.Ow H a xs) (hb : dIntS.Ow H b ys) : vcall C frz 18 [a, b] H = some (.bool (decide (xs = ys)), H) :=
  eqIntS_c a b xs ys ha.1.rd.isI hb.1.rd.isI ha.2
theorem markIntS_d {v : Value} {xs : List Int} {k : Int} (h : dIntS.Ow H v xs) (hd : (dIntS.ids v).Nodup) (hk : 0 ≤ k ∧ k ≤ 4611686018427387904) (hf : ∀ i ∈ dIntS.ids v, frz ≤ i) :
    wp (vcall C frz 19 [v, .int .i64 k] H) (Marks dIntS 20 H v xs k) := by
  refine (markIntS_w v xs _ k h.1 h.2 hk hf).mono ?_
  rintro r H' ⟨rfl, o, c, l⟩
  have := h.2
  refine ⟨xs.length, marks k xs.length, rfl, by omega, rfl, ⟨o, by simpa using h.2⟩, c, fun F H2 h2 => ?_⟩
  exact heldIntS_c v xs.length k h2.1.rd.isI h.2 hk
-- meshes
abbrev MeshD := Int × Int × List Int
def dMesh : Dt Value MeshD where
  val v a := .agg #[.int .i64 a.1, .int .i64 a.2.1, v]
  Ow H v a := dIntS.Ow H v a.2.2
  ids := VM.ids
  frame h k := dIntS.frame h k
  lt h := dIntS.lt h
theorem dMesh_val (v : Value) (a : MeshD) : dMesh.val v a = .agg #[.int .i64 a.1, .int .i64 a.2.1, v] := rfl
theorem dMesh_one {v : Value} {a : MeshD} (h : dMesh.Ow H v a) : VM.one v = true ∧ v.cells = #[v] := ⟨h.1.rd.one', h.1.rd.cells⟩
theorem dIntS_one {v : Value} {a : List Int} (h : dIntS.Ow H v a) : VM.one v = true ∧ v.cells = #[v] := ⟨h.1.rd.one', h.1.rd.cells⟩
theorem dIntS_val (v : Value) (a : List Int) : dIntS.val v a = v := rfl
theorem toMesh_w (w h : Int) (v : Value) (b : List Int) (hI : IsI H v b) (hb : b.length ≤ 1073741824) : wp (vcall C frz 35 [.agg #[.int .i64 w, .int .i64 h, v]] H) (dMesh.Made H (w, h, b)) := by
  rw [toMesh_c w h v b hI hb]
  simp
  exact ⟨_, rfl, ⟨Ow.new0 rfl (cellsOf_int b).symm (by simp) rfl, hb⟩, Chg.app _, by simp [dMesh], ids_nodup (.slice (some ⟨H.length, 0, some 0⟩) b.length 0)⟩
theorem eqMesh_d {a b : Value} {x y : MeshD} (ha : dMesh.Ow H a x) (hb : dMesh.Ow H b y) : vcall C frz 38 [dMesh.val a x, dMesh.val b y] H = some (.bool (decide (x = y)), H) := by
  obtain ⟨w, h, b1⟩ := x; obtain ⟨w', h', b2⟩ := y
  rw [dMesh_val, dMesh_val]
  have := eqMesh_c (frz := frz) w h w' h' a b b1 b2 ha.1.rd.isI hb.1.rd.isI ha.2
  rw [this]
  congr 3
  simp [and_assoc]
theorem markMesh_d {v : Value} {a : MeshD} {k : Int} (h : dMesh.Ow H v a) (hd : (dMesh.ids v).Nodup) (hk : 0 ≤ k ∧ k ≤ 4611686018427387904) (hf : ∀ i ∈ dMesh.ids v, frz ≤ i) :
    wp (vcall C frz 39 [dMesh.val v a, .int .i64 k] H) (Marks dMesh 52 H v a k) := by
  obtain ⟨w, g, b⟩ := a
  rw [vcall_go (fn := Try.f39) Try.func39 rfl (by kernel_rfl) rfl]
  rw [dMesh_val]
  have one := dMesh_one h
  simp [one]
  refine wp_thn (markIntS_d (Dt.app h) hd hk hf) ?_
  rintro _ H' ⟨n, a', rfl, hn, _, o, c, he⟩
  simp
  refine ⟨n, (w, g, a'), rfl, hn, rfl, o, (Chg.app _).trans c, fun F H2 h2 => ?_⟩
  rw [vcall_go (fn := Try.f52) Try.func52 rfl (by kernel_rfl) rfl]
  rw [dMesh_val]
  have he' := fun F => he F _ (Dt.app (L := [⟨[.int .i64 w, .int .i64 g, v], 0, 33⟩]) h2)
  simp only [dIntS_val] at he'
  have e0 : ¬ k + n < 0 := by omega
  simp [one, he', e0]
-- tables
def dTable : Dt Value (List Int) where
  val v _ := .agg #[v]
  Ow H v a := dIntS.Ow H v a
  ids := VM.ids
  frame h k := dIntS.frame h k
  lt h := dIntS.lt h
theorem dTable_val (v : Value) (a : List Int) : dTable.val v a = .agg #[v] := rfl
theorem dTable_one {v : Value} {a : List Int} (h : dTable.Ow H v a) : VM.one v = true ∧ v.cells = #[v] := ⟨h.1.rd.one', h.1.rd.cells⟩
theorem szTable_c (v : Value) (xs : List Int) (n : Int) (hI : IsI H v xs) (h0 : 0 ≤ n) (h1 : n ≤ 1048576) (h2 : xs.length ≤ 9223372036854775807) :
    vcall C frz 58 [.agg #[v], .int .i64 n] H = some (.int .i64 (if n < xs.length then -1 else n - xs.length), H) := by
  rw [vcall_go (fn := Try.f58) Try.func58 rfl (by kernel_rfl) rfl]
  simp [szIntS_c _ _ _ (hI.app _) h0 h1 h2, hI.one', hI.cells]
  refine br_dec _ ?_ ?_ <;> intro h <;> simp [h]
  · intro hh; omega
theorem toTable_w (v : Value) (xs : List Int) (hI : IsI H v xs) (hb : xs.length ≤ 1073741824) :
   wp (vcall C frz 60 [.agg #[v]] H) (dTable.Made H xs) := by
  rw [vcall_go (fn := Try.f60) Try.func60 rfl (by kernel_rfl) rfl]
  simp [toIntS_c _ _ (hI.app _) hb, hI.one', hI.cells]
  exact ⟨_, rfl, ⟨Ow.new0 rfl (cellsOf_int xs).symm (by simp) rfl, hb⟩, Chg.app _, by simp [dTable], ids_nodup (.slice (some ⟨H.length, 0, some 0⟩) xs.length 0)⟩
theorem eqTable_d {a b : Value} {x y : List Int} (ha : dTable.Ow H a x) (hb : dTable.Ow H b y) : vcall C frz 37 [dTable.val a x, dTable.val b y] H = some (.bool (decide (x = y)), H) := by
  rw [dTable_val, dTable_val]
  rw [vcall_go (fn := Try.f37) Try.func37 rfl (by kernel_rfl) rfl]
  simp [dTable_one ha, dTable_one hb, eqIntS_c _ _ _ _ (ha.1.rd.isI.app _) (hb.1.rd.isI.app _) ha.2]
  refine br_dec _ ?_ ?_ <;> intro h0 <;> simp [h0]
theorem markTable_d {v : Value} {a : List Int} {k : Int} (h : dTable.Ow H v a) (hd : (dTable.ids v).Nodup) (hk : 0 ≤ k ∧ k ≤ 4611686018427387904) (hf : ∀ i ∈ dTable.ids v, frz ≤ i) :
    wp (vcall C frz 40 [dTable.val v a, .int .i64 k] H) (Marks dTable 41 H v a k) := by
  rw [vcall_go (fn := Try.f40) Try.func40 rfl (by kernel_rfl) rfl]
  rw [dTable_val]
  have one := dTable_one h
  simp [one]
  refine wp_thn (markIntS_d (Dt.app h) hd hk hf) ?_
  rintro _ H' ⟨n, a', rfl, hn, _, o, c, he⟩
  simp
  refine ⟨n, a', rfl, hn, rfl, o, (Chg.app _).trans c, fun F H2 h2 => ?_⟩
  rw [vcall_go (fn := Try.f41) Try.func41 rfl (by kernel_rfl) rfl]
  rw [dTable_val]
  have he' := fun F => he F _ (Dt.app (L := [⟨[v], 0, 48⟩]) h2)
  simp only [dIntS_val] at he'
  have e0 : ¬ k + n < 0 := by omega
  simp [one, he', e0]
end Go.Proofs.Ytnakhkfgheapoaa.V
