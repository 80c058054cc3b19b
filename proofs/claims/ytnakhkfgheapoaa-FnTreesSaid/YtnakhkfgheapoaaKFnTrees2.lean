/- Texts of a proof, joined. -/
import Derived.Test.YtnakhkfgheapoaaKM0
import Derived.Test.YtnakhkfgheapoaaKM1
import Derived.Test.YtnakhkfgheapoaaKFnTrees0
import Derived.Test.YtnakhkfgheapoaaKFnTrees1
/-! Draws: the cursor, grids, meshes. -/
set_option linter.all false
namespace Go.Proofs.Ytnakhkfgheapoaa.V
open Go Go.VM Go.Proofs
set_option maxRecDepth 10000
variable {frz : Nat} {H H' : Heap} {vb : Value} {code : List Int} {r : Nat}
theorem iand255 (a : Int) : 0 ≤ iand .i64 a 255 ∧ iand .i64 a 255 < 256 := by
  unfold iand
  have h1 : (BitVec.ofInt IntKind.i64.bits a &&& BitVec.ofInt IntKind.i64.bits 255).toNat ≤ 255 := by
    rw [BitVec.toNat_and]
    exact Nat.le_trans Nat.and_le_right (by decide)
  rw [w64 (by omega) (by omega)]
  omega
/-- a cursor -/
def Cur (H : Heap) (r : Nat) (vb : Value) (code : List Int) : Prop :=
  ∃ (i : Nat) (h : Int), i ≤ code.length ∧ H[r]? = some ⟨[vb, .int .i64 i, .int .i64 h], 0, 108⟩ ∧ Rd Fl.u8 H vb code ∧ r ∉ ids vb ∧ code.length ≤ 1073741824
theorem Cur.lt (h : Cur H r vb code) : r < H.length := by obtain ⟨_, _, _, h2, _⟩ := h; exact box_lt h2
theorem Cur.chg {is : List Nat} (h : Cur H r vb code) (c : Chg H H' is) (k : r ∉ is) (k' : ∀ i ∈ ids vb, i ∉ is) : Cur H' r vb code := by
  obtain ⟨i, x, h1, h2, h3, h4, h5⟩ := h
  exact ⟨i, x, h1, box_chg h2 c k, h3.chg c k', h4, h5⟩
theorem l01New_w (vb : Value) (code : List Int) (hb : Rd Fl.u8 H vb code) (hl : code.length ≤ 1073741824) :
   wp (vcall C frz 75 [vb] H) (fun u H' => ∃ r, u = .pointer (some ⟨r, 0, some 0⟩) ∧ H.length ≤ r ∧ Cur H' r vb code ∧ Chg H H' []) := by
  rw [vcall_go (fn := Try.f75) Try.func75 rfl (by kernel_rfl) rfl]
  simp [hb.len]
  refine wp_joino (F := ?F) (k := ?k) (o := ?o) (Q := ?Q) (fun t H' => H' = H ∧ t 0 = vb ∧ ∃ h, t 3 = .int .i64 h) ?main ?rest
  case main =>
    intro rest
    refine wp_inv (fun n t H' => ∃ i : Nat, n = code.length - i ∧ i ≤ code.length ∧ t 0 = vb ∧ t 4 = .int .i64 i ∧ (∃ h, t 3 = .int .i64 h) ∧ H = H') ?_ (n := code.length)
      ⟨0, rfl, by omega, by simp, by simp, ⟨_, by simp; rfl⟩, rfl⟩
    rintro n t _ ⟨i, rfl, hi, t0, t4, ⟨h, t3⟩, rfl⟩ ih
    simp [t0, t3, t4, hb.len]
    refine wpg_dec ?_ ?_ <;> intro g1
    · simp [t0, t3, t4, g1]
      refine wp_dec ?_ ?_ <;> intro g2
      · have q1 := hb.idx (P := Try.prog) (ty := 28) (e := 5) (by simp) (i := (i : Int)) (by omega) (by omega)
        have r1 := hb.cell1 (P := Try.prog) (e := 5) rfl (by simp) g1
        simp at q1 r1
        simp [t0, t3, t4, q1, r1]
        refine ih (code.length - (i + 1)) _ _ ⟨i + 1, rfl, by omega, by simp [t0], ?_, ⟨_, by simp; rfl⟩, rfl⟩ (by omega)
        simp; rw [w64 (by omega) (by omega)]
      · simp [t0, t3, t4, -go_exit_blk]
        refine rest _ _ ?_
        exact ⟨rfl, by simp [t0], h, by simp [t3]⟩
    · simp [t0, t3, t4, g1, -go_exit_blk]
      refine rest _ _ ?_
      exact ⟨rfl, by simp [t0], h, by simp [t3]⟩
  case rest =>
    rintro t H' ⟨hH, t0, h, t3⟩
    rw [hH]
    simp [t0, t3, hb.one', hb.cells]
    exact ⟨⟨0, h, by omega, by simp, hb.app, fun hh => by have := hb.lt _ hh; omega, hl⟩, Chg.app _⟩
theorem l01Byte_w (c : Cur H r vb code) (hf : frz ≤ r) : wp (vcall C frz 124 [.pointer (some ⟨r, 0, some 0⟩)] H) (fun u H' => (∃ x : Nat, u = .int .i64 x ∧ x < 256) ∧ Chg H H' [r] ∧ Cur H' r vb code) := by
  obtain ⟨i, h, hi, hr, hb, hn, hl⟩ := c
  have lt := box_lt hr
  rw [vcall_go (fn := Try.f124) Try.func124 rfl (by kernel_rfl) rfl]
  simp [vnil, VM.look, hr, hf]
  generalize IntKind.i64.wrap (IntKind.i64.wrap (h * 6364136223846793005) + 1442695040888963407) = h1
  have hr1 := set_get (r' := ⟨[vb, .int .i64 i, .int .i64 h1], 0, 108⟩) hr
  have c1 : Chg H (H.set r ⟨[vb, .int .i64 i, .int .i64 h1], 0, 108⟩) [r] := chg_set _ _
  generalize H.set r ⟨[vb, .int .i64 i, .int .i64 h1], 0, 108⟩ = H1 at *
  have hb1 := hb.chg c1 (fun j hj hh => by have := List.mem_singleton.1 hh; subst this; exact hn hj)
  rw [go_draw (h := by kernel_rfl)]
  simp [vnil, VM.look, hr1]
  obtain ⟨x, hx⟩ : ∃ x : Nat, iand .i64 (ixor .i64 (ishr .i64 h1 33) (ishr .i64 h1 45)) 255 = x := ⟨_, (Int.toNat_of_nonneg (iand255 _).1).symm⟩
  have hx2 := (iand255 (ixor .i64 (ishr .i64 h1 33) (ishr .i64 h1 45))).2
  rw [hx] at hx2
  simp [hx]
  rw [go_draw (h := by kernel_rfl)]
  simp [vnil, VM.look, hr1, hb1.len]
  refine wp_dec ?_ ?_ <;> intro g1
  · have q1 := hb1.idx (P := Try.prog) (ty := 28) (e := 5) (by simp) (i := (i : Int)) (by omega) (by omega)
    have r1 := hb1.cell1 (P := Try.prog) (e := 5) rfl (by simp) g1
    simp at q1 r1
    simp
    rw [go_draw (h := by kernel_rfl)]
    have e1 : IntKind.i64.wrap ((i : Int) + 1) = ((i + 1 : Nat) : Int) := by rw [w64 (by omega) (by omega)]; omega
    simp only [vnil, VM.look, hr1, q1, r1]
    simp [vnil, VM.look, hr1, q1, r1, hf]
    generalize hz : IntKind.i64.wrap ((x : Int) + IntKind.i64.wrap code[i]) = z
    obtain ⟨y, hy⟩ : ∃ y : Nat, iand .i64 z 255 = y := ⟨_, (Int.toNat_of_nonneg (iand255 _).1).symm⟩
    have hy2 := (iand255 z).2
    rw [hy] at hy2
    rw [hy, e1]
    have hr2 := set_get (r' := ⟨[vb, .int .i64 (i + 1 : Nat), .int .i64 h1], 0, 108⟩) hr1
    have c2 : Chg H1 (H1.set r ⟨[vb, .int .i64 (i + 1 : Nat), .int .i64 h1], 0, 108⟩) [r] := chg_set _ _
    exact ⟨⟨y, rfl, by omega⟩, c1.trans c2, i + 1, h1, by omega, hr2, hb1.chg c2 (fun j hj hh => by have := List.mem_singleton.1 hh; subst this; exact hn hj), hn, hl⟩
  · simp
    exact ⟨⟨x, rfl, by omega⟩, c1, i, h1, hi, hr1, hb1, hn, hl⟩
theorem tmod_lt' {x n : Nat} (hn : 0 < n) : (x : Int).tmod (n : Int) = ((x % n : Nat) : Int) := by rw [Int.tmod_eq_emod_of_nonneg (by omega)]; rfl
theorem l01Below_w (c : Cur H r vb code) (hf : frz ≤ r) (n : Nat) (hn : 0 < n) (hn2 : n < 2147483648) : wp (vcall C frz 76 [.pointer (some ⟨r, 0, some 0⟩), .int .i64 n] H) (fun u H' => (∃ x : Nat, u = .int .i64 x ∧ x < n) ∧ Chg H H' [r] ∧ Cur H' r vb code) := by
  have hn0 : ¬ (n : Int) ≤ 0 := by omega
  have hn1 : ¬ n = 0 := by omega
  rw [vcall_go (fn := Try.f76) Try.func76 rfl (by kernel_rfl) rfl]
  simp [hn0, hn1]
  refine wp_dec ?_ ?_ <;> intro g1
  · simp
    refine wp_thn (l01Byte_w c hf) ?_
    rintro _ H1 ⟨⟨x, rfl, hx⟩, c1, d1⟩
    have hm : x % n < n := Nat.mod_lt _ hn
    have e1 : IntKind.i64.wrap ((x % n : Nat) : Int) = ((x % n : Nat) : Int) := w64 (by omega) (by omega)
    simp [hn1, tmod_lt' hn, e1]
    exact ⟨⟨x % n, by simp, hm⟩, c1, d1⟩
  · simp
    refine wp_thn (l01Byte_w c hf) ?_
    rintro _ H1 ⟨⟨x, rfl, hx⟩, c1, d1⟩
    simp
    refine wp_thn (l01Byte_w d1 hf) ?_
    rintro _ H2 ⟨⟨y, rfl, hy⟩, c2, d2⟩
    simp
    refine wp_thn (l01Byte_w d2 hf) ?_
    rintro _ H3 ⟨⟨z, rfl, hz⟩, c3, d3⟩
    simp
    refine wp_thn (l01Byte_w d3 hf) ?_
    rintro _ H4 ⟨⟨w, rfl, hw⟩, c4, d4⟩
    obtain ⟨q, hq⟩ : ∃ q : Nat, q = x * 16777216 + y * 65536 + z * 256 + w := ⟨_, rfl⟩
    have e1 : IntKind.i64.wrap (IntKind.i64.wrap (IntKind.i64.wrap (IntKind.i64.wrap ((x : Int) * 16777216) + IntKind.i64.wrap ((y : Int) * 65536)) + IntKind.i64.wrap ((z : Int) * 256)) + (w : Int)) = (q : Int) := by
      rw [w64 (x := (x : Int) * 16777216) (by omega) (by omega), w64 (x := (y : Int) * 65536) (by omega) (by omega), w64 (x := (z : Int) * 256) (by omega) (by omega), w64 (x := (x : Int) * 16777216 + (y : Int) * 65536) (by omega) (by omega), w64 (x := (x : Int) * 16777216 + (y : Int) * 65536 + (z : Int) * 256) (by omega) (by omega), w64 (by omega) (by omega)]
      omega
    have hm : q % n < n := Nat.mod_lt _ hn
    have e2 : IntKind.i64.wrap ((q % n : Nat) : Int) = ((q % n : Nat) : Int) := w64 (by omega) (by omega)
    simp [hn1, e1, tmod_lt' hn, e2]
    exact ⟨⟨q % n, by simp, hm⟩, c1.trans (c2.trans (c3.trans c4)), d4⟩
theorem l01Once_w (c : Cur H r vb code) (hf : frz ≤ r) (n : Nat) (hn : 0 < n) (hn2 : n < 2147483648) : wp (vcall C frz 122 [.pointer (some ⟨r, 0, some 0⟩), .int .i64 n] H) (fun u H' => (∃ b : Bool, u = .bool b) ∧ Chg H H' [r] ∧ Cur H' r vb code) := by
  rw [vcall_go (fn := Try.f122) Try.func122 rfl (by kernel_rfl) rfl]
  simp
  refine wp_thn (l01Below_w c hf n hn hn2) ?_
  rintro _ H1 ⟨⟨x, rfl, hx⟩, c1, d1⟩
  simp
  exact ⟨by omega, c1, d1⟩
theorem l01PickInt_w (c : Cur H r vb code) (hf : frz ≤ r) (v : Value) (xs : List Int) (hI : IsI H v xs) (hv : r ∉ ids v) (h0 : 0 < xs.length) (hl : xs.length < 2147483648) :
   wp (vcall C frz 140 [.pointer (some ⟨r, 0, some 0⟩), v] H) (fun u H' => (∃ x, u = .int .i64 x ∧ x ∈ xs) ∧ Chg H H' [r] ∧ Cur H' r vb code) := by
  rw [vcall_go (fn := Try.f140) Try.func140 rfl (by kernel_rfl) rfl]
  simp [hI.len]
  refine wp_thn (l01Below_w c hf xs.length h0 hl) ?_
  rintro _ H1 ⟨⟨x, rfl, hx⟩, c1, d1⟩
  have hI1 := (hI.rd.chg c1 (fun i hi hh => by have := List.mem_singleton.1 hh; subst this; exact hv hi)).isI
  have q1 := hI1.idx (P := Try.prog) (ty := 22) (e := 3) (by simp) (i := (x : Int)) (by omega) (by omega)
  have r1 := (hI1.load (P := Try.prog) (e := 3) (by simp) hx).trans (by rw [getD_get _ _ hx])
  simp only [Int.toNat_natCast] at q1
  simp [q1, r1]
  exact ⟨c1, d1⟩
theorem l02Grid_w (c : Cur H r vb code) (hf : frz ≤ r) : wp (vcall C frz 114 [.pointer (some ⟨r, 0, some 0⟩)] H) (fun u H' => (∃ w h, u = .agg #[.int .i64 w, .int .i64 h] ∧ okG w h) ∧ Chg H H' [r] ∧ Cur H' r vb code) := by
  have lt := c.lt
  have nb : ∀ (L : Heap), Cur (H ++ L) r vb code := fun L => by
    obtain ⟨i, x, h1, h2, h3, h4, h5⟩ := c
    exact ⟨i, x, h1, get_app' h2 L, h3.app, h4, h5⟩
  rw [vcall_go (fn := Try.f114) Try.func114 rfl (by kernel_rfl) rfl]
  simp
  have i1 := IsI.at (H := H) (L := [⟨[.int .i64 0, .int .i64 0], 0, 31⟩, ⟨[.int .i64 1, .int .i64 2, .int .i64 2, .int .i64 3, .int .i64 3, .int .i64 4], 0, 3⟩]) (k := 1) (xs := [1, 2, 2, 3, 3, 4]) rfl
  refine wp_thn (l01PickInt_w (nb _) hf _ [1, 2, 2, 3, 3, 4] i1 (by simp; omega) (by simp) (by simp)) ?_
  rintro _ H1 ⟨⟨w, rfl, hw⟩, c1, d1⟩
  have cH : Chg H H1 [r] := (Chg.app [r]).trans c1
  have l0 := cH.1
  have b0 : H1[H.length]? = some ⟨[.int .i64 0, .int .i64 0], 0, 31⟩ := box_chg (by simp) c1 (by simp; omega)
  have lt1 := d1.lt
  have nb1 : ∀ (L : Heap), Cur (H1 ++ L) r vb code := fun L => by
    obtain ⟨i, x, h1, h2, h3, h4, h5⟩ := d1
    exact ⟨i, x, h1, get_app' h2 L, h3.app, h4, h5⟩
  simp
  have i2 := IsI.at0 (H := H1) (L := [⟨[.int .i64 1, .int .i64 2, .int .i64 2, .int .i64 3, .int .i64 3, .int .i64 4], 0, 3⟩]) (xs := [1, 2, 2, 3, 3, 4]) rfl
  refine wp_thn (l01PickInt_w (nb1 _) hf _ [1, 2, 2, 3, 3, 4] i2 (by simp; omega) (by simp) (by simp)) ?_
  rintro _ H2 ⟨⟨h, rfl, hh⟩, c2, d2⟩
  have b2 : H2[H.length]? = some ⟨[.int .i64 0, .int .i64 0], 0, 31⟩ := box_chg (get_app' b0 _) c2 (by simp; omega)
  have g2 := set_get (r' := ⟨[.int .i64 w, .int .i64 h], 0, 31⟩) b2
  have hF : frz ≤ H.length := by omega
  simp [VM.look, b2, g2, hF]
  have hwr : 1 ≤ w ∧ w ≤ 4 := by simp at hw; omega
  have hhr : 1 ≤ h ∧ h ≤ 4 := by simp at hh; omega
  have c3 : Chg H2 (H2.set H.length ⟨[.int .i64 w, .int .i64 h], 0, 31⟩) [H.length] := chg_set _ _
  refine ⟨⟨w, h, ⟨rfl, rfl⟩, hwr, hhr⟩, (cH.trans ((Chg.app [r]).trans c2)).trans' c3 (fun i hi => .inr (by simp at hi; omega)), ?_⟩
  obtain ⟨i, x, h1, h2, h3, h4, h5⟩ := d2
  have vlt := fun i (hi : i ∈ ids vb) => (show i < H.length by obtain ⟨_, _, _, _, k3, _⟩ := c; exact k3.lt i hi)
  exact ⟨i, x, h1, box_chg h2 c3 (by simp; omega), h3.chg c3 (fun j hj hh => by have := vlt j hj; simp at hh; omega), h4, h5⟩
theorem Cur.app (c : Cur H r vb code) (L : Heap) : Cur (H ++ L) r vb code := by
  obtain ⟨i, x, h1, h2, h3, h4, h5⟩ := c
  exact ⟨i, x, h1, get_app' h2 L, h3.app, h4, h5⟩
theorem Cur.vlt (c : Cur H r vb code) : ∀ i ∈ ids vb, i < H.length := by
  obtain ⟨_, _, _, _, k3, _⟩ := c; exact k3.lt
/-- a mesh that has been drawn -/
def MeshD' (H : Heap) (is : List Nat) (u : Value) (H' : Heap) : Prop := ∃ v w h b, u = .agg #[.int .i64 w, .int .i64 h, v] ∧ meshOk w h b ∧ Ow Fl.int 3 H' v b ∧ (∀ i ∈ ids v, H.length ≤ i) ∧ Chg H H' is
theorem l03Mesh_w (c : Cur H r vb code) (hf : frz ≤ r) : wp (vcall C frz 74 [.pointer (some ⟨r, 0, some 0⟩)] H) (fun u H' => MeshD' H [r] u H' ∧ Cur H' r vb code) := by
  have lt := c.lt
  have hF : frz ≤ H.length := by omega
  rw [vcall_go (fn := Try.f74) Try.func74 rfl (by kernel_rfl) rfl]
  simp
  refine wp_thn (l02Grid_w (c.app _) hf) ?_
  rintro _ H1 ⟨⟨w, h, rfl, hg⟩, c1, d1⟩
  have cH : Chg H H1 [r] := (Chg.app [r]).trans c1
  have l0 := cH.1
  have lt1 := d1.lt
  have b0 : H1[H.length]? = some ⟨[.int .i64 0, .int .i64 0, .slice none 0 0], 0, 33⟩ := box_chg (by simp) c1 (by simp; omega)
  have l1 := box_lt b0
  simp [VM.look, hF, Nat.le_trans hF l0]
  refine wp_thn (l01Once_w (d1.app _) hf 3 (by decide) (by decide)) ?_
  rintro _ H2 ⟨⟨bb, rfl⟩, c2, d2⟩
  have b2 : H2[H.length]? = some ⟨[.int .i64 0, .int .i64 0, .slice none 0 0], 0, 33⟩ := box_chg (get_app' b0 _) c2 (by simp; omega)
  have b3 : H2[H1.length]? = some ⟨[.int .i64 w, .int .i64 h, .slice none 0 0], 0, 33⟩ := box_chg (by simp) c2 (by simp; omega)
  have cH2 : Chg H H2 [r] := cH.trans ((Chg.app [r]).trans c2)
  have vlt := c.vlt
  have hne : H1.length ≠ H.length := by omega
  simp
  -- what is handed back
  have fin : ∀ (H' : Heap) (v : Value) (b : List Int), H'[H.length]? = some ⟨[.int .i64 0, .int .i64 0, .slice none 0 0], 0, 33⟩ → Cur H' r vb code → Ow Fl.int 3 H' v b → (∀ i ∈ ids v, H.length + 1 ≤ i) → Chg H H' [r] → meshOk w h b →
      MeshD' H [r] (.agg #[.int .i64 w, .int .i64 h, v]) (H'.set H.length ⟨[.int .i64 w, .int .i64 h, v], 0, 33⟩) ∧ Cur (H'.set H.length ⟨[.int .i64 w, .int .i64 h, v], 0, 33⟩) r vb code := by
    intro H' v b q1 q2 q3 q4 q5 q6
    refine ⟨⟨v, w, h, b, rfl, q6, q3.chg (chg_set _ _) (fun i hi hh => by have := q4 i hi; simp at hh; omega), fun i hi => by have := q4 i hi; omega, q5.trans' (chg_set _ _) (fun i hi => .inr (by simp at hi; omega))⟩, ?_⟩
    exact q2.chg (chg_set _ _) (by simp; omega) (fun i hi hh => by have := vlt i hi; simp at hh; omega)
  refine wp_bool ?_ ?_ <;> intro g1
  · simp
    refine wp_joino (F := ?F) (k := ?k) (o := ?o) (Q := ?Q) (fun t H' => t 2 = .pointer (some ⟨H.length, 0, some 0⟩) ∧ t 3 = .pointer (some ⟨H1.length, 0, some 0⟩) ∧ ∃ v b, H'[H.length]? = some ⟨[.int .i64 0, .int .i64 0, .slice none 0 0], 0, 33⟩ ∧
       H'[H1.length]? = some ⟨[.int .i64 w, .int .i64 h, v], 0, 33⟩ ∧ Cur H' r vb code ∧ Ow Fl.int 3 H' v b ∧ (∀ i ∈ ids v, H.length + 1 ≤ i ∧ i ≠ H1.length) ∧ Chg H H' [r] ∧ meshOk w h b) ?main ?rest
    case main =>
      intro rest
      obtain ⟨N, hN⟩ : ∃ N : Nat, cnt w h = N := ⟨(cnt w h).toNat, by have := cnt_range w h; omega⟩
      have hN2 : N ≤ 16 := by have := cnt_range w h; omega
      have nc := fun F L => (sNodeCount_c (frz := F) (H := L) w h).trans (by rw [hN])
      have e4 : IntKind.i64.wrap (4 * (N : Int)) = 4 * (N : Int) := w64 (by omega) (by omega)
      refine wp_inv (fun n t H' => ∃ (i : Nat) (v : Value) (b : List Int), n = 4 * N - i ∧ i ≤ 4 * N ∧ t 0 = .pointer (some ⟨r, 0, some 0⟩) ∧ t 2 = .pointer (some ⟨H.length, 0, some 0⟩) ∧ t 3 = .pointer (some ⟨H1.length, 0, some 0⟩) ∧ t 4 = .int .i64 i ∧
         H'[H.length]? = some ⟨[.int .i64 0, .int .i64 0, .slice none 0 0], 0, 33⟩ ∧
         H'[H1.length]? = some ⟨[.int .i64 w, .int .i64 h, v], 0, 33⟩ ∧ Cur H' r vb code ∧ Ow Fl.int 3 H' v b ∧ (∀ i ∈ ids v, H.length + 1 ≤ i ∧ i ≠ H1.length) ∧ Chg H H' [r] ∧ meshOk w h b ∧ b.length ≤ i ∧ ∀ x ∈ b, x < i) ?_ (n := 4 * N)
        ⟨0, .slice none 0 0, [], rfl, by omega, by simp, by simp, by simp, by simp, b2, b3, d2, .inl ⟨rfl, rfl⟩, by simp, cH2, ⟨by simp, hg⟩, by simp, by simp⟩
      rintro n t H' ⟨i, v, b, rfl, hi, t0, t2, t3, t4, b2, b3, d2, o, nv, ch, hm, hbl, hbi⟩ ih
      have k3 := box_lt b3
      have ltd := d2.lt
      have one := And.intro o.rd.one' o.rd.cells
      have lo := o.lt
      simp [t0, t2, t3, t4, VM.look, b3, nc, e4]
      refine wp_dec ?_ ?_ <;> intro g2
      · have hi2 : i < 4 * N := by omega
        simp [t0, t2, t3, t4, VM.look, b3, l03Leads_c]
        refine wpg_dec ?_ ?_ <;> intro g3
        · simp [t0, t2, t3, t4, g3]
          refine wp_thn (l01Once_w d2 hf 9 (by decide) (by decide)) ?_
          rintro _ H3 ⟨⟨b9, rfl⟩, c3, d3⟩
          have s2 := box_chg b2 c3 (by simp; omega)
          have s3 := box_chg b3 c3 (by simp; omega)
          have o3 := o.chg c3 (fun j hj hh => by have := nv j hj; simp at hh; omega)
          have ch3 := ch.trans c3
          simp
          refine wp_bool ?_ ?_ <;> intro g4
          · obtain ⟨v', H4, hap, o4, c4, n4⟩ := o3.push (P := Try.prog) (frz := frz) (ty := 22) (a := (i : Int)) (by simp) rfl (by omega) (fun j hj => by have := nv j hj; omega)
            simp only [Fl.int_f] at hap
            have p3 : H4[H1.length]? = some ⟨[.int .i64 w, .int .i64 h, v], 0, 33⟩ := box_chg s3 c4 (fun hh => (nv _ hh).2 rfl)
            have p2 : H4[H.length]? = some ⟨[.int .i64 0, .int .i64 0, .slice none 0 0], 0, 33⟩ := box_chg s2 c4 (fun hh => by have := nv _ hh; omega)
            have c5 : Chg H4 (H4.set H1.length ⟨[.int .i64 w, .int .i64 h, v'], 0, 33⟩) [H1.length] := chg_set _ _
            have p4 := set_get (r' := ⟨[.int .i64 w, .int .i64 h, v'], 0, 33⟩) p3
            have k4 := box_lt s3
            have nv' : ∀ j ∈ ids v', H.length + 1 ≤ j ∧ j ≠ H1.length := fun j hj => by
              rcases n4 j hj with h1 | h1
              · exact nv j h1
              · omega
            have one4 := And.intro o4.rd.one' o4.rd.cells
            have d4 := d3.chg c4 (fun hh => by have := nv _ hh; omega) (fun j hj hh => by have := nv _ hh; have := vlt j hj; omega)
            have d5 := d4.chg c5 (by simp; omega) (fun j hj hh => by have := vlt j hj; simp at hh; omega)
            have hfr : frz ≤ H1.length := by omega
            have hm' : meshOk w h (b ++ [(i : Int)]) := by
              obtain ⟨m1, m2, m3⟩ := (meshOk_iff w h b).1 hm
              refine (meshOk_iff w h _).2 ⟨m1, fun x hx => ?_, ?_⟩
              · rcases List.mem_append.1 hx with hx | hx
                · exact m2 x hx
                · rw [List.mem_singleton.1 hx]; exact g3
              · rw [List.pairwise_append]
                exact ⟨m3, by simp, fun x hx y hy => by rw [List.mem_singleton.1 hy]; exact hbi x hx⟩
            simp [t0, t2, t3, t4, VM.look, s3, one, hap, p3, one4, hfr]
            refine ih (4 * N - (i + 1)) _ _ ⟨i + 1, v', b ++ [(i : Int)], rfl, by omega, by simp [t0], by simp [t2], by simp [t3], ?_, box_chg p2 c5 (by simp; omega), p4, d5, o4.chg c5 (fun j hj hh => (nv' j hj).2 (List.mem_singleton.1 hh)), nv', (ch3.trans' c4 (fun j hj => .inr (by have := nv j hj; omega))).trans' c5 (fun j hj => .inr (by simp at hj; omega)), hm', by simp; omega, fun x hx => ?_⟩ (by omega)
            · simp; rw [w64 (by omega) (by omega)]
            · rcases List.mem_append.1 hx with hx | hx
              · have := hbi x hx; omega
              · rw [List.mem_singleton.1 hx]; omega
          · simp [t0, t2, t3, t4]
            refine ih (4 * N - (i + 1)) _ _ ⟨i + 1, v, b, rfl, by omega, by simp [t0], by simp [t2], by simp [t3], ?_, s2, s3, d3, o3, nv, ch3, hm, by omega, fun x hx => by have := hbi x hx; omega⟩ (by omega)
            simp; rw [w64 (by omega) (by omega)]
        · simp [t0, t2, t3, t4, g3]
          refine ih (4 * N - (i + 1)) _ _ ⟨i + 1, v, b, rfl, by omega, by simp [t0], by simp [t2], by simp [t3], ?_, b2, b3, d2, o, nv, ch, hm, by omega, fun x hx => by have := hbi x hx; omega⟩ (by omega)
          simp; rw [w64 (by omega) (by omega)]
      · simp [t0, t2, t3, t4, -go_exit_blk]
        refine rest _ _ ?_
        exact ⟨by simp [t2], by simp [t3], v, b, b2, b3, d2, o, nv, ch, hm⟩
    case rest =>
      rintro t H' ⟨t2, t3, v, b, b2, b3, d2, o, nv, ch, hm⟩
      have g2 := set_get (r' := ⟨[.int .i64 w, .int .i64 h, v], 0, 33⟩) b2
      have one := And.intro o.rd.one' o.rd.cells
      simp [t2, t3, VM.look, b3, b2, g2, hF, one]
      exact fin H' v b b2 d2 o (fun i hi => (nv i hi).1) ch hm
  · have g2 := set_get (r' := ⟨[.int .i64 w, .int .i64 h, .slice none 0 0], 0, 33⟩) b2
    simp [VM.look, b3, b2, g2, hF]
    exact fin H2 _ [] b2 d2 (.inl ⟨rfl, rfl⟩) (by simp) cH2 ⟨by simp, hg⟩
theorem drawMesh_w (vb : Value) (code : List Int) (hb : Rd Fl.u8 H vb code) (hl : code.length ≤ 1073741824) : wp (vcall C frz 22 [vb] H) (fun u H' => MeshD' H [] u H') := by
  rw [vcall_go (fn := Try.f22) Try.func22 rfl (by kernel_rfl) rfl]
  simp
  refine wp_thn (l01New_w vb code hb.app hl) ?_
  rintro _ H1 ⟨r, rfl, hr, c1, ch1⟩
  have cH : Chg H H1 [] := (Chg.app []).trans ch1
  have b1 : H1[H.length]? = some ⟨[.int .i64 0, .int .i64 0, .slice none 0 0], 0, 33⟩ := box_chg (by simp) ch1 (by simp)
  simp at hr
  simp
  refine wp_thn (l03Mesh_w c1 (by omega)) ?_
  rintro _ H2 ⟨⟨v, w, h, b, rfl, hm, o, nv, c2⟩, d2⟩
  have b2 := box_chg b1 c2 (by simp; omega)
  have g2 := set_get (r' := ⟨[.int .i64 w, .int .i64 h, v], 0, 33⟩) b2
  have one := And.intro o.rd.one' o.rd.cells
  have l1 := cH.1
  have k1 := box_lt b1
  simp [VM.look, b2, g2, one]
  exact ⟨v, w, h, b, rfl, hm, o.chg (chg_set _ _) (fun i hi hh => by have := nv i hi; simp at hh; omega), fun i hi => by have := nv i hi; omega, (cH.trans' c2 (fun i hi => .inr (by simp at hi; omega))).trans' (chg_set _ _) (fun i hi => .inr (by simp at hi; omega))⟩
theorem drawPlaces_w (vb : Value) (code : List Int) (hb : Rd Fl.u8 H vb code) (hl : code.length ≤ 1073741824) :
   wp (vcall C frz 23 [vb] H) (fun u H' => ∃ xs : List Int, Ow Fl.int 3 H' u xs ∧ xs.length = 12 ∧ (∀ x ∈ xs, 0 ≤ x ∧ x < 10000) ∧ (∀ i ∈ ids u, H.length ≤ i) ∧ Chg H H' []) := by
  rw [vcall_go (fn := Try.f23) Try.func23 rfl (by kernel_rfl) rfl]
  simp
  refine wp_thn (l01New_w vb code hb hl) ?_
  rintro _ H1 ⟨r, rfl, hr, c1, ch1⟩
  have lt1 := c1.lt
  have vlt := hb.lt
  simp
  refine wp_inv (fun n t H' => ∃ (i : Nat) (u : Value) (xs : List Int), n = 12 - i ∧ i ≤ 12 ∧ t 3 = .pointer (some ⟨r, 0, some 0⟩) ∧ t 4 = u ∧ t 5 = .int .i64 i ∧ Cur H' r vb code ∧ Ow Fl.int 3 H' u xs ∧ xs.length = i ∧ (∀ x ∈ xs, 0 ≤ x ∧ x < 10000) ∧ (∀ j ∈ ids u, H.length ≤ j ∧ j ≠ r) ∧ Chg H H' []) ?_ (n := 12)
    ⟨0, .slice (some ⟨H1.length, 0, some 0⟩) 0 0, [], rfl, by omega, by simp, by simp, by simp, c1.app _, Ow.new0 (D := Fl.int) (xs := []) rfl rfl rfl rfl, rfl, by simp, by have := ch1.1; simp; omega, ch1.trans (Chg.app [])⟩
  rintro n t H' ⟨i, u, xs, rfl, hi, t3, t4, t5, c, o, hx, hr2, nu, ch⟩ ih
  simp [t3, t4, t5]
  refine wp_dec ?_ ?_ <;> intro g1
  · simp [t3, t4, t5]
    have bl := l01Below_w (frz := H.length) c hr 10000 (by decide) (by decide)
    refine wp_thn (by simpa using bl) ?_
    rintro _ H2 ⟨⟨x, rfl, hx2⟩, c2, d2⟩
    have o2 := o.chg c2 (fun j hj hh => (nu j hj).2 (List.mem_singleton.1 hh))
    obtain ⟨u', H3, hap, o3, c3, n3⟩ := o2.push (P := Try.prog) (frz := H.length) (ty := 22) (a := (x : Int)) (by simp) rfl (by omega) (fun j hj => (nu j hj).1)
    simp only [Fl.int_f] at hap
    have l2 := ch.1
    have l3 := c2.1
    have ltr := d2.lt
    simp [t3, t4, t5, hap]
    refine ih (12 - (i + 1)) _ _ ⟨i + 1, u', xs ++ [(x : Int)], rfl, by omega, by simp [t3], by simp, ?_, d2.chg c3 (fun hh => (nu _ hh).2 rfl) (fun j hj hh => by have := (nu j hh).1; have := vlt j hj; omega), o3, by simp [hx], fun y hy => ?_, fun j hj => ?_, (ch.trans' c2 (fun j hj => .inr (by simp at hj; omega))).trans' c3 (fun j hj => .inr ((nu j hj).1))⟩ (by omega)
    · simp; rw [w64 (by omega) (by omega)]
    · rcases List.mem_append.1 hy with hy | hy
      · exact hr2 y hy
      · rw [List.mem_singleton.1 hy]; omega
    · rcases n3 j hj with h1 | h1
      · exact nu j h1
      · omega
  · simp [t4]
    exact ⟨xs, o, by omega, hr2, fun j hj => (nu j hj).1, ch⟩
theorem big_c (v : Value) (code : List Int) (hb : Rd Fl.u8 H v code) : vcall C frz 21 [v] H = some (.bool (decide ((1048576 : Int) < code.length)), H) := by
  rw [vcall_go (fn := Try.f21) Try.func21 rfl (by kernel_rfl) rfl]
  simp [hb.len]
end Go.Proofs.Ytnakhkfgheapoaa.V
/-! Draws: bytes of an argument. -/
set_option linter.all false
namespace Go.Proofs.Ytnakhkfgheapoaa.V
open Go Go.VM Go.Proofs
theorem cellsOf_u8 : ∀ xs : List Int, cellsOf Fl.u8 xs = xs.map (.int .u8)
  | [] => rfl
  | a :: l => by rw [cellsOf_cons, cellsOf_u8 l]; rfl
theorem IsS_bytes {H : Heap} {v : Value} {xs : List Int} (h : IsS (Kn.int .u8) H v xs) : Rd Fl.u8 H v xs := by
  rcases h with h | ⟨id, off, r, h1, h2, h3, h4⟩
  · exact .inl h
  · have hs : (Kn.int .u8).sz = 1 := rfl
    rw [hs] at h3 h4
    have e0 : cellsOf Fl.u8 xs = xs.map (.int .u8) := cellsOf_u8 xs
    refine .inr ⟨id, off, r, h1, h2, ?_, by simpa using h3⟩
    rw [e0]
    refine List.ext_getElem? fun j => ?_
    by_cases hj : j < xs.length
    · have := h4 j xs[j] (by simp [hj])
      have e : (r.cells.drop (off + j * 1)).take 1 = [.int .u8 xs[j]] := this
      have e2 := congrArg (·[0]?) e
      simp at e2
      rw [List.getElem?_take, if_pos (by simpa using hj), List.getElem?_drop]
      simp [e2, hj]
    · rw [List.getElem?_take, if_neg (by simpa using hj), List.getElem?_eq_none (by rw [List.length_map]; omega)]
end Go.Proofs.Ytnakhkfgheapoaa.V
/-! Channels of a mesh. -/
set_option linter.all false
namespace Go.Proofs.Ytnakhkfgheapoaa.V
open Go Go.VM Go.Proofs
set_option maxRecDepth 10000
variable {frz : Nat} {H : Heap}
theorem ow_ix0 {v : Value} {xs : List Int} {e : TypeId} (o : Ow Fl.int e H v xs) {i : Nat} (h1 : i < xs.length) : vindexAddr Try.prog H 22 v (.int .i64 (i : Nat)) = some (elp v i) ∧ vload Try.prog H 3 (elp v i) = some (.int .i64 xs[i]) := by
  have h2 := o.rd.isI.idx (P := Try.prog) (ty := 22) (e := 3) (by simp) (i := (i : Int)) (by omega) (by omega)
  have h3 := (o.rd.isI.load (P := Try.prog) (e := 3) (by simp) h1).trans (by rw [getD_get _ _ h1])
  exact ⟨by simpa using h2, h3⟩
def chN (w h : Int) (b : List Int) (m : Nat) : List Int := ((List.range m).filter (fun c : Nat => decide (has w h b (c : Int)))).map (fun c : Nat => (c : Int))
theorem chN_succ (w h : Int) (b : List Int) (m : Nat) : chN w h b (m + 1) = if has w h b (m : Int) then chN w h b m ++ [(m : Int)] else chN w h b m := by
  unfold chN
  rw [List.range_succ, List.filter_append, List.map_append]
  by_cases hh : has w h b (m : Int)
  · rw [if_pos hh]; simp [hh]
  · rw [if_neg hh]; simp [hh]
theorem chN_len (w h : Int) (b : List Int) : ∀ m, (chN w h b m).length ≤ m
  | 0 => Nat.le_refl _
  | m + 1 => by
    rw [chN_succ]
    have := chN_len w h b m
    split <;> simp <;> omega
theorem chN_mem {w h : Int} {b : List Int} {m : Nat} {x : Int} (hx : x ∈ chN w h b m) : has w h b x := by
  unfold chN at hx
  obtain ⟨c, hc, rfl⟩ := List.mem_map.1 hx
  simpa using (List.mem_filter.1 hc).2
def chans (w h : Int) (b : List Int) : List Int := if meshOk w h b then chN w h b (4 * (cnt w h).toNat) else []
theorem channels_w (w h : Int) (v : Value) (b : List Int) (hI : IsI H v b) (hl : b.length ≤ 1073741824) :
   wp (vcall C frz 53 [.agg #[.int .i64 w, .int .i64 h, v]] H) (fun u H' => Ow Fl.int 3 H' u (chans w h b) ∧ (∀ i ∈ ids u, H.length ≤ i) ∧ Chg H H' []) := by
  have hc := cnt_range w h
  obtain ⟨N, hN⟩ : ∃ N : Nat, cnt w h = N := ⟨(cnt w h).toNat, by omega⟩
  have hN2 : N ≤ 16 := by omega
  have hNt : (cnt w h).toNat = N := by omega
  rw [vcall_go (fn := Try.f53) Try.func53 rfl (by kernel_rfl) rfl]
  have e4 : IntKind.i64.wrap (4 * (N : Int)) = ((4 * N : Nat) : Int) := by rw [w64 (by omega) (by omega)]; omega
  obtain ⟨M, hM⟩ : ∃ M, M = 4 * N := ⟨_, rfl⟩
  rw [← hM] at e4
  simp [nodeCount_c, hI.one', hI.cells, hN, e4]
  refine wp_inv (fun n t H' => ∃ (i : Nat) (u : Value), n = M - i ∧ i ≤ M ∧ t 1 = .pointer (some ⟨H.length, 0, some 0⟩) ∧ t 3 = u ∧ t 9 = .int .i64 M ∧ t 10 = .int .i64 i ∧ H'[H.length]? = some ⟨[.int .i64 w, .int .i64 h, v], 0, 33⟩ ∧
      Ow Fl.int 3 H' u (if meshOk w h b then chN w h b i else []) ∧ (∀ j ∈ ids u, H.length + 1 ≤ j) ∧ Chg H H' []) ?_ (n := M)
    ⟨0, .slice (some ⟨H.length + 1, 0, some 0⟩) 0 0, rfl, by omega, by simp, by simp, by simp, by simp, by simp, by
      have : (if meshOk w h b then chN w h b 0 else []) = [] := by split <;> rfl
      rw [this]; exact Ow.new (D := Fl.int) (e := 3) (xs := []) (H := H) (k := 1) (by simp) rfl rfl rfl, by simp, Chg.app _⟩
  rintro n t H' ⟨i, u, rfl, hi, t1, t3, t9, t10, b0, o, nu, ch⟩ ih
  have hI1 := ((hI.rd).chg ch (by simp)).isI
  simp [t1, t3, t9, t10]
  refine wp_dec ?_ ?_ <;> intro g1
  · simp [t1, t3, t9, t10, VM.look, b0, hI.one', hI.cells, hasChannel_c _ _ _ _ _ hI1 hl, -Bool.decide_and]
    have e1 : ∀ [Inhabited Unit], IntKind.i64.wrap ((i : Int) + 1) = ((i + 1 : Nat) : Int) := by intro _; rw [w64 (by omega) (by omega)]; omega
    refine wp_dec ?_ ?_ <;> intro g2
    · have hll : (if meshOk w h b then chN w h b i else []).length ≤ i := by rw [if_pos g2.1]; exact chN_len _ _ _ _
      obtain ⟨u', H2, hap, o2, c2, n2⟩ := o.push (P := Try.prog) (frz := H.length) (ty := 22) (a := (i : Int)) (by simp) rfl (by omega) (fun j hj => by have := nu j hj; omega)
      simp only [Fl.int_f] at hap
      have l0 := ch.1
      have k0 := box_lt b0
      simp [t1, t3, t9, t10, hap]
      refine ih (M - (i + 1)) _ _ ⟨i + 1, u', rfl, by omega, by simp [t1], by simp, by simp [t9], by simp [e1], box_chg b0 c2 (fun hh => by have := nu _ hh; omega), ?_, fun j hj => ?_, ch.trans' c2 (fun j hj => .inr (by have := nu j hj; omega))⟩ (by omega)
      · rw [if_pos g2.1] at o2 ⊢
        rw [chN_succ, if_pos g2.2]; exact o2
      · rcases n2 j hj with h1 | h1
        · exact nu j h1
        · omega
    · simp [t1, t3, t9, t10]
      refine ih (M - (i + 1)) _ _ ⟨i + 1, u, rfl, by omega, by simp [t1], by simp [t3], by simp [t9], by simp [e1], b0, ?_, nu, ch⟩ (by omega)
      by_cases hm : meshOk w h b
      · rw [if_pos hm] at o ⊢
        rw [chN_succ, if_neg (fun hh => g2 ⟨hm, hh⟩)]; exact o
      · rw [if_neg hm] at o ⊢; exact o
  · have him : i = M := by omega
    simp [t3]
    refine ⟨?_, fun j hj => by have := nu j hj; omega, ch⟩
    unfold chans; rw [hNt, ← hM, ← him]; exact o
theorem sChannels_w (w h : Int) (v : Value) (b : List Int) (hI : IsI H v b) (hl : b.length ≤ 1073741824) :
   wp (vcall C frz 55 [.agg #[.int .i64 w, .int .i64 h, v]] H) (fun u H' => Ow Fl.int 3 H' u (chans w h b) ∧ (∀ i ∈ ids u, H.length ≤ i) ∧ Chg H H' []) := by
  have hc := cnt_range w h
  obtain ⟨N, hN⟩ : ∃ N : Nat, cnt w h = N := ⟨(cnt w h).toNat, by omega⟩
  have hN2 : N ≤ 16 := by omega
  have hNt : (cnt w h).toNat = N := by omega
  rw [vcall_go (fn := Try.f55) Try.func55 rfl (by kernel_rfl) rfl]
  have e4 : IntKind.i64.wrap (4 * (N : Int)) = ((4 * N : Nat) : Int) := by rw [w64 (by omega) (by omega)]; omega
  obtain ⟨M, hM⟩ : ∃ M, M = 4 * N := ⟨_, rfl⟩
  rw [← hM] at e4
  simp [sMeshOk_c _ _ _ _ (hI.app _) hl, hI.one', hI.cells]
  refine wp_joino (F := ?F) (k := ?k) (o := ?o) (Q := ?Q) (fun t H' => t 3 = t 3 ∧ Ow Fl.int 3 H' (t 3) (chans w h b) ∧ (∀ j ∈ ids (t 3), H.length + 1 ≤ j) ∧ Chg H H' []) ?main ?rest
  case main =>
   intro rest
   refine wp_inv (fun n t H' => ∃ (i : Nat) (u : Value), n = M - i ∧ i ≤ M ∧ t 1 = .pointer (some ⟨H.length, 0, some 0⟩) ∧ t 3 = u ∧ t 4 = .bool (decide (meshOk w h b)) ∧ t 5 = .int .i64 i ∧ H'[H.length]? = some ⟨[.int .i64 w, .int .i64 h, v], 0, 33⟩ ∧
      Ow Fl.int 3 H' u (if meshOk w h b then chN w h b i else []) ∧ (∀ j ∈ ids u, H.length + 1 ≤ j) ∧ Chg H H' []) ?_ (n := M)
    ⟨0, .slice (some ⟨H.length + 1, 0, some 0⟩) 0 0, rfl, by omega, by simp, by simp, by simp, by simp, by simp, by
      have : (if meshOk w h b then chN w h b 0 else []) = [] := by split <;> rfl
      rw [this]; exact Ow.new (D := Fl.int) (e := 3) (xs := []) (H := H) (k := 1) (by simp) rfl rfl rfl, by simp, Chg.app _⟩
   rintro n t H' ⟨i, u, rfl, hi, t1, t3, t4, t5, b0, o, nu, ch⟩ ih
   have hI1 := ((hI.rd).chg ch (by simp)).isI
   have nc := fun F L => (sNodeCount_c (frz := F) (H := L) w h).trans (by rw [hN])
   have e4' : IntKind.i64.wrap (4 * (N : Int)) = (M : Int) := e4
   simp [t1, t3, t4, t5, VM.look, b0, nc, e4']
   refine wpg_dec ?_ ?_ <;> intro g1
   · simp [t1, t3, t4, t5, g1]
     refine wp_dec ?_ ?_ <;> intro hm
     · simp [t1, t3, t4, t5, VM.look, b0, hI.one', hI.cells, l03Has_c _ _ _ _ _ hI1 hl]
       have e1 : ∀ [Inhabited Unit], IntKind.i64.wrap ((i : Int) + 1) = ((i + 1 : Nat) : Int) := by intro _; rw [w64 (by omega) (by omega)]; omega
       rw [if_pos hm] at o
       refine wp_dec ?_ ?_ <;> intro g2
       · have hll : (chN w h b i).length ≤ i := chN_len _ _ _ _
         obtain ⟨u', H2, hap, o2, c2, n2⟩ := o.push (P := Try.prog) (frz := H.length) (ty := 22) (a := (i : Int)) (by simp) rfl (by omega) (fun j hj => by have := nu j hj; omega)
         simp only [Fl.int_f] at hap
         have l0 := ch.1
         have k0 := box_lt b0
         simp [t1, t3, t4, t5, hap]
         refine ih (M - (i + 1)) _ _ ⟨i + 1, u', rfl, by omega, by simp [t1], by simp, by simp [t4], by simp [e1], box_chg b0 c2 (fun hh => by have := nu _ hh; omega), ?_, fun j hj => ?_, ch.trans' c2 (fun j hj => .inr (by have := nu j hj; omega))⟩ (by omega)
         · rw [if_pos hm, chN_succ, if_pos g2]; exact o2
         · rcases n2 j hj with h1 | h1
           · exact nu j h1
           · omega
       · simp [t1, t3, t4, t5]
         refine ih (M - (i + 1)) _ _ ⟨i + 1, u, rfl, by omega, by simp [t1], by simp [t3], by simp [t4], by simp [e1], b0, ?_, nu, ch⟩ (by omega)
         rw [if_pos hm, chN_succ, if_neg g2]; exact o
     · rw [if_neg hm] at o
       simp [t1, t3, t4, t5, -go_exit_blk]
       refine rest _ _ ?_
       have hch : chans w h b = [] := if_neg hm
       exact ⟨rfl, by simp [t3, hch]; exact o, by simp [t3]; exact nu, ch⟩
   · have him : i = M := by omega
     simp [t1, t3, t4, t5, g1, -go_exit_blk]
     refine rest _ _ ?_
     refine ⟨rfl, ?_, by simp [t3]; exact nu, ch⟩
     simp [t3]
     unfold chans; rw [hNt, ← hM, ← him]; exact o
  case rest =>
    rintro t H' ⟨_, o, nu, ch⟩
    simp
    exact ⟨o, fun j hj => by have := nu j hj; omega, ch⟩
theorem sameInts_c (v u : Value) (xs ys : List Int) (hI : IsI H v xs) (hJ : IsI H u ys) (hl : xs.length ≤ 1073741824) : vcall C frz 54 [v, u] H = some (.bool (decide (xs = ys)), H) := by
  refine wp.exact (by simp) ?_ rfl
  rw [vcall_go (fn := Try.f54) Try.func54 rfl (by kernel_rfl) rfl]
  simp [hI.len, hJ.len]
  refine wp_dec ?_ ?_ <;> intro g0
  · have hle : xs.length = ys.length := by omega
    simp
    refine wp_inv (fun n t H' => ∃ i : Nat, n = xs.length - i ∧ i ≤ xs.length ∧ t 0 = v ∧ t 1 = u ∧ t 5 = .int .i64 i ∧ H' = H ∧ xs.take i = ys.take i) ?_ (n := xs.length) ⟨0, rfl, by omega, by simp, by simp, by simp, rfl, rfl⟩
    rintro n t H' ⟨i, rfl, hi, t0, t1, t5, hH, he⟩ ih
    rw [hH]
    simp [t0, t1, t5, hI.len]
    refine wp_dec ?_ ?_ <;> intro g1
    · have q1 := hI.idx (P := Try.prog) (ty := 22) (e := 3) (by simp) (i := (i : Int)) (by omega) (by omega)
      have r1 := (hI.load (P := Try.prog) (e := 3) (by simp) g1).trans (by rw [getD_get _ _ g1])
      have q2 := hJ.idx (P := Try.prog) (ty := 22) (e := 3) (by simp) (i := (i : Int)) (by omega) (by omega)
      have g1' : i < ys.length := by omega
      have r2 := (hJ.load (P := Try.prog) (e := 3) (by simp) g1').trans (by rw [getD_get _ _ g1'])
      simp only [Int.toNat_natCast] at q1 q2
      simp [t0, t1, t5]
      rw [go_draw (h := by kernel_rfl)]
      simp [t0, t1, t5, q1, r1, q2, r2]
      refine wp_dec ?_ ?_ <;> intro g2
      · simp [t0, t1, t5]
        refine ih (xs.length - (i + 1)) _ _ ⟨i + 1, rfl, by omega, by simp [t0], by simp [t1], ?_, rfl, ?_⟩ (by omega)
        · simp; rw [w64 (by omega) (by omega)]
        · rw [List.take_succ_eq_append_getElem g1, List.take_succ_eq_append_getElem g1', he, g2]
      · simp
        intro hh; subst hh; exact g2 rfl
    · have him : i = xs.length := by omega
      simp
      rw [him, List.take_length] at he
      rw [he, hle, List.take_length]
  · simp
    intro hh; exact g0 (by rw [hh])
theorem hasI_c (v : Value) (xs : List Int) (k : Int) (hI : IsI H v xs) (hl : xs.length ≤ 1073741824) : vcall C frz 28 [v, .int .i64 k] H = some (.bool (decide (k ∈ xs)), H) := by
  refine wp.exact (by simp) ?_ rfl
  rw [vcall_go (fn := Try.f28) Try.func28 rfl (by kernel_rfl) rfl]
  simp
  refine wp_inv (fun n t H' => ∃ i : Nat, n = xs.length - i ∧ i ≤ xs.length ∧ t 0 = v ∧ t 1 = .int .i64 k ∧ t 5 = .int .i64 i ∧ H' = H ∧ k ∉ xs.take i) ?_ (n := xs.length) ⟨0, rfl, by omega, by simp, by simp, by simp, rfl, by simp⟩
  rintro n t H' ⟨i, rfl, hi, t0, t1, t5, hH, he⟩ ih
  rw [hH]
  simp [t0, t1, t5, hI.len]
  refine wp_dec ?_ ?_ <;> intro g1
  · have q1 := hI.idx (P := Try.prog) (ty := 22) (e := 3) (by simp) (i := (i : Int)) (by omega) (by omega)
    have r1 := (hI.load (P := Try.prog) (e := 3) (by simp) g1).trans (by rw [getD_get _ _ g1])
    simp only [Int.toNat_natCast] at q1
    simp [t0, t1, t5, q1, r1]
    refine wp_dec ?_ ?_ <;> intro g2
    · simp
      rw [← g2]; exact List.getElem_mem g1
    · simp [t0, t1, t5]
      refine ih (xs.length - (i + 1)) _ _ ⟨i + 1, rfl, by omega, by simp [t0], by simp [t1], ?_, rfl, ?_⟩ (by omega)
      · simp; rw [w64 (by omega) (by omega)]
      · rw [List.take_succ_eq_append_getElem g1]
        intro hh
        rcases List.mem_append.1 hh with hh | hh
        · exact he hh
        · exact g2 (List.mem_singleton.1 hh).symm
  · have him : i = xs.length := by omega
    simp
    rw [him, List.take_length] at he
    exact he
/-! plain: one channel more is broken -/
theorem broke_mem {b : List Int} {c x : Int} : x ∈ broke b c ↔ x ∈ b ∨ x = c := by
  unfold broke
  rw [(isort_perm _).mem_iff]; simp
theorem has_broke {w h : Int} {b : List Int} {c x : Int} : has w h (broke b c) x ↔ has w h b x ∧ x ≠ c := by
  unfold has
  rw [broke_mem]
  constructor
  · rintro ⟨h1, h2⟩; exact ⟨⟨h1, fun hh => h2 (.inl hh)⟩, fun hh => h2 (.inr hh)⟩
  · rintro ⟨⟨h1, h2⟩, h3⟩; exact ⟨h1, fun hh => hh.elim h2 h3⟩
theorem meshOk_broke {w h : Int} {b : List Int} {c : Int} (hok : breakOk w h b c) : meshOk w h (broke b c) := by
  obtain ⟨hm, hl, hn⟩ := hok
  obtain ⟨m1, m2, m3⟩ := (meshOk_iff w h b).1 hm
  refine (meshOk_iff w h _).2 ⟨m1, fun x hx => ?_, ?_⟩
  · rcases broke_mem.1 hx with h1 | h1
    · exact m2 x h1
    · rw [h1]; exact hl
  · have hs := isort_sorted (b ++ [c])
    have hnd : (b ++ [c]).Nodup := by
      rw [List.nodup_append]
      refine ⟨m3.imp (fun h => by omega), by simp, fun x hx y hy => ?_⟩
      rw [List.mem_singleton.1 hy]
      intro e; subst e; exact hn hx
    have hnd2 : (isort (b ++ [c])).Nodup := (isort_perm _).nodup_iff.2 hnd
    have := List.pairwise_and_iff.2 ⟨hs, hnd2⟩
    exact this.imp (fun h => by obtain ⟨h1, h2⟩ := h; omega)
theorem chN_broke {w h : Int} {b : List Int} {k : Nat} (hk : has w h b (k : Int)) : ∀ m, (chN w h (broke b k) m).length + (if k < m then 1 else 0) = (chN w h b m).length
  | 0 => by simp [chN]
  | m + 1 => by
    have ih := chN_broke hk m
    rw [chN_succ, chN_succ]
    by_cases hm : has w h b (m : Int)
    · rw [if_pos hm]
      by_cases hkm : k = m
      · subst hkm
        rw [if_neg (fun hh => (has_broke.1 hh).2 rfl), if_pos (by omega)]
        rw [if_neg (by omega)] at ih
        simp; omega
      · rw [if_pos (has_broke.2 ⟨hm, by omega⟩)]
        simp
        by_cases h1 : k < m
        · rw [if_pos h1] at ih; rw [if_pos (by omega)]; omega
        · rw [if_neg h1] at ih; rw [if_neg (by omega)]; omega
    · rw [if_neg hm, if_neg (fun hh => hm (has_broke.1 hh).1)]
      have : k ≠ m := fun e => by subst e; exact hm hk
      by_cases h1 : k < m
      · rw [if_pos h1] at ih; rw [if_pos (by omega)]; omega
      · rw [if_neg h1] at ih; rw [if_neg (by omega)]; omega
theorem chans_broke {w h : Int} {b : List Int} {c : Int} (hok : breakOk w h b c) : (chans w h (broke b c)).length + 1 = (chans w h b).length ∧ c ∉ chans w h (broke b c) := by
  have hl := hok.2.1.1
  have hc := cnt_range w h
  obtain ⟨k, rfl⟩ := Int.eq_ofNat_of_zero_le hl.1
  unfold chans
  rw [if_pos (meshOk_broke hok), if_pos hok.1]
  have := chN_broke hok.2 (4 * (cnt w h).toNat)
  rw [if_pos (by omega)] at this
  exact ⟨this, fun hh => (has_broke.1 (chN_mem hh)).2 rfl⟩
theorem chans_has {w h : Int} {b : List Int} {x : Int} (hx : x ∈ chans w h b) : breakOk w h b x := by
  unfold chans at hx
  by_cases hm : meshOk w h b
  · rw [if_pos hm] at hx; exact ⟨hm, chN_mem hx⟩
  · rw [if_neg hm] at hx; cases hx
theorem chans_len (w h : Int) (b : List Int) : (chans w h b).length ≤ 64 := by
  have hc := cnt_range w h
  unfold chans
  split
  · have := chN_len w h b (4 * (cnt w h).toNat); omega
  · simp
end Go.Proofs.Ytnakhkfgheapoaa.V
/-! The law FnTrees. -/
set_option linter.all false
namespace Go.Proofs.Ytnakhkfgheapoaa.V
open Go Go.VM Go.Proofs
set_option maxRecDepth 10000
variable {frz : Nat} {H : Heap}
theorem law_FnTrees_w {a0 : List Int} {u0 : Value} (s0 : IsS (Kn.int .u8) H u0 a0)
    (w0 : a0.length ≤ maxLen ∧ ∀ x1 ∈ a0, (Lit.int .u8 x1).wf = true) :
    wp (vcall C frz 5 [u0] H) (fun r _ => r = .bool true) := by
  have r0 := IsS_bytes s0
  rw [vcall_go (fn := Try.f5) Try.func5 rfl (by kernel_rfl) rfl]
  simp [big_c _ _ r0]
  refine wp_dec ?_ ?_ <;> intro g0
  · simp
  · simp
    refine wp_thn (drawMesh_w u0 a0 r0 (by omega)) ?_
    rintro _ H1 ⟨v, w, h, b, rfl, hm, om, nm, c1⟩
    have one1 := And.intro om.rd.one' om.rd.cells
    have hlb := brk_len hm
    have cn1 := c1.1
    simp [VM.look, one1, cn1]
    refine wp_thn (drawPlaces_w u0 a0 (r0.chg c1 (by simp)).app (by omega)) ?_
    rintro u H2 ⟨xs, o, hx, hr, nu, c2⟩
    have b2 : H2[H1.length]? = some ⟨[.int .i64 w, .int .i64 h, v], 0, 33⟩ := box_chg (by simp) c2 (by simp)
    have om2 := (om.app (L := [⟨[.int .i64 w, .int .i64 h, v], 0, 33⟩])).chg c2 (by simp)
    have hg : okG w h := hm.2
    obtain ⟨N, hN⟩ : ∃ N : Nat, w * h = N := ⟨(w * h).toNat, by have := mul_small hg; omega⟩
    have hN1 : 1 ≤ N ∧ N ≤ 16 := by have := mul_small hg; omega
    have hcnt : cnt w h = N := by unfold cnt; rw [if_pos hg]; exact hN
    have fN : ∀ [Inhabited Unit], IntKind.i64.wrap (w * h) = (N : Int) := by intro _; rw [hN, w64 (by omega) (by omega)]
    have pick : ∀ j, (hj : j < xs.length) → ∃ q : Nat, q < N ∧ (xs[j]).tmod (N : Int) = (q : Int) := fun j hj => by
      have e0 := hr xs[j] (List.getElem_mem hj)
      have h1 := Int.emod_lt_of_pos xs[j] (show (0 : Int) < N by omega)
      have h2 := Int.emod_nonneg xs[j] (show (N : Int) ≠ 0 by omega)
      exact ⟨(xs[j] % (N : Int)).toNat, by omega, by rw [Int.tmod_eq_emod_of_nonneg e0.1]; omega⟩
    obtain ⟨R, hR, tR⟩ := pick 0 (by omega)
    have q0 := ow_ix0 o (i := 0) (by omega)
    have ea : vindexAddr Try.prog H2 22 u (.int .i64 0) = some (elp u 0) := q0.1
    have q0b := q0.2
    have wr : ∀ [Inhabited Unit], IntKind.i64.wrap (R : Int) = (R : Int) := by intro _; exact w64 (by omega) (by omega)
    have hNz : ¬ N = 0 := by omega
    simp [VM.look, b2, fN, ea, q0b, tR, wr, hNz, one1]
    refine wp_thn (treeDepths_w w h v b R om2.rd.isI (by omega)) ?_
    rintro d H3 ⟨L3, e3, od, nd⟩
    have b3 := get_app' b2 L3
    have om3 := om2.app (L := L3)
    rw [← e3] at b3 om3 od
    simp [VM.look, b3, one1]
    refine wp_thn (treeParents_w w h v b R om3.rd.isI (by omega)) ?_
    rintro p H4 ⟨L4, e4, op, np⟩
    have od4 := od.app (L := L4)
    rw [← e4] at od4 op
    have HR : rootOk w h b R := ⟨hm, by omega, by omega⟩
    have hdl := (depths_inv HR).1
    have hpl := parents_length w h b R
    have ld := od4.rd.len (P := Try.prog) (ty := 22) (by simp)
    have lp := op.rd.len (P := Try.prog) (ty := 22) (by simp)
    have hdN : (depths w h b R).length = N := by omega
    have hpN : (parents w h b R).length = N := by omega
    have b4 := get_app' b3 L4
    have om4 := om3.app (L := L4)
    rw [← e4] at b4 om4
    have iR : isN w h R := ⟨by omega, by omega⟩
    have gR := ow_ix0 od4 (i := R) (by omega)
    have gRa := gR.1
    have gRb := gR.2
    have gP := ow_ix0 op (i := R) (by omega)
    have gPa := gP.1
    have gPb := gP.2
    have dR : (depths w h b R)[R] = 0 := by rw [← rd_at (by omega)]; exact (depths_inv2 HR).zero.1
    have pR : (parents w h b R)[R] = -1 := by rw [← rd_at (by omega)]; exact par_not HR iR (by rw [(depths_inv2 HR).zero.1]; omega)
    rw [dR] at gRb
    rw [pR] at gPb
    simp [ld, lp, hdN, hpN, gRa, gRb, gPa, gPb]
    have dc := fun F a c => distance_c (frz := F) (H := H4) w h a c
    have dt := fun F => depthOfTree_c (frz := F) (H := H4) w h v b R om4.rd.isI (by omega)
    have ic := fun F => isConnected_c (frz := F) (H := H4) w h v b om4.rd.isI (by omega)
    refine wp_inv (fun n t H' => ∃ i : Nat, n = N - i ∧ i ≤ N ∧ t 3 = .pointer (some ⟨H1.length, 0, some 0⟩) ∧ t 5 = .int .i64 N ∧ t 6 = .int .i64 R ∧ t 7 = d ∧ t 8 = p ∧ t 10 = .int .i64 i ∧ t 9 = .bool (decide (∀ j : Nat, j < i → 0 ≤ rd (depths w h b R) j)) ∧ H' = H4) ?_ (n := N)
      ⟨0, rfl, by omega, by simp, by simp, by simp, by simp, by simp, by simp, by simp, rfl⟩
    rintro n t H' ⟨i, rfl, hi, t3, t5, t6, t7, t8, t10, t9, hH⟩ ih
    rw [hH]
    simp [t3, t5, t6, t7, t8, t9, t10]
    refine wp_dec ?_ ?_ <;> intro g1
    · have iI : isN w h i := ⟨by omega, by omega⟩
      have gI := ow_ix0 od4 (i := i) (by omega)
      have gIa := gI.1
      have gIb := gI.2
      have rI : (depths w h b R)[i] = rd (depths w h b R) i := (rd_at (by omega)).symm
      rw [rI] at gIb
      have gQ := ow_ix0 op (i := i) (by omega)
      have gQa := gQ.1
      have gQb := gQ.2
      have rQ : (parents w h b R)[i] = rd (parents w h b R) i := (rd_at (by omega)).symm
      rw [rQ] at gQb
      have e1 : ∀ [Inhabited Unit], IntKind.i64.wrap ((i : Int) + 1) = ((i + 1 : Nat) : Int) := by intro _; rw [w64 (by omega) (by omega)]; omega
      refine wp_join (F := ?F) (k := ?k) (Q := ?Q) (fun t H' => t 3 = .pointer (some ⟨H1.length, 0, some 0⟩) ∧ t 5 = .int .i64 N ∧ t 6 = .int .i64 R ∧ t 7 = d ∧ t 8 = p ∧ t 10 = .int .i64 i ∧ t 9 = .bool (decide (∀ j : Nat, j < i + 1 → 0 ≤ rd (depths w h b R) j)) ∧ H' = H4) ?main ?rest
      case main =>
        intro rest
        by_cases hP : ∀ j : Nat, j < i → 0 ≤ rd (depths w h b R) j
        · rw [decide_eq_true hP] at t9
          simp [t3, t5, t6, t7, t8, t9, t10, gIa, gIb, hP]
          refine rest _ _ ?_
          refine ⟨by simp [t3], by simp [t5], by simp [t6], by simp [t7], by simp [t8], by simp [t10], ?_, rfl⟩
          simp
          constructor
          · intro h0 j hj
            by_cases hji : j = i
            · subst hji; exact h0
            · exact hP j (by omega)
          · intro h0; exact h0 i (by omega)
        · rw [decide_eq_false hP] at t9
          simp [t3, t5, t6, t7, t8, t9, t10]
          refine rest _ _ ?_
          refine ⟨by simp [t3], by simp [t5], by simp [t6], by simp [t7], by simp [t8], by simp [t10], ?_, rfl⟩
          have : ¬ ∀ j : Nat, j < i + 1 → 0 ≤ rd (depths w h b R) j := fun hh => hP (fun j hj => hh j (by omega))
          simp [this]
      case rest =>
        rintro t H' ⟨t3, t5, t6, t7, t8, t10, t9, hH⟩
        rw [hH]
        rw [go_draw (h := by kernel_rfl)]
        have bI := (depths_inv HR).2 _ (rd_mem (s := depths w h b R) (k := i) (by omega) (by omega))
        have bm : rd (depths w h b R) i ≤ depthOf w h b R := (le_foldl_max (rd_mem (s := depths w h b R) (k := i) (by omega) (by omega))).1
        have nb : ¬ depthOf w h b R < rd (depths w h b R) i := by omega
        have dd : 0 ≤ rd (depths w h b R) i → dist w h R i ≤ rd (depths w h b R) i := fun h0 => by
          obtain ⟨n, hn⟩ := Int.eq_ofNat_of_zero_le h0
          have := depth_dist HR n iI hn; omega
        have back : ∀ t' : Env, t' 3 = .pointer (some ⟨H1.length, 0, some 0⟩) → t' 5 = .int .i64 N → t' 6 = .int .i64 R → t' 7 = d → t' 8 = p → t' 9 = .bool (decide (∀ j : Nat, j < i + 1 → 0 ≤ rd (depths w h b R) j)) → t' 10 = .int .i64 (i + 1 : Nat) →
            ∃ i' : Nat, N - (i + 1) = N - i' ∧ i' ≤ N ∧ t' 3 = .pointer (some ⟨H1.length, 0, some 0⟩) ∧ t' 5 = .int .i64 N ∧ t' 6 = .int .i64 R ∧ t' 7 = d ∧ t' 8 = p ∧ t' 10 = .int .i64 i' ∧ t' 9 = .bool (decide (∀ j : Nat, j < i' → 0 ≤ rd (depths w h b R) j)) ∧ H4 = H4 :=
          fun t' s3 s5 s6 s7 s8 s9 s10 => ⟨i + 1, rfl, by omega, s3, s5, s6, s7, s8, s10, s9, rfl⟩
        by_cases h1 : 0 < rd (depths w h b R) i
        · obtain ⟨p1, p2⟩ := par_step HR iI h1
          have p3 := (par_dist HR iI h1).1
          have h0 : 0 ≤ rd (depths w h b R) i := by omega
          have nd : ¬ rd (depths w h b R) i < dist w h R i := by have := dd h0; omega
          obtain ⟨q, hq⟩ := Int.eq_ofNat_of_zero_le p1.1
          rw [hq] at p1 p2 p3 gQb
          have hqN : q < N := by have := p1.2; omega
          have gq := ow_ix0 od4 (i := q) (by omega)
          have gqa := gq.1
          have gqb := gq.2
          have rq : (depths w h b R)[q] = rd (depths w h b R) q := (rd_at (by omega)).symm
          rw [rq, p2] at gqb
          have m1 : ∀ [Inhabited Unit], IntKind.i64.wrap (rd (depths w h b R) i - 1) = rd (depths w h b R) i - 1 := by intro _; rw [w64 (by omega) (by omega)]
          have n1 : ¬ N ≤ q := by omega
          simp [t3, t5, t6, t7, t8, t9, t10, gIa, gIb, VM.look, b4, one1, dc, dt, h0, nd, nb]
          rw [go_draw (h := by kernel_rfl)]
          simp [t3, t5, t6, t7, t8, t9, t10, gIa, gIb, gQa, gQb, gqa, gqb, VM.look, b4, one1, dc, h1, m1, n1, p3]
          refine ih (N - (i + 1)) _ _ (back _ ?_ ?_ ?_ ?_ ?_ ?_ ?_) (by omega) <;> simp [t3, t5, t6, t7, t8, t9, t10, e1]
        · have hq := par_not HR iI (by omega)
          rw [hq] at gQb
          by_cases h0 : 0 ≤ rd (depths w h b R) i
          · have nd : ¬ rd (depths w h b R) i < dist w h R i := by have := dd h0; omega
            simp [t3, t5, t6, t7, t8, t9, t10, gIa, gIb, VM.look, b4, one1, dc, dt, h0, nd, nb]
            rw [go_draw (h := by kernel_rfl)]
            have n1 : ¬ (N : Int) ≤ -1 := by omega
            simp [t3, t5, t6, t7, t8, t9, t10, gIa, gIb, gQa, gQb, VM.look, b4, one1, dc, h1, n1]
            refine ih (N - (i + 1)) _ _ (back _ ?_ ?_ ?_ ?_ ?_ ?_ ?_) (by omega) <;> simp [t3, t5, t6, t7, t8, t9, t10, e1]
          · simp [t3, t5, t6, t7, t8, t9, t10, gIa, gIb, VM.look, b4, one1, dc, dt, h0, nb]
            rw [go_draw (h := by kernel_rfl)]
            have n1 : ¬ (N : Int) ≤ -1 := by omega
            simp [t3, t5, t6, t7, t8, t9, t10, gIa, gIb, gQa, gQb, VM.look, b4, one1, dc, h1, n1]
            refine ih (N - (i + 1)) _ _ (back _ ?_ ?_ ?_ ?_ ?_ ?_ ?_) (by omega) <;> simp [t3, t5, t6, t7, t8, t9, t10, e1]
    · have hiN : i = N := by omega
      simp [t3, t5, t6, t7, t8, t9, t10, VM.look, b4, one1, ic]
      refine (conn_iff HR).trans ⟨fun hh j hj => hh j ⟨by omega, by omega⟩, fun hh x hx => ?_⟩
      have hx1 := hx.1
      have hx2 := hx.2
      obtain ⟨j, rfl⟩ := Int.eq_ofNat_of_zero_le hx1
      exact hh j (by omega)
theorem law_FnTrees {a0 : List Int} {u0 : Value} (s0 : IsS (Kn.int .u8) H u0 a0)
    (w0 : a0.length ≤ maxLen ∧ ∀ x1 ∈ a0, (Lit.int .u8 x1).wf = true) :
    vcall C frz 5 [u0] H = some (.bool true, H) :=
  (law_FnTrees_w s0 w0).exact (by simp) rfl
end Go.Proofs.Ytnakhkfgheapoaa.V
