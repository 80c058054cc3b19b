/- Texts of a proof, joined. -/
import Derived.Test.YtcigpclbhfkgaaaKM0
import Derived.Test.YtcigpclbhfkgaaaKM1
import Derived.Test.YtcigpclbhfkgaaaKFnExactSameChip0
/-! Latency without load; requests and replies. -/
set_option linter.all false
namespace Go.Proofs.Ytcigpclbhfkgaaa.V
open Go Go.VM Go.Proofs
set_option maxRecDepth 10000
variable {frz : Nat} {H : Heap}
def classesOk (w h : Int) (b A B : List Int) : Prop := tableOk w h b A ∧ tableOk w h b B
instance (w h : Int) (b A B : List Int) : Decidable (classesOk w h b A B) := inferInstanceAs (Decidable (_ ∧ _))
/-- a packet: its number, whence, whither, class, length -/
abbrev PkD := Int × Int × Int × Int × Int
def packetOk (w h : Int) (p : PkD) : Prop := inR 1 p.1 9999 ∧ isN w h p.2.1 ∧ isN w h p.2.2.1 ∧ p.2.1 ≠ p.2.2.1 ∧ inR 0 p.2.2.2.1 1 ∧ inR 1 p.2.2.2.2 5
instance (w h : Int) (p : PkD) : Decidable (packetOk w h p) := inferInstanceAs (Decidable (_ ∧ _))
def pkV (p : PkD) : Value := .agg #[.int .i64 p.1, .int .i64 p.2.1, .int .i64 p.2.2.1, .int .i64 p.2.2.2.1, .int .i64 p.2.2.2.2]
theorem classesOk_c (w h : Int) (v u1 u2 : Value) (b A B : List Int) (hI : IsI H v b) (h1 : IsI H u1 A) (h2 : IsI H u2 B) (hl : b.length ≤ 1073741824) :
   vcall C frz 80 [.agg #[.int .i64 w, .int .i64 h, v], .agg #[u1, u2]] H = some (.bool (decide (classesOk w h b A B)), H) := by
  rw [vcall_go (fn := Try.f80) Try.func80 rfl (by kernel_rfl) rfl]
  have one := And.intro (And.intro h1.one' h1.cells) (And.intro h2.one' h2.cells)
  simp [hI.one', hI.cells, one, tableOk_c _ _ _ _ _ _ (hI.app _) (h1.app _) hl]
  refine gd_dec _ _ ?_ ?_ <;> intro g <;> simp [g, classesOk, hI.one', hI.cells, one, tableOk_c _ _ _ _ _ _ (hI.app _) (h2.app _) hl]
theorem sClassesOk_c (w h : Int) (v u1 u2 : Value) (b A B : List Int) (hI : IsI H v b) (h1 : IsI H u1 A) (h2 : IsI H u2 B) (hl : b.length ≤ 1073741824) :
   vcall C frz 77 [.agg #[.int .i64 w, .int .i64 h, v], .agg #[u1, u2]] H = some (.bool (decide (classesOk w h b A B)), H) := by
  rw [vcall_go (fn := Try.f77) Try.func77 rfl (by kernel_rfl) rfl]
  have one := And.intro (And.intro h1.one' h1.cells) (And.intro h2.one' h2.cells)
  simp [hI.one', hI.cells, one, sTableOk_c _ _ _ _ _ _ (hI.app _) (h1.app _) hl]
  refine gd_dec _ _ ?_ ?_ <;> intro g <;> simp [g, classesOk, hI.one', hI.cells, one, sTableOk_c _ _ _ _ _ _ (hI.app _) (h2.app _) hl]
theorem packetOk_c (w h : Int) (p : PkD) : vcall C frz 93 [.agg #[.int .i64 w, .int .i64 h], pkV p] H = some (.bool (decide (packetOk w h p)), H) := by
  obtain ⟨i, a, b, c, l⟩ := p
  rw [vcall_go (fn := Try.f93) Try.func93 rfl (by kernel_rfl) rfl]
  by_cases g1 : inR 1 i 9999
  · by_cases g2 : isN w h a
    · by_cases g3 : isN w h b
      · by_cases g4 : a = b
        · simp [pkV, inside_c, isNode_c, g1, g2, g3, g4, packetOk]
        · by_cases g5 : inR 0 c 1
          · by_cases g6 : inR 1 l 5 <;> simp [pkV, inside_c, isNode_c, g1, g2, g3, g4, g5, g6, packetOk]
          · simp [pkV, inside_c, isNode_c, g1, g2, g3, g4, g5, packetOk]
      · simp [pkV, inside_c, isNode_c, g1, g2, g3, packetOk]
    · simp [pkV, inside_c, isNode_c, g1, g2, packetOk]
  · simp [pkV, inside_c, isNode_c, g1, packetOk]
theorem sPacketOk_c (w h : Int) (p : PkD) : vcall C frz 91 [.agg #[.int .i64 w, .int .i64 h], pkV p] H = some (.bool (decide (packetOk w h p)), H) := by
  obtain ⟨i, a, b, c, l⟩ := p
  rw [vcall_go (fn := Try.f91) Try.func91 rfl (by kernel_rfl) rfl]
  by_cases g1 : inR 1 i 9999
  · by_cases g2 : isN w h a
    · by_cases g3 : isN w h b
      · by_cases g4 : a = b
        · simp [pkV, l01In_c, l02Has_c, g1, g2, g3, g4, packetOk]
        · by_cases g5 : inR 0 c 1
          · by_cases g6 : inR 1 l 5 <;> simp [pkV, l01In_c, l02Has_c, g1, g2, g3, g4, g5, g6, packetOk]
          · simp [pkV, l01In_c, l02Has_c, g1, g2, g3, g4, g5, packetOk]
      · simp [pkV, l01In_c, l02Has_c, g1, g2, g3, packetOk]
    · simp [pkV, l01In_c, l02Has_c, g1, g2, packetOk]
  · simp [pkV, l01In_c, l02Has_c, g1, packetOk]
def zeroLoad (w h : Int) (b A B : List Int) (p : PkD) : Int :=
  if classesOk w h b A B ∧ packetOk w h p then ((walk w h b (if p.2.2.2.1 = 1 then B else A) p.2.1 p.2.2.1).length : Int) + p.2.2.2.2 + 1 else -1
theorem zeroLoad_range (w h : Int) (b A B : List Int) (p : PkD) : -1 ≤ zeroLoad w h b A B p ∧ zeroLoad w h b A B p ≤ 100 := by
  unfold zeroLoad; split
  · rename_i g
    have h1 := g.2.2.2.2.2.2
    have := walk_len w h b (if p.2.2.2.1 = 1 then B else A) p.2.1 p.2.2.1
    unfold inR at h1; omega
  · omega
theorem tableFor_w (u1 u2 : Value) (A B : List Int) (c : Int) (h1 : IsI H u1 A) (h2 : IsI H u2 B) :
   wp (vcall C frz 112 [.agg #[u1, u2], .int .i64 c] H) (fun r H' => r = .agg #[if c = 1 then u2 else u1] ∧ ∃ L, H' = H ++ L) := by
  rw [vcall_go (fn := Try.f112) Try.func112 rfl (by kernel_rfl) rfl]
  have one := And.intro (And.intro h1.one' h1.cells) (And.intro h2.one' h2.cells)
  simp [one]
  refine wp_dec ?_ ?_ <;> intro g <;> simp [g, one]
theorem zeroLoad_c (w h : Int) (v u1 u2 : Value) (b A B : List Int) (p : PkD) (hI : IsI H v b) (h1 : IsI H u1 A) (h2 : IsI H u2 B) (hl : b.length ≤ 1073741824) :
   vcall C frz 56 [.agg #[.int .i64 w, .int .i64 h, v], .agg #[u1, u2], pkV p] H = some (.int .i64 (zeroLoad w h b A B p), H) := by
  refine wp.exact (by simp) ?_ rfl
  rw [vcall_go (fn := Try.f56) Try.func56 rfl (by kernel_rfl) rfl]
  have one := And.intro (And.intro h1.one' h1.cells) (And.intro h2.one' h2.cells)
  have onev := And.intro hI.one' hI.cells
  have pk := fun F L => packetOk_c (frz := F) (H := L) w h p
  have hz : zeroLoad w h b A B p = if classesOk w h b A B ∧ packetOk w h p then ((walk w h b (if p.2.2.2.1 = 1 then B else A) p.2.1 p.2.2.1).length : Int) + p.2.2.2.2 + 1 else -1 := rfl
  obtain ⟨i, a, c, k, l⟩ := p
  simp only [pkV] at pk ⊢
  simp [onev, one, classesOk_c _ _ _ _ _ _ _ _ (hI.app _) (h1.app _) (h2.app _) hl]
  by_cases g1 : classesOk w h b A B
  · by_cases g2 : packetOk w h (i, a, c, k, l)
    · simp [g1, g2, pk, onev, one]
      rw [if_pos ⟨g1, g2⟩] at hz
      obtain ⟨k1, k2, k3, k4, k5, k6⟩ := g2
      simp only at k1 k2 k3 k4 k5 k6 hz
      rw [go_draw (h := by kernel_rfl)]
      simp [onev, one]
      refine wp_thn (tableFor_w u1 u2 A B k (h1.app _) (h2.app _)) ?_
      rintro _ H1 ⟨rfl, L, rfl⟩
      have hT : IsI H (if k = 1 then u2 else u1) (if k = 1 then B else A) := by split <;> assumption
      have hok : tableOk w h b (if k = 1 then B else A) := by split; exact g1.2; exact g1.1
      have hwl := walk_len w h b (if k = 1 then B else A) a c
      generalize (if k = 1 then u2 else u1) = uT at *
      generalize (if k = 1 then B else A) = T at *
      have wt := fun F L => walkT_c (frz := F) (H := H ++ L) w h v uT b T a c (hI.app _) (hT.app _) hl hok k2 k3
      simp only [List.append_assoc]
      unfold inR at k6
      have f0 : ∀ [Inhabited Unit], IntKind.i64.wrap l = l := by intro _; exact w64 (by omega) (by omega)
      have f1 : ∀ [Inhabited Unit], IntKind.i64.wrap (l + 1) = l + 1 := by intro _; exact w64 (by omega) (by omega)
      have f2 : ∀ [Inhabited Unit], IntKind.i64.wrap ((walk w h b T a c).length + l) = (walk w h b T a c).length + l := by intro _; exact w64 (by omega) (by omega)
      have f3 : ∀ [Inhabited Unit], IntKind.i64.wrap ((walk w h b T a c).length + l + 1) = (walk w h b T a c).length + l + 1 := by intro _; exact w64 (by omega) (by omega)
      simp [onev, one, hT.one', hT.cells, wt, hz]
      unfold ret
      by_cases h0 : walk w h b T a c = []
      · simp [h0, f0, f1]
      · simp [h0, f2, f3]
    · simp [g1, g2, pk, onev, one, hz]
  · by_cases g2 : packetOk w h (i, a, c, k, l) <;> simp [g1, g2, pk, onev, one, hz]
theorem sL27_c (w h : Int) (v u1 u2 : Value) (b A B : List Int) (i a c k l : Int) (hI : IsI H v b) (h1 : IsI H u1 A) (h2 : IsI H u2 B) (hl : b.length ≤ 1073741824) (g1 : classesOk w h b A B) (k2 : isN w h a) (k3 : isN w h c) (k4 : a ≠ c) (k6 : inR 1 l 5) :
   vcall C frz 110 [.agg #[.int .i64 w, .int .i64 h, v], .agg #[u1, u2], .agg #[.int .i64 i, .int .i64 a, .int .i64 c, .int .i64 k, .int .i64 l]] H = some (.int .i64 (((walk w h b (if k = 1 then B else A) a c).length : Int) + l + 1), H) := by
  refine wp.exact (by simp) ?_ rfl
  rw [vcall_go (fn := Try.f110) Try.func110 rfl (by kernel_rfl) rfl]
  have one := And.intro (And.intro h1.one' h1.cells) (And.intro h2.one' h2.cells)
  have onev := And.intro hI.one' hI.cells
  simp [onev, one]
  have core : ∀ (T : List Int), tableOk w h b T → ∀ [Inhabited Unit], IntKind.i64.wrap ((walk w h b T a c).length + l) = (walk w h b T a c).length + l ∧ IntKind.i64.wrap ((walk w h b T a c).length + l + 1) = (walk w h b T a c).length + l + 1 := fun T hT => by
    intro _
    have hwl := walk_len w h b T a c
    unfold inR at k6
    exact ⟨w64 (by omega) (by omega), w64 (by omega) (by omega)⟩
  refine wp_dec ?_ ?_ <;> intro g
  · simp [g, onev, one]
    have sw := fun F L => sWalk_c (frz := F) (H := H ++ L) w h v u2 b B a c (hI.app _) (h2.app _) hl g1.2.1 k2 k3
    rw [go_draw (h := by kernel_rfl)]
    simp [onev, one, sw, core B g1.2]
  · simp [g, onev, one]
    have sw := fun F L => sWalk_c (frz := F) (H := H ++ L) w h v u1 b A a c (hI.app _) (h1.app _) hl g1.1.1 k2 k3
    rw [go_draw (h := by kernel_rfl)]
    simp [onev, one, sw, core A g1.1]
theorem sZeroLoad_c (w h : Int) (v u1 u2 : Value) (b A B : List Int) (p : PkD) (hI : IsI H v b) (h1 : IsI H u1 A) (h2 : IsI H u2 B) (hl : b.length ≤ 1073741824) :
   vcall C frz 53 [.agg #[.int .i64 w, .int .i64 h, v], .agg #[u1, u2], pkV p] H = some (.int .i64 (zeroLoad w h b A B p), H) := by
  refine wp.exact (by simp) ?_ rfl
  rw [vcall_go (fn := Try.f53) Try.func53 rfl (by kernel_rfl) rfl]
  have one := And.intro (And.intro h1.one' h1.cells) (And.intro h2.one' h2.cells)
  have onev := And.intro hI.one' hI.cells
  have pk := fun F L => sPacketOk_c (frz := F) (H := L) w h p
  have hz : zeroLoad w h b A B p = if classesOk w h b A B ∧ packetOk w h p then ((walk w h b (if p.2.2.2.1 = 1 then B else A) p.2.1 p.2.2.1).length : Int) + p.2.2.2.2 + 1 else -1 := rfl
  obtain ⟨i, a, c, k, l⟩ := p
  simp only [pkV] at pk ⊢
  simp [onev, one, sClassesOk_c _ _ _ _ _ _ _ _ (hI.app _) (h1.app _) (h2.app _) hl]
  by_cases g1 : classesOk w h b A B
  · by_cases g2 : packetOk w h (i, a, c, k, l)
    · simp [g1, g2, pk, onev, one]
      rw [if_pos ⟨g1, g2⟩] at hz
      obtain ⟨k1, k2, k3, k4, k5, k6⟩ := g2
      simp only at k1 k2 k3 k4 k5 k6 hz
      have lz := fun F L => sL27_c (frz := F) (H := H ++ L) w h v u1 u2 b A B i a c k l (hI.app _) (h1.app _) (h2.app _) hl g1 k2 k3 k4 k6
      simp [lz, hz]
    · simp [g1, g2, pk, onev, one, hz]
  · by_cases g2 : packetOk w h (i, a, c, k, l) <;> simp [g1, g2, pk, onev, one, hz]
/-- a request and its reply -/
def replyTime (w h : Int) (b A B : List Int) (p : PkD) (n : Int) : Int :=
  if zeroLoad w h b A B p < 0 ∨ zeroLoad w h b A B (p.1, p.2.2.1, p.2.1, IntKind.i64.wrap (1 - p.2.2.2.1), n) < 0 then -1 else zeroLoad w h b A B p + zeroLoad w h b A B (p.1, p.2.2.1, p.2.1, IntKind.i64.wrap (1 - p.2.2.2.1), n)
theorem zeroLoad_id {w h : Int} {b A B : List Int} {i j a c k l : Int} (h1 : inR 1 i 9999) (h2 : inR 1 j 9999) : zeroLoad w h b A B (i, a, c, k, l) = zeroLoad w h b A B (j, a, c, k, l) := by
  unfold zeroLoad packetOk
  simp only [h1, h2]
theorem replyTime_c (w h : Int) (v u1 u2 : Value) (b A B : List Int) (i a c k l n : Int) (hI : IsI H v b) (h1 : IsI H u1 A) (h2 : IsI H u2 B) (hl : b.length ≤ 1073741824) :
   vcall C frz 17 [.agg #[.int .i64 w, .int .i64 h, v], .agg #[u1, u2], .agg #[.int .i64 i, .int .i64 a, .int .i64 c, .int .i64 k, .int .i64 l], .int .i64 n] H = some (.int .i64 (replyTime w h b A B (i, a, c, k, l) n), H) := by
  refine wp.exact (by simp) ?_ rfl
  rw [vcall_go (fn := Try.f17) Try.func17 rfl (by kernel_rfl) rfl]
  have one := And.intro (And.intro h1.one' h1.cells) (And.intro h2.one' h2.cells)
  have onev := And.intro hI.one' hI.cells
  have z1 := fun F L => zeroLoad_c (frz := F) (H := H ++ L) w h v u1 u2 b A B (i, a, c, k, l) (hI.app _) (h1.app _) (h2.app _) hl
  have z2 := fun F L => zeroLoad_c (frz := F) (H := H ++ L) w h v u1 u2 b A B (i, c, a, IntKind.i64.wrap (1 - k), n) (hI.app _) (h1.app _) (h2.app _) hl
  simp only [pkV] at z1 z2
  have r1 := zeroLoad_range w h b A B (i, a, c, k, l)
  have r2 := zeroLoad_range w h b A B (i, c, a, IntKind.i64.wrap (1 - k), n)
  unfold replyTime
  simp only
  generalize hq : IntKind.i64.wrap (1 - k) = kk at *
  generalize zeroLoad w h b A B (i, a, c, k, l) = Z1 at *
  generalize zeroLoad w h b A B (i, c, a, kk, n) = Z2 at *
  have e1 : ∀ [Inhabited Unit], IntKind.i64.wrap (Z1 + Z2) = Z1 + Z2 := by intro _; exact w64 (by omega) (by omega)
  simp [onev, one, hq]
  rw [go_draw (h := by kernel_rfl)]
  simp [onev, one, z1, z2]
  by_cases g1 : Z1 < 0
  · simp [g1]
  · by_cases g2 : Z2 < 0 <;> simp [g1, g2, e1]
theorem replyTime_d {v : Value} {u : Value × Value} {w h : Int} {b A B : List Int} {i a c k l n : Int} (o1 : dMesh.Ow H v (w, h, b)) (o2 : dClasses.Ow H u (A, B)) :
   vcall C frz 17 [dMesh.val v (w, h, b), dClasses.val u (A, B), .agg #[.int .i64 i, .int .i64 a, .int .i64 c, .int .i64 k, .int .i64 l], .int .i64 n] H = some (.int .i64 (replyTime w h b A B (i, a, c, k, l) n), H) :=
  replyTime_c w h v u.1 u.2 b A B i a c k l n o1.1.rd.isI o2.1.1.rd.isI o2.2.1.rd.isI o1.2
theorem sReplyTime_c (w h : Int) (v u1 u2 : Value) (b A B : List Int) (i a c k l n : Int) (hI : IsI H v b) (h1 : IsI H u1 A) (h2 : IsI H u2 B) (hl : b.length ≤ 1073741824) :
   vcall C frz 13 [.agg #[.int .i64 w, .int .i64 h, v], .agg #[u1, u2], .agg #[.int .i64 i, .int .i64 a, .int .i64 c, .int .i64 k, .int .i64 l], .int .i64 n] H = some (.int .i64 (replyTime w h b A B (i, a, c, k, l) n), H) := by
  refine wp.exact (by simp) ?_ rfl
  rw [vcall_go (fn := Try.f13) Try.func13 rfl (by kernel_rfl) rfl]
  have one := And.intro (And.intro h1.one' h1.cells) (And.intro h2.one' h2.cells)
  have onev := And.intro hI.one' hI.cells
  have z1 := fun F L => sZeroLoad_c (frz := F) (H := H ++ L) w h v u1 u2 b A B (i, a, c, k, l) (hI.app _) (h1.app _) (h2.app _) hl
  have z2 := fun F L => sZeroLoad_c (frz := F) (H := H ++ L) w h v u1 u2 b A B (1, c, a, IntKind.i64.wrap (1 - k), n) (hI.app _) (h1.app _) (h2.app _) hl
  simp only [pkV] at z1 z2
  have r1 := zeroLoad_range w h b A B (i, a, c, k, l)
  have r2 := zeroLoad_range w h b A B (1, c, a, IntKind.i64.wrap (1 - k), n)
  have same : ¬ zeroLoad w h b A B (i, a, c, k, l) < 0 → zeroLoad w h b A B (i, c, a, IntKind.i64.wrap (1 - k), n) = zeroLoad w h b A B (1, c, a, IntKind.i64.wrap (1 - k), n) := fun hz => by
    refine zeroLoad_id ?_ (by decide)
    unfold zeroLoad at hz
    split at hz
    · rename_i g; exact g.2.1
    · omega
  unfold replyTime
  simp only
  generalize hq : IntKind.i64.wrap (1 - k) = kk at *
  generalize zeroLoad w h b A B (i, a, c, k, l) = Z1 at *
  generalize zeroLoad w h b A B (1, c, a, kk, n) = Z2 at *
  generalize zeroLoad w h b A B (i, c, a, kk, n) = Z3 at *
  have e1 : ∀ [Inhabited Unit], IntKind.i64.wrap (Z1 + Z2) = Z1 + Z2 := by intro _; exact w64 (by omega) (by omega)
  simp [onev, one, z1, hq, z2]
  by_cases g1 : Z1 < 0
  · simp [g1]
  · rw [same g1]
    by_cases g2 : Z2 < 0 <;> simp [g1, g2, e1]
theorem sReplyTime_d {v : Value} {u : Value × Value} {w h : Int} {b A B : List Int} {i a c k l n : Int} (o1 : dMesh.Ow H v (w, h, b)) (o2 : dClasses.Ow H u (A, B)) :
   vcall C frz 13 [dMesh.val v (w, h, b), dClasses.val u (A, B), .agg #[.int .i64 i, .int .i64 a, .int .i64 c, .int .i64 k, .int .i64 l], .int .i64 n] H = some (.int .i64 (replyTime w h b A B (i, a, c, k, l) n), H) :=
  sReplyTime_c w h v u.1 u.2 b A B i a c k l n o1.1.rd.isI o2.1.1.rd.isI o2.2.1.rd.isI o1.2
theorem toPacket_c (i a c k l : Int) : vcall C frz 16 [.agg #[.int .i64 i, .int .i64 a, .int .i64 c, .int .i64 k, .int .i64 l]] H = some (.agg #[.int .i64 i, .int .i64 a, .int .i64 c, .int .i64 k, .int .i64 l], H) := by
  rw [vcall_go (fn := Try.f16) Try.func16 rfl (by kernel_rfl) rfl]
  simp
end Go.Proofs.Ytcigpclbhfkgaaa.V
/-! Packets: what the laws' own functions do with slices of them. -/
set_option linter.all false
namespace Go.Proofs.Ytcigpclbhfkgaaa.V
open Go Go.VM Go.Proofs
set_option maxRecDepth 10000
variable {frz : Nat} {H : Heap}
def pkF : Fl PkD := ⟨5, fun a => [.int .i64 a.1, .int .i64 a.2.1, .int .i64 a.2.2.1, .int .i64 a.2.2.2.1, .int .i64 a.2.2.2.2], fun _ => rfl⟩
@[simp] theorem pkF_n : pkF.n = 5 := rfl
theorem pkF_f (a : PkD) : pkF.f a = [.int .i64 a.1, .int .i64 a.2.1, .int .i64 a.2.2.1, .int .i64 a.2.2.2.1, .int .i64 a.2.2.2.2] := rfl
abbrev knP := Kn.pair (Kn.int .i64) (Kn.pair (Kn.int .i64) (Kn.pair (Kn.int .i64) (Kn.pair (Kn.int .i64) (Kn.int .i64))))
theorem knP_is {H : Heap} {x : PkD} {vs : List Value} (h : knP.Is H x vs) : vs = pkF.f x := by
  obtain ⟨v1, v2, rfl, h1, w1, w2, rfl, h2, y1, y2, rfl, h3, z1, z2, rfl, h4, h5⟩ := h
  simp only [Kn.int, Kn.bool] at h1 h2 h3 h4 h5
  rw [h1, h2, h3, h4, h5]; rfl
theorem ones_pkF (xs : List PkD) : ones (cellsOf pkF xs) = true := by
  induction xs with
  | nil => rfl
  | cons a l ih => rw [cellsOf_cons]; simp [ih, pkF_f]
theorem toPacket_p (x : PkD) : vcall C frz 16 [.agg (pkF.f x).toArray] H = some (.agg (pkF.f x).toArray, H) := toPacket_c _ _ _ _ _
theorem toPacketS_w (v : Value) (xs : List PkD) (hI : Rd pkF H v xs) (hb : xs.length ≤ 1073741824) :
   wp (vcall C frz 62 [v] H) (fun r H' => Ow pkF 44 H' r xs ∧ (∀ i ∈ ids r, H.length ≤ i) ∧ Chg H H' []) := by
  rw [vcall_go (fn := Try.f62) Try.func62 rfl (by kernel_rfl) rfl]
  simp [hI.len]
  refine wp_need (by omega) ?_
  refine wp_inv (fun n t H' => ∃ i : Nat, n = xs.length - i ∧ i ≤ xs.length ∧ t 0 = v ∧ t 3 = .slice (some ⟨H.length, 0, some 0⟩) xs.length 0 ∧ t 4 = .int .i64 i ∧
    Ow pkF 44 H' (.slice (some ⟨H.length, 0, some 0⟩) xs.length 0) (xs.take i ++ List.replicate (xs.length - i) (0, 0, 0, 0, 0)) ∧ Chg H H' []) ?_ (n := xs.length)
    ⟨0, by simp, by omega, by simp, by simp, by simp, Ow.new0 rfl (rep_cells (D := pkF) (0, 0, 0, 0, 0) _) (by rw [rep_cells (D := pkF) (0, 0, 0, 0, 0)]; exact ones_pkF _) (by simp), Chg.app _⟩
  rintro n t H' ⟨i, rfl, hi, h0, h3, h4, o, c⟩ ih
  have rd := hI.chg c (by simp)
  simp [h0, h3, h4, rd.len]
  refine wp_dec ?_ ?_ <;> intro h
  · have h' : i < xs.length := by omega
    have q1 := rd.idx (P := Try.prog) (ty := 52) (e := 32) (by simp) (i := (i : Int)) (by omega) (by omega)
    have q2 := rd.load (P := Try.prog) (e := 32) (by simp) h'
    have hl : (xs.take i ++ List.replicate (xs.length - i) ((0, 0, 0, 0, 0) : PkD)).length = xs.length := by simp; omega
    have q3 := o.rd.idx (P := Try.prog) (ty := 60) (e := 44) (by simp) (i := (i : Int)) (by omega) (by omega)
    obtain ⟨H2, s1, o1, c1, l1⟩ := o.store (P := Try.prog) (frz := H.length) (et := 44) (ag := true) (x := .agg (pkF.f xs[i]).toArray) (by simp) (j := i) (y := xs[i]) (by omega) (by simp [Value.cells]) (by simp [pkF_f]) (by simp)
    simp only [Int.toNat_natCast, pkF_n] at q1 q2 q3 s1
    simp [h0, h3, h4, q1, q2, toPacket_p, q3, s1]
    refine ih (xs.length - (i + 1)) _ _ ⟨i + 1, rfl, by omega, by simp [h0], by simp [h3], ?_, ?_, c.trans' c1 (by simp)⟩ (by omega)
    · simp; rw [w64 (by omega) (by omega)]
    · rw [fill_set _ _ h'] at o1; exact o1
  · have : i = xs.length := by omega
    subst this
    simp [h0, h3, h4]
    exact ⟨by simpa using o, c⟩
theorem szPacketS_c (v : Value) (xs : List PkD) (n : Int) (hI : Rd pkF H v xs) (h0 : 0 ≤ n) (h1 : n ≤ 1048576) (h2 : xs.length ≤ 9223372036854775807) :
    vcall C frz 60 [v, .int .i64 n] H = some (.int .i64 (if n < xs.length then -1 else n - xs.length), H) := by
  rw [vcall_go (fn := Try.f60) Try.func60 rfl (by kernel_rfl) rfl]
  simp [hI.len]
  rw [w64 (by omega) (by omega)]
  refine br_dec _ ?_ ?_ <;> intro h <;> simp [h]
  · intro hh; omega
  · intro hh; omega
theorem eqPacket_c (x y : PkD) : vcall C frz 115 [.agg (pkF.f x).toArray, .agg (pkF.f y).toArray] H = some (.bool (decide (x = y)), H) := by
  obtain ⟨p, t, c, h, l⟩ := x
  obtain ⟨p', t', c', h', l'⟩ := y
  rw [vcall_go (fn := Try.f115) Try.func115 rfl (by kernel_rfl) rfl]
  simp [pkF_f]
  by_cases e1 : p = p'
  · by_cases e2 : t = t'
    · by_cases e3 : c = c'
      · by_cases e4 : h = h'
        · by_cases e5 : l = l' <;> simp [e1, e2, e3, e4, e5]
        · simp [e1, e2, e3, e4]
      · simp [e1, e2, e3]
    · simp [e1, e2]
  · simp [e1]
theorem eqPacketS_c (a b : Value) (xs ys : List PkD) (ha : Rd pkF H a xs) (hb : Rd pkF H b ys) (hl : xs.length ≤ 1073741824) :
   vcall C frz 64 [a, b] H = some (.bool (decide (xs = ys)), H) := by
  refine wp.exact (by simp) ?_ rfl
  rw [vcall_go (fn := Try.f64) Try.func64 rfl (by kernel_rfl) rfl]
  simp [ha.len, hb.len]
  refine wp_dec ?_ ?_ <;> intro h0 <;> simp [h0]
  · refine wp_inv (fun n t H' => ∃ i : Nat, n = xs.length - i ∧ i ≤ xs.length ∧ t 0 = a ∧ t 1 = b ∧ t 5 = .int .i64 i ∧ H' = H ∧ xs.take i = ys.take i) ?_ (n := xs.length) ⟨0, rfl, by omega, by simp, by simp, by simp, rfl, by simp⟩
    rintro n t H' ⟨i, rfl, hi, h1, h2, h3, rfl, h4⟩ ih
    simp [h1, h2, h3, ha.len]
    refine wp_dec ?_ ?_ <;> intro h
    · have hx : i < xs.length := by omega
      have hy : i < ys.length := by omega
      have q1 := ha.idx (P := Try.prog) (ty := 60) (e := 44) (by simp) (i := (i : Int)) (by omega) (by omega)
      have q2 := ha.load (P := Try.prog) (e := 44) (by simp) hx
      have q3 := hb.idx (P := Try.prog) (ty := 60) (e := 44) (by simp) (i := (i : Int)) (by omega) (by omega)
      have q4 := hb.load (P := Try.prog) (e := 44) (by simp) hy
      simp only [Int.toNat_natCast, pkF_n] at q1 q2 q3 q4
      simp [h1, h2, h3]
      rw [go_draw (h := by kernel_rfl)]
      simp [h1, h2, h3, q1, q2, q3, q4, eqPacket_c]
      refine wp_dec ?_ ?_ <;> intro h5
      · simp [h1, h2, h3]
        refine ih (xs.length - (i + 1)) _ _ ⟨i + 1, rfl, by omega, by simp [h1], by simp [h2], ?_, rfl, ?_⟩ (by omega)
        · simp; rw [w64 (by omega) (by omega)]
        · rw [List.take_succ_eq_append_getElem hx, List.take_succ_eq_append_getElem hy, h4]; simp [h5]
      · simp [h1, h2, h3]
        intro hh; subst hh; simp at h5
    · have : i = xs.length := by omega
      subst this
      simp [h1, h2, h3]
      rw [List.take_length, List.take_of_length_le (by omega)] at h4
      exact h4
  · intro hh; exact h0 (by rw [hh])
end Go.Proofs.Ytcigpclbhfkgaaa.V
/-! Chips: what the laws' own functions do with them. -/
set_option linter.all false
namespace Go.Proofs.Ytcigpclbhfkgaaa.V
open Go Go.VM Go.Proofs
set_option maxRecDepth 10000
variable {frz : Nat} {H : Heap}
abbrev dPk : Dt Value (List PkD) := dFlat pkF 44 1073741824
abbrev ChipD := NetD × List PkD
abbrev ChipV := NetV × Value
def dChip : Dt ChipV ChipD := { dAnd dNet dPk with val := fun v a => .agg #[.int .i64 a.1.1.1, .int .i64 a.1.1.2.1, v.1.1, v.1.2.1.1, v.1.2.1.2, v.1.2.2.1.1, v.1.2.2.2.1, v.1.2.2.2.2.1, v.1.2.2.2.2.2.1.1, v.1.2.2.2.2.2.2.1.1, .int .i64 a.1.2.2.2.2.2.2.2, v.2] }
theorem dChip_val (v : ChipV) (a : ChipD) : dChip.val v a = .agg #[.int .i64 a.1.1.1, .int .i64 a.1.1.2.1, v.1.1, v.1.2.1.1, v.1.2.1.2, v.1.2.2.1.1, v.1.2.2.2.1, v.1.2.2.2.2.1, v.1.2.2.2.2.2.1.1, v.1.2.2.2.2.2.2.1.1, .int .i64 a.1.2.2.2.2.2.2.2, v.2] := rfl
theorem dChip_one {v : ChipV} {a : ChipD} (h : dChip.Ow H v a) : ((VM.one v.1.1 = true ∧ v.1.1.cells = #[v.1.1]) ∧ (VM.one v.1.2.1.1 = true ∧ v.1.2.1.1.cells = #[v.1.2.1.1]) ∧ (VM.one v.1.2.1.2 = true ∧ v.1.2.1.2.cells = #[v.1.2.1.2]) ∧ (VM.one v.1.2.2.1.1 = true ∧ v.1.2.2.1.1.cells = #[v.1.2.2.1.1]) ∧
    (VM.one v.1.2.2.2.1 = true ∧ v.1.2.2.2.1.cells = #[v.1.2.2.2.1]) ∧ (VM.one v.1.2.2.2.2.1 = true ∧ v.1.2.2.2.2.1.cells = #[v.1.2.2.2.2.1]) ∧ (VM.one v.1.2.2.2.2.2.1.1 = true ∧ v.1.2.2.2.2.2.1.1.cells = #[v.1.2.2.2.2.2.1.1]) ∧ (VM.one v.1.2.2.2.2.2.2.1.1 = true ∧ v.1.2.2.2.2.2.2.1.1.cells = #[v.1.2.2.2.2.2.2.1.1])) ∧ VM.one v.2 = true ∧ v.2.cells = #[v.2] :=
  ⟨dNet_one h.1, h.2.1.rd.one', h.2.1.rd.cells⟩
theorem eqChip_d {a b : ChipV} {x y : ChipD} (ha : dChip.Ow H a x) (hb : dChip.Ow H b y) : vcall C frz 24 [dChip.val a x, dChip.val b y] H = some (.bool (decide (x = y)), H) := by
  have oa := dChip_one ha
  have ob := dChip_one hb
  have e1 := fun F L => eqNet_d (frz := F) (H := H ++ L) (Dt.app (T := dNet) ha.1) (Dt.app (T := dNet) hb.1)
  have e2 := fun F L => eqPacketS_c (frz := F) (H := H ++ L) a.2 b.2 x.2 y.2 ha.2.1.rd.app hb.2.1.rd.app ha.2.2
  simp only [dNet_val] at e1
  rw [dChip_val, dChip_val]
  have hY : decide (x = y) = (decide (x.1 = y.1) && decide (x.2 = y.2)) := by
    obtain ⟨x1, x2⟩ := x; obtain ⟨y1, y2⟩ := y
    rw [Bool.eq_iff_iff]; simp only [decide_eq_true_eq, Bool.and_eq_true, Prod.mk.injEq]
  refine wp.exact (by simp) ?_ rfl
  rw [vcall_go (fn := Try.f24) Try.func24 rfl (by kernel_rfl) rfl]
  generalize decide (x = y) = Y at *
  generalize decide (x.1 = y.1) = P1 at *
  generalize decide (x.2 = y.2) = P2 at *
  simp [oa, ob, e1]
  cases P1
  · simp [hY]
  simp [oa, ob, e2]
  cases P2 <;> simp [hY]
theorem szChip_c (w h tm n : Int) (u2 u3 u4 u5 u6 u7 u8 u9 u10 : Value) (h5 h8 h9 : List Value) (b A B own turn : List Int) (buf src arr : SSD) (sent : List PkD)
    (r2 : Rd Fl.int H u2 b) (r3 : Rd Fl.int H u3 A) (r4 : Rd Fl.int H u4 B) (r5 : RdL flF H u5 h5 buf) (r6 : Rd Fl.int H u6 own) (r7 : Rd Fl.int H u7 turn) (r8 : RdL flF H u8 h8 src) (r9 : RdL flF H u9 h9 arr) (r10 : Rd pkF H u10 sent)
    (l2 : b.length ≤ 9223372036854775807) (l3 : A.length ≤ 9223372036854775807) (l4 : B.length ≤ 9223372036854775807) (l5 : buf.length ≤ 9223372036854775807) (l5' : ∀ x ∈ buf, x.length ≤ 9223372036854775807) (l6 : own.length ≤ 9223372036854775807) (l7 : turn.length ≤ 9223372036854775807)
    (l8 : src.length ≤ 9223372036854775807) (l8' : ∀ x ∈ src, x.length ≤ 9223372036854775807) (l9 : arr.length ≤ 9223372036854775807) (l9' : ∀ x ∈ arr, x.length ≤ 9223372036854775807) (l10 : sent.length ≤ 9223372036854775807) (h0 : 0 ≤ n) (h1 : n ≤ 1048576) :
   vcall C frz 20 [.agg #[.int .i64 w, .int .i64 h, u2, u3, u4, u5, u6, u7, u8, u9, .int .i64 tm, u10], .int .i64 n] H = some (.int .i64 (if n < (b.length : Int) + ((A.length : Int) + (B.length : Int)) + (tot buf : Int) + (own.length : Int) + (turn.length : Int) + (tot src : Int) + (tot arr : Int) + (sent.length : Int) then -1 else n - ((b.length : Int) + ((A.length : Int) + (B.length : Int)) + (tot buf : Int) + (own.length : Int) + (turn.length : Int) + (tot src : Int) + (tot arr : Int) + (sent.length : Int))), H) := by
  refine wp.exact (by simp) ?_ rfl
  rw [vcall_go (fn := Try.f20) Try.func20 rfl (by kernel_rfl) rfl]
  have one2 := And.intro r2.one' r2.cells
  have one3 := And.intro r3.one' r3.cells
  have one4 := And.intro r4.one' r4.cells
  have one5 := And.intro r5.1.one' r5.1.cells
  have one6 := And.intro r6.one' r6.cells
  have one7 := And.intro r7.one' r7.cells
  have one8 := And.intro r8.1.one' r8.1.cells
  have one9 := And.intro r9.1.one' r9.1.cells
  have one10 := And.intro r10.one' r10.cells
  have s1 := fun F L => szNet_c (frz := F) (H := H ++ L) w h tm n u2 u3 u4 u5 u6 u7 u8 u9 h5 h8 h9 b A B own turn buf src arr r2.app r3.app r4.app r5.app r6.app r7.app r8.app r9.app l2 l3 l4 l5 l5' l6 l7 l8 l8' l9 l9' h0 h1
  obtain ⟨S, hS⟩ : ∃ S : Int, S = (b.length : Int) + ((A.length : Int) + (B.length : Int)) + (tot buf : Int) + (own.length : Int) + (turn.length : Int) + (tot src : Int) + (tot arr : Int) := ⟨_, rfl⟩
  have hS0 : 0 ≤ S := by omega
  rw [← hS]
  simp only [← hS] at s1
  clear hS
  simp [one2, one3, one4, one5, one6, one7, one8, one9, one10, s1]
  by_cases g : n < S
  · simp only [if_pos g]; simp; intro hh; omega
  simp only [if_neg g]
  have f : ¬ n - S < 0 := by omega
  have s2 := fun F L => szPacketS_c (frz := F) (H := H ++ L) u10 sent (n - S) r10.app (by omega) (by omega) l10
  simp [f, one2, one3, one4, one5, one6, one7, one8, one9, one10, s2]
  by_cases g2 : n - S < (sent.length : Int)
  · simp only [if_pos g2]; simp; intro hh; omega
  simp only [if_neg g2]
  have f2 : ¬ n - S - (sent.length : Int) < 0 := by omega
  simp [f2]
  rw [if_neg (by omega)]; omega
theorem toChip_w (w h tm : Int) (u2 u3 u4 u5 u6 u7 u8 u9 u10 : Value) (h5 h8 h9 : List Value) (b A B own turn : List Int) (buf src arr : SSD) (sent : List PkD)
    (r2 : Rd Fl.int H u2 b) (r3 : Rd Fl.int H u3 A) (r4 : Rd Fl.int H u4 B) (r5 : RdL flF H u5 h5 buf) (r6 : Rd Fl.int H u6 own) (r7 : Rd Fl.int H u7 turn) (r8 : RdL flF H u8 h8 src) (r9 : RdL flF H u9 h9 arr) (r10 : Rd pkF H u10 sent)
    (l2 : b.length ≤ 1073741824) (l3 : A.length ≤ 1073741824) (l4 : B.length ≤ 1073741824) (l5 : buf.length ≤ 2097152) (l5' : ∀ x ∈ buf, x.length ≤ 67108864) (l6 : own.length ≤ 1073741824) (l7 : turn.length ≤ 1073741824)
    (l8 : src.length ≤ 2097152) (l8' : ∀ x ∈ src, x.length ≤ 67108864) (l9 : arr.length ≤ 2097152) (l9' : ∀ x ∈ arr, x.length ≤ 67108864) (l10 : sent.length ≤ 1073741824) :
   wp (vcall C frz 22 [.agg #[.int .i64 w, .int .i64 h, u2, u3, u4, u5, u6, u7, u8, u9, .int .i64 tm, u10]] H) (dChip.Made H (((w, h, b), (A, B), buf, own, turn, src, arr, tm), sent)) := by
  rw [vcall_go (fn := Try.f22) Try.func22 rfl (by kernel_rfl) rfl]
  have one2 := And.intro r2.one' r2.cells
  have one3 := And.intro r3.one' r3.cells
  have one4 := And.intro r4.one' r4.cells
  have one5 := And.intro r5.1.one' r5.1.cells
  have one6 := And.intro r6.one' r6.cells
  have one7 := And.intro r7.one' r7.cells
  have one8 := And.intro r8.1.one' r8.1.cells
  have one9 := And.intro r9.1.one' r9.1.cells
  have one10 := And.intro r10.one' r10.cells
  have hF : H.length ≤ H.length + 2 := by omega
  have hF1 : H.length ≤ H.length + 1 := by omega
  simp [one2, one3, one4, one5, one6, one7, one8, one9, one10]
  obtain ⟨G0, hG0⟩ : ∃ G, G = H ++ [⟨[.int .i64 w, .int .i64 h, u2, u3, u4, u5, u6, u7, u8, u9, .int .i64 tm, u10], 0, 54⟩, ⟨[.int .i64 0, .int .i64 0, .slice none 0 0, .slice none 0 0, .slice none 0 0, .slice none 0 0, .slice none 0 0, .slice none 0 0, .slice none 0 0, .slice none 0 0, .int .i64 0, .slice none 0 0], 0, 62⟩, ⟨[.int .i64 0, .int .i64 0, .slice none 0 0, .slice none 0 0, .slice none 0 0, .slice none 0 0, .slice none 0 0, .slice none 0 0, .slice none 0 0, .slice none 0 0, .int .i64 0, .slice none 0 0], 0, 62⟩] := ⟨_, rfl⟩
  have b0 : G0[H.length]? = some ⟨[.int .i64 w, .int .i64 h, u2, u3, u4, u5, u6, u7, u8, u9, .int .i64 tm, u10], 0, 54⟩ := by rw [hG0]; simp
  have bR : G0[H.length + 1]? = some ⟨[.int .i64 0, .int .i64 0, .slice none 0 0, .slice none 0 0, .slice none 0 0, .slice none 0 0, .slice none 0 0, .slice none 0 0, .slice none 0 0, .slice none 0 0, .int .i64 0, .slice none 0 0], 0, 62⟩ := by rw [hG0]; simp
  have b1 : G0[H.length + 2]? = some ⟨[.int .i64 0, .int .i64 0, .slice none 0 0, .slice none 0 0, .slice none 0 0, .slice none 0 0, .slice none 0 0, .slice none 0 0, .slice none 0 0, .slice none 0 0, .int .i64 0, .slice none 0 0], 0, 62⟩ := by rw [hG0]; simp
  have cH : Chg H G0 [] := by rw [hG0]; exact Chg.app []
  have lH : H.length + 3 ≤ G0.length := by rw [hG0]; simp
  rw [← hG0]
  clear hG0
  refine wp_thn (toNet_w w h tm u2 u3 u4 u5 u6 u7 u8 u9 h5 h8 h9 b A B own turn buf src arr (r2.chg cH (by simp)) (r3.chg cH (by simp)) (r4.chg cH (by simp)) (r5.chg cH (by simp)) (r6.chg cH (by simp)) (r7.chg cH (by simp)) (r8.chg cH (by simp)) (r9.chg cH (by simp)) l2 l3 l4 l5 l5' l6 l7 l8 l8' l9 l9') ?_
  rintro _ K1 ⟨n, rfl, o1, c1, m1, d1⟩
  have q1 := dNet_one o1
  have lt1 := dNet.lt o1
  have b0 := box_chg b0 c1 (by simp)
  have b1 := box_chg b1 c1 (by simp)
  have bR := box_chg bR c1 (by simp)
  have cH := cH.trans c1
  have lc1 := c1.1
  have e1 : Chg K1 (K1.set (H.length + 2) ⟨[.int .i64 w, .int .i64 h, n.1, n.2.1.1, n.2.1.2, n.2.2.1.1, n.2.2.2.1, n.2.2.2.2.1, n.2.2.2.2.2.1.1, n.2.2.2.2.2.2.1.1, .int .i64 tm, .slice none 0 0], 0, 62⟩) [H.length + 2] := chg_set _ _
  have g1 := set_get (r' := ⟨[.int .i64 w, .int .i64 h, n.1, n.2.1.1, n.2.1.2, n.2.2.1.1, n.2.2.2.1, n.2.2.2.2.1, n.2.2.2.2.2.1.1, n.2.2.2.2.2.2.1.1, .int .i64 tm, .slice none 0 0], 0, 62⟩) b1
  have b0' := box_chg b0 e1 (by simp)
  have bR := box_chg bR e1 (by simp)
  have o1 := Dt.chg (T := dNet) o1 e1 (fun i hi hh => by have := m1 i hi; simp at hh; omega)
  have cH := cH.trans' e1 (fun i hi => .inr (by simp at hi; omega))
  have ls1 : (K1.set (H.length + 2) ⟨[.int .i64 w, .int .i64 h, n.1, n.2.1.1, n.2.1.2, n.2.2.1.1, n.2.2.2.1, n.2.2.2.2.1, n.2.2.2.2.2.1.1, n.2.2.2.2.2.2.1.1, .int .i64 tm, .slice none 0 0], 0, 62⟩).length = K1.length := by simp
  simp [dNet_val, VM.look, b0, b1, one2, one3, one4, one5, one6, one7, one8, one9, one10, q1, hF]
  generalize K1.set (H.length + 2) ⟨[.int .i64 w, .int .i64 h, n.1, n.2.1.1, n.2.1.2, n.2.2.1.1, n.2.2.2.1, n.2.2.2.2.1, n.2.2.2.2.2.1.1, n.2.2.2.2.2.2.1.1, .int .i64 tm, .slice none 0 0], 0, 62⟩ = G1 at *
  clear b0 b1
  try simp [VM.look, b0', one2, one3, one4, one5, one6, one7, one8, one9, one10]
  refine wp_thn (toPacketS_w u10 sent (r10.chg cH (by simp)) l10) ?_
  rintro p K2 ⟨o2, m2, c2⟩
  have q2 := And.intro o2.rd.one' o2.rd.cells
  have b1 := box_chg g1 c2 (by simp)
  have bR := box_chg bR c2 (by simp)
  have o1 := Dt.chg0 (T := dNet) o1 c2
  have cH := cH.trans c2
  have e2 : Chg K2 (K2.set (H.length + 2) ⟨[.int .i64 w, .int .i64 h, n.1, n.2.1.1, n.2.1.2, n.2.2.1.1, n.2.2.2.1, n.2.2.2.2.1, n.2.2.2.2.2.1.1, n.2.2.2.2.2.2.1.1, .int .i64 tm, p], 0, 62⟩) [H.length + 2] := chg_set _ _
  have g2 := set_get (r' := ⟨[.int .i64 w, .int .i64 h, n.1, n.2.1.1, n.2.1.2, n.2.2.1.1, n.2.2.2.1, n.2.2.2.2.1, n.2.2.2.2.2.1.1, n.2.2.2.2.2.2.1.1, .int .i64 tm, p], 0, 62⟩) b1
  have bR := box_chg bR e2 (by simp)
  have o1 := Dt.chg (T := dNet) o1 e2 (fun i hi hh => by have := m1 i hi; simp at hh; omega)
  have o2 := o2.chg e2 (fun i hi hh => by have := m2 i hi; simp at hh; omega)
  have cH := cH.trans' e2 (fun i hi => .inr (by simp at hi; omega))
  simp [VM.look, b1, q1, q2, hF]
  generalize K2.set (H.length + 2) ⟨[.int .i64 w, .int .i64 h, n.1, n.2.1.1, n.2.1.2, n.2.2.1.1, n.2.2.2.1, n.2.2.2.2.1, n.2.2.2.2.2.1.1, n.2.2.2.2.2.2.1.1, .int .i64 tm, p], 0, 62⟩ = G2 at *
  have gR := set_get (r' := ⟨[.int .i64 w, .int .i64 h, n.1, n.2.1.1, n.2.1.2, n.2.2.1.1, n.2.2.2.1, n.2.2.2.2.1, n.2.2.2.2.2.1.1, n.2.2.2.2.2.2.1.1, .int .i64 tm, p], 0, 62⟩) bR
  have eR : Chg G2 (G2.set (H.length + 1) ⟨[.int .i64 w, .int .i64 h, n.1, n.2.1.1, n.2.1.2, n.2.2.1.1, n.2.2.2.1, n.2.2.2.2.1, n.2.2.2.2.2.1.1, n.2.2.2.2.2.2.1.1, .int .i64 tm, p], 0, 62⟩) [H.length + 1] := chg_set _ _
  have o1 := Dt.chg (T := dNet) o1 eR (fun i hi hh => by have := m1 i hi; simp at hh; omega)
  have o2 := o2.chg eR (fun i hi hh => by have := m2 i hi; simp at hh; omega)
  have cH := cH.trans' eR (fun i hi => .inr (by simp at hi; omega))
  try simp [VM.look, g2, bR, gR, hF1, q1, q2]
  refine ⟨(n, p), rfl, ⟨o1, o2, l10⟩, cH, fun i hi => ?_, ?_⟩
  · rcases List.mem_append.1 hi with hi | hi
    · have := m1 i hi; omega
    · have := m2 i hi; omega
  · exact nd_app d1 (ids_nodup p) lt1 (fun i hi => by have := m2 i hi; omega)
end Go.Proofs.Ytcigpclbhfkgaaa.V
/-! Valid networks. -/
set_option linter.all false
namespace Go.Proofs.Ytcigpclbhfkgaaa.V
open Go Go.VM Go.Proofs
set_option maxRecDepth 10000
variable {frz : Nat} {H : Heap}
def flitOk (w h : Int) (f : FlitD) : Prop := isN w h f.2.1 ∧ inR 0 f.2.2.1 1
instance (w h : Int) (f : FlitD) : Decidable (flitOk w h f) := inferInstanceAs (Decidable (_ ∧ _))
def flitsOk (w h : Int) (l : List FlitD) : Prop := ∀ f ∈ l, flitOk w h f
instance (w h : Int) (l : List FlitD) : Decidable (flitsOk w h l) := inferInstanceAs (Decidable (∀ f ∈ l, flitOk w h f))
def sizesOk (x : NetD) : Prop := (x.2.2.1.length : Int) = 10 * cnt x.1.1 x.1.2.1 ∧ (x.2.2.2.1.length : Int) = 10 * cnt x.1.1 x.1.2.1 ∧ (x.2.2.2.2.1.length : Int) = 5 * cnt x.1.1 x.1.2.1 ∧ (x.2.2.2.2.2.1.length : Int) = cnt x.1.1 x.1.2.1 ∧ (x.2.2.2.2.2.2.1.length : Int) = cnt x.1.1 x.1.2.1
instance (x : NetD) : Decidable (sizesOk x) := inferInstanceAs (Decidable (_ ∧ _))
def bufOk (w h : Int) (l : List FlitD) (c : Int) : Prop := l.length ≤ 3 ∧ (∀ f ∈ l, f.2.2.1 = c) ∧ flitsOk w h l
instance (w h : Int) (l : List FlitD) (c : Int) : Decidable (bufOk w h l c) := inferInstanceAs (Decidable (_ ∧ _))
def srcOk (w h : Int) (l : List FlitD) : Prop := l.length ≤ 60 ∧ flitsOk w h l
instance (w h : Int) (l : List FlitD) : Decidable (srcOk w h l) := inferInstanceAs (Decidable (_ ∧ _))
/-- a valid network -/
def netOk (x : NetD) : Prop := classesOk x.1.1 x.1.2.1 x.1.2.2 x.2.1.1 x.2.1.2 ∧ sizesOk x ∧ (∀ i, i < x.2.2.1.length → bufOk x.1.1 x.1.2.1 (x.2.2.1.getD i []) ((i : Int) % 2)) ∧ (∀ l ∈ x.2.2.2.2.2.1, srcOk x.1.1 x.1.2.1 l) ∧
  (∀ o ∈ x.2.2.2.1, inR (-1) o 4) ∧ (∀ o ∈ x.2.2.2.2.1, inR 0 o 9) ∧ inR 0 x.2.2.2.2.2.2.2 1000000
instance (x : NetD) : Decidable (netOk x) := inferInstanceAs (Decidable (_ ∧ _))
theorem areFlits_c (w h : Int) (v : Value) (xs : List FlitD) (hI : Rd flF H v xs) (hl : xs.length ≤ 1073741824) :
   vcall C frz 107 [.agg #[.int .i64 w, .int .i64 h], v] H = some (.bool (decide (flitsOk w h xs)), H) := by
  refine wp.exact (by simp) ?_ rfl
  rw [vcall_go (fn := Try.f107) Try.func107 rfl (by kernel_rfl) rfl]
  generalize hB : decide (flitsOk w h xs) = B
  simp [hI.app.len (P := Try.prog) (ty := 123) (by simp)]
  refine wp_inv (fun n t H' => ∃ i : Nat, n = xs.length - i ∧ i ≤ xs.length ∧ t 2 = .pointer (some ⟨H.length, 0, some 0⟩) ∧ t 7 = v ∧ t 8 = .int .i64 xs.length ∧ t 9 = .int .i64 i ∧ Chg H H' [] ∧ H'[H.length]? = some ⟨[.int .i64 w, .int .i64 h], 0, 36⟩ ∧ ∀ f ∈ xs.take i, flitOk w h f) ?_ (n := xs.length)
    ⟨0, rfl, by omega, by simp, by simp, by simp, by simp, Chg.app _, by simp, by simp⟩
  rintro n t H' ⟨i, rfl, hi, t2, t7, t8, t9, c, b2, hk⟩ ih
  simp [t2, t7, t8, t9]
  refine wp_dec ?_ ?_ <;> intro g
  · have hi' : i < xs.length := by omega
    have rd := hI.chg c (by simp)
    have q1 := rd.idx (P := Try.prog) (ty := 123) (e := 134) (by simp) (i := (i : Int)) (by omega) (by omega)
    have q2 := rd.load (P := Try.prog) (e := 134) (by simp) hi'
    simp only [Int.toNat_natCast, flF_n] at q1 q2
    have l0 := c.1
    have hF : H.length ≤ H'.length := l0
    have b2' := fun r => box_chg (get_app' b2 [r]) (chg_set H'.length r) (by simp; have := box_lt b2; omega)
    have hlt := box_lt b2
    have hne : H'.length ≠ H.length := by omega
    have key : flitOk w h xs[i] ↔ isN w h xs[i].2.1 ∧ inR 0 xs[i].2.2.1 1 := Iff.rfl
    have hsucc : ∀ f ∈ xs.take (i + 1), f ∈ xs.take i ∨ f = xs[i] := fun f hf => by
      rw [List.take_succ_eq_append_getElem hi'] at hf
      rcases List.mem_append.1 hf with hf | hf
      · exact .inl hf
      · exact .inr (List.mem_singleton.1 hf)
    have hno : ¬ flitOk w h xs[i] → ¬ flitsOk w h xs := fun hh k => hh (k _ (List.getElem_mem hi'))
    simp [t2, t7, t8, t9, q1, q2, hF, flF_f, VM.look, b2, get_app' b2, isNode_c, inside_c]
    by_cases g1 : isN w h xs[i].2.1
    · by_cases g2 : inR 0 xs[i].2.2.1 1
      · simp [t2, t7, t8, t9, g1, g2, inside_c]
        refine ih (xs.length - (i + 1)) _ _ ⟨i + 1, rfl, by omega, by simp [t2], by simp [t7], by simp [t8], ?_, c.trans (Chg.app _), get_app' b2 _, fun f hf => ?_⟩ (by omega)
        · simp; rw [w64 (by omega) (by omega)]
        · rcases hsucc f hf with hf | rfl
          · exact hk f hf
          · exact ⟨g1, g2⟩
      · simp [t2, t7, t8, t9, g1, g2, inside_c]
        rw [← hB]; exact decide_eq_false (hno (fun hh => g2 hh.2))
    · simp [t2, t7, t8, t9, g1]
      rw [← hB]; exact decide_eq_false (hno (fun hh => g1 hh.1))
  · have : i = xs.length := by omega
    subst this
    rw [List.take_length] at hk
    simp [t2, t7, t8, t9]
    rw [← hB]; exact decide_eq_true hk
theorem l15Flits_c (w h : Int) (v : Value) (xs : List FlitD) (hI : Rd flF H v xs) (hl : xs.length ≤ 1073741824) :
   vcall C frz 119 [.agg #[.int .i64 w, .int .i64 h], v] H = some (.bool (decide (flitsOk w h xs)), H) := by
  refine wp.exact (by simp) ?_ rfl
  rw [vcall_go (fn := Try.f119) Try.func119 rfl (by kernel_rfl) rfl]
  generalize hB : decide (flitsOk w h xs) = B
  simp
  have rd : Rd flF (H ++ [⟨[.int .i64 w, .int .i64 h], 0, 36⟩]) v xs := hI.app
  refine wp_inv (fun n t H' => ∃ i : Nat, n = xs.length - i ∧ i ≤ xs.length ∧ t 1 = v ∧ t 2 = .pointer (some ⟨H.length, 0, some 0⟩) ∧ t 5 = .int .i64 i ∧ H' = H ++ [⟨[.int .i64 w, .int .i64 h], 0, 36⟩] ∧ ∀ f ∈ xs.take i, flitOk w h f) ?_ (n := xs.length)
    ⟨0, rfl, by omega, by simp, by simp, by simp, rfl, by simp⟩
  rintro n t H' ⟨i, rfl, hi, t1, t2, t5, rfl, hk⟩ ih
  simp [t1, t2, t5, rd.len (P := Try.prog) (ty := 123) (by simp)]
  refine wp_dec ?_ ?_ <;> intro g
  · have hi' : i < xs.length := by omega
    have q1 := rd.idx (P := Try.prog) (ty := 123) (e := 134) (by simp) (i := (i : Int)) (by omega) (by omega)
    have q2 := rd.cell (P := Try.prog) (e := 3) (by simp) hi' (c := 1) (by decide)
    have q3 := rd.cell (P := Try.prog) (e := 3) (by simp) hi' (c := 2) (by decide)
    have q4 := rd.field (P := Try.prog) (s := 134) (f := 1) (o := 1) (n := 1) (ag := false) (by simp) (j := i * 5) (by omega)
    have q5 := rd.field (P := Try.prog) (s := 134) (f := 2) (o := 2) (n := 1) (ag := false) (by simp) (j := i * 5) (by omega)
    simp only [Int.toNat_natCast, flF_n, flF_f] at q1 q2 q3
    simp at q2 q3
    have hsucc : ∀ f ∈ xs.take (i + 1), f ∈ xs.take i ∨ f = xs[i] := fun f hf => by
      rw [List.take_succ_eq_append_getElem hi'] at hf
      rcases List.mem_append.1 hf with hf | hf
      · exact .inl hf
      · exact .inr (List.mem_singleton.1 hf)
    have hno : ¬ flitOk w h xs[i] → ¬ flitsOk w h xs := fun hh k => hh (k _ (List.getElem_mem hi'))
    simp [t1, t2, t5]
    rw [go_draw (h := by kernel_rfl)]
    simp [-vfieldAddr, vfa_ptr, t1, t2, t5, q1, q2, q3, q4, q5, l02Has_c]
    by_cases g1 : isN w h xs[i].2.1
    · by_cases g2 : inR 0 xs[i].2.2.1 1
      · simp [-vfieldAddr, vfa_ptr, t1, t2, t5, g1, g2, l01In_c, q1, q5, q3]
        refine ih (xs.length - (i + 1)) _ _ ⟨i + 1, rfl, by omega, by simp [t1], by simp [t2], ?_, rfl, fun f hf => ?_⟩ (by omega)
        · simp; rw [w64 (by omega) (by omega)]
        · rcases hsucc f hf with hf | rfl
          · exact hk f hf
          · exact ⟨g1, g2⟩
      · simp [-vfieldAddr, vfa_ptr, t1, t2, t5, g1, g2, l01In_c, q1, q5, q3]
        rw [← hB]; exact decide_eq_false (hno (fun hh => g2 hh.2))
    · simp [t1, t2, t5, g1]
      rw [← hB]; exact decide_eq_false (hno (fun hh => g1 hh.1))
  · have : i = xs.length := by omega
    subst this
    rw [List.take_length] at hk
    simp [t1, t2, t5]
    rw [← hB]; exact decide_eq_true hk
theorem classOnly_w (v : Value) (xs : List FlitD) (c : Int) (hI : Rd flF H v xs) (hl : xs.length ≤ 1073741824) :
   wp (vcall C frz 106 [v, .int .i64 c] H) (fun r H' => Ow flF 134 H' r (xs.filter fun f => f.2.2.1 = c) ∧ (∀ i ∈ ids r, H.length ≤ i) ∧ Chg H H' []) := by
  rw [vcall_go (fn := Try.f106) Try.func106 rfl (by kernel_rfl) rfl]
  simp [hI.app.len (P := Try.prog) (ty := 123) (by simp)]
  refine wp_inv (fun n t H' => ∃ (i : Nat) (r : Value), n = xs.length - i ∧ i ≤ xs.length ∧ t 1 = .int .i64 c ∧ t 5 = r ∧ t 9 = v ∧ t 10 = .int .i64 xs.length ∧ t 11 = .int .i64 i ∧ Chg H H' [] ∧ Ow flF 134 H' r ((xs.take i).filter fun f => f.2.2.1 = c) ∧ (∀ j ∈ ids r, H.length ≤ j)) ?_ (n := xs.length)
    ⟨0, .slice (some ⟨H.length, 0, some 0⟩) 0 0, rfl, by omega, by simp, by simp, by simp, by simp, by simp, Chg.app _, Ow.new0 (D := flF) (xs := []) rfl rfl rfl rfl, by simp⟩
  rintro n t H' ⟨i, r, rfl, hi, t1, t5, t9, t10, t11, ch, o, nr⟩ ih
  simp [t1, t5, t9, t10, t11]
  refine wp_dec ?_ ?_ <;> intro g
  · have hi' : i < xs.length := by omega
    have rd := hI.chg ch (by simp)
    have q1 := rd.idx (P := Try.prog) (ty := 123) (e := 134) (by simp) (i := (i : Int)) (by omega) (by omega)
    have q2 := rd.load (P := Try.prog) (e := 134) (by simp) hi'
    simp only [Int.toNat_natCast, flF_n] at q1 q2
    have hF : H.length ≤ H'.length := ch.1
    have hfl := List.length_filter_le (fun f : FlitD => decide (f.2.2.1 = c)) (xs.take i)
    have htl : (xs.take i).length ≤ i := by simp; omega
    simp [t1, t5, t9, t10, t11, q1, q2, hF, flF_f, VM.look]
    refine wp_dec ?_ ?_ <;> intro g1
    · obtain ⟨r', H2, hap, o2, c2, n2⟩ := (o.app (L := [⟨flF.f xs[i], 0, 134⟩])).push (P := Try.prog) (frz := H.length) (ty := 123) (a := xs[i]) (by simp) rfl (by omega) nr
      simp only [flF_f, List.append_assoc, List.cons_append, List.nil_append, List.length_append, List.length_cons, List.length_nil] at hap
      simp [t1, t5, t9, t10, t11, hap]
      refine ih (xs.length - (i + 1)) _ _ ⟨i + 1, r', rfl, by omega, by simp [t1], by simp, by simp [t9], by simp [t10], ?_, (ch.trans (Chg.app _)).trans' c2 (fun j hj => .inr (nr j hj)), ?_, fun j hj => ?_⟩ (by omega)
      · simp; rw [w64 (by omega) (by omega)]
      · rw [List.take_succ_eq_append_getElem hi', List.filter_append]; simpa [g1] using o2
      · rcases n2 j hj with h1 | h1
        · exact nr j h1
        · simp at h1; omega
    · simp [t1, t5, t9, t10, t11, g1]
      refine ih (xs.length - (i + 1)) _ _ ⟨i + 1, r, rfl, by omega, by simp [t1], by simp [t5], by simp [t9], by simp [t10], ?_, ch.trans (Chg.app _), ?_, nr⟩ (by omega)
      · simp; rw [w64 (by omega) (by omega)]
      · rw [List.take_succ_eq_append_getElem hi', List.filter_append]; simpa [g1] using o.app
  · have : i = xs.length := by omega
    subst this
    rw [List.take_length] at o
    simp [t1, t5, t9, t10, t11]
    exact ⟨o, nr, ch⟩
end Go.Proofs.Ytcigpclbhfkgaaa.V
/-! Valid networks: what the program and the reference say. -/
set_option linter.all false
namespace Go.Proofs.Ytcigpclbhfkgaaa.V
open Go Go.VM Go.Proofs
set_option maxRecDepth 10000
variable {frz : Nat} {H : Heap}
theorem filter_len_all {l : List FlitD} {c : Int} : (l.filter fun f => f.2.2.1 = c).length = l.length ↔ ∀ f ∈ l, f.2.2.1 = c := by
  rw [List.length_filter_eq_length_iff]; simp
theorem tmod2 (i : Nat) : (i : Int).tmod 2 = (i : Int) % 2 := Int.tmod_eq_emod_of_nonneg (by omega)
theorem getD_at {α : Type} {l : List α} {d : α} {i : Nat} (h : i < l.length) : l.getD i d = l[i] := by simp [List.getD_eq_getElem?_getD, h]
theorem mem_take_succ {α : Type} {l : List α} {i : Nat} (h : i < l.length) {x : α} (hx : x ∈ l.take (i + 1)) : x ∈ l.take i ∨ x = l[i] := by
  rw [List.take_succ_eq_append_getElem h] at hx
  rcases List.mem_append.1 hx with hx | hx
  · exact .inl hx
  · exact .inr (List.mem_singleton.1 hx)
theorem netOk_d {v : NetV} {x : NetD} (o : dNet.Ow H v x) : vcall C frz 49 [dNet.val v x] H = some (.bool (decide (netOk x)), H) := by
  have oo := dNet_one o
  obtain ⟨u2, ⟨u3, u4⟩, ⟨u5, h5⟩, u6, u7, ⟨u8, h8⟩, ⟨u9, h9⟩, _⟩ := v
  obtain ⟨⟨w, h, b⟩, ⟨A, B⟩, buf, own, turn, src, arr, tm⟩ := x
  obtain ⟨o2, o3, o5, o6, o7, o8, o9, _⟩ := o
  simp only at o2 o3 o5 o6 o7 o8 o9
  obtain ⟨p2, p3, p4, p5, p6, p7, p8, p9⟩ := oo
  simp only at p2 p3 p4 p5 p6 p7 p8 p9
  rw [dNet_val]
  refine wp.exact (by simp) ?_ rfl
  rw [vcall_go (fn := Try.f49) Try.func49 rfl (by kernel_rfl) rfl]
  generalize hY : decide (netOk ((w, h, b), (A, B), buf, own, turn, src, arr, tm)) = Y
  obtain ⟨N, hN⟩ : ∃ N : Nat, cnt w h = N := ⟨(cnt w h).toNat, by have := cnt_range w h; omega⟩
  have hN2 : N ≤ 16 := by have := cnt_range w h; omega
  have w10 : ∀ [Inhabited Unit], IntKind.i64.wrap (10 * (N : Int)) = 10 * (N : Int) := by intro _; exact w64 (by omega) (by omega)
  have w5 : ∀ [Inhabited Unit], IntKind.i64.wrap (5 * (N : Int)) = 5 * (N : Int) := by intro _; exact w64 (by omega) (by omega)
  have cok := fun F L => classesOk_c (frz := F) (H := H ++ L) w h u2 u3 u4 b A B (Rd.isI o2.1.rd.app) (Rd.isI o3.1.1.rd.app) (Rd.isI o3.2.1.rd.app) o2.2
  have ln5 := fun (L : Heap) => (RdL.app (L := L) o5.1.rd).1.len (P := Try.prog) (ty := 57) (by simp)
  have ln8 := fun (L : Heap) => (RdL.app (L := L) o8.1.rd).1.len (P := Try.prog) (ty := 57) (by simp)
  have ln9 := fun (L : Heap) => (RdL.app (L := L) o9.1.rd).1.len (P := Try.prog) (ty := 57) (by simp)
  have ln6 := fun (L : Heap) => (Rd.app (L := L) o6.1.rd).len (P := Try.prog) (ty := 24) (by simp)
  have ln7 := fun (L : Heap) => (Rd.app (L := L) o7.1.rd).len (P := Try.prog) (ty := 24) (by simp)
  have hl5 := o5.1.rd.2.1
  have hl8 := o8.1.rd.2.1
  have hl9 := o9.1.rd.2.1
  have hb5 := o5.2.1
  have hb8 := o8.2.1
  simp only at ln5 ln8 ln9 ln6 ln7 hl5 hl8 hl9 hb5 hb8
  have no : ¬ netOk ((w, h, b), (A, B), buf, own, turn, src, arr, tm) → false = Y := fun hh => by rw [← hY]; exact (decide_eq_false hh).symm
  have no' : ¬ netOk ((w, h, b), (A, B), buf, own, turn, src, arr, tm) → Y = false := fun hh => (no hh).symm
  have ones := And.intro p2 (And.intro p3 (And.intro p4 (And.intro p5 (And.intro p6 (And.intro p7 (And.intro p8 p9))))))
  simp [ones, nodeCount_c, hN, cok, w10, w5]
  by_cases c1 : classesOk w h b A B
  rotate_left
  · simp [c1]; exact no' (fun k => c1 k.1)
  by_cases c2 : (buf.length : Int) = 10 * N
  rotate_left
  · simp [c1, c2, ones, ln5, hl5, w10]; exact no' (fun k => c2 (by have := k.2.1.1; simp only [hN] at this; exact this))
  by_cases c3 : (own.length : Int) = 10 * N
  rotate_left
  · simp [c1, c2, c3, ones, ln5, hl5, ln6, w10]; exact no' (fun k => c3 (by have := k.2.1.2.1; simp only [hN] at this; exact this))
  by_cases c4 : (turn.length : Int) = 5 * N
  rotate_left
  · simp [c1, c2, c3, c4, ones, ln5, hl5, ln6, ln7, w10, w5]; exact no' (fun k => c4 (by have := k.2.1.2.2.1; simp only [hN] at this; exact this))
  by_cases c5 : (src.length : Int) = N
  rotate_left
  · simp [c1, c2, c3, c4, c5, ones, ln5, hl5, ln6, ln7, ln8, hl8, w10, w5]; exact no' (fun k => c5 (by have := k.2.1.2.2.2.1; simp only [hN] at this; exact this))
  by_cases c6 : (arr.length : Int) = N
  rotate_left
  · simp [c1, c2, c3, c4, c5, c6, ones, ln5, hl5, ln6, ln7, ln8, hl8, ln9, hl9, w10, w5]; exact no' (fun k => c6 (by have := k.2.1.2.2.2.2; simp only [hN] at this; exact this))
  have hsz : sizesOk ((w, h, b), (A, B), buf, own, turn, src, arr, tm) := by unfold sizesOk; simp only [hN]; exact ⟨c2, c3, c4, c5, c6⟩
  simp [c1, c2, c3, c4, c5, c6, ones, ln5, hl5, ln6, ln7, ln8, hl8, ln9, hl9, w10, w5]
  refine wp_inv (fun n t H' => ∃ i : Nat, n = buf.length - i ∧ i ≤ buf.length ∧ t 1 = .pointer (some ⟨H.length, 0, some 0⟩) ∧ t 57 = u5 ∧ t 58 = .int .i64 buf.length ∧ t 59 = .int .i64 i ∧ Chg H H' [] ∧
      H'[H.length]? = some ⟨[.int .i64 w, .int .i64 h, u2, u3, u4, u5, u6, u7, u8, u9, .int .i64 tm], 0, 59⟩ ∧ ∀ j, j < i → bufOk w h (buf.getD j []) ((j : Int) % 2)) ?_ (n := buf.length)
    ⟨0, rfl, by omega, by simp, by simp, by simp [c2], by simp, Chg.app _, by simp, by omega⟩
  rintro n t H' ⟨i, rfl, hi, t1, t57, t58, t59, ch, b0, hk⟩ ih
  simp [t1, t57, t58, t59]
  refine wp_dec ?_ ?_ <;> intro g
  · have hi' : i < buf.length := by omega
    have rl := o5.1.rd.chg ch (by simp)
    obtain ⟨u, _, a2, a3, a4⟩ := RdL_at rl (ty := 57) (e := 123) (by simp) (by simp) hi'
    have hlen := o5.2.2 _ (List.getElem_mem hi')
    simp only at a2 a3 a4 hlen
    have lu := a4.len (P := Try.prog) (ty := 123) (by simp)
    have hbg : buf.getD i [] = buf[i] := getD_at hi'
    have bad : ¬ bufOk w h buf[i] ((i : Int) % 2) → Y = false := fun hh => no' (fun k => hh (by have := k.2.2.1 i hi'; simp only [hbg] at this; exact this))
    obtain ⟨l, hl⟩ : ∃ l, l = buf[i] := ⟨_, rfl⟩
    rw [← hl] at a4 lu hlen bad hbg
    simp [t1, t57, t58, t59, a2, a3, lu]
    by_cases g1 : l.length ≤ 3
    rotate_left
    · have g1' : (3 : Int) < l.length := by omega
      simp [g1']; exact bad (fun k => g1 k.1)
    have g1' : ¬ (3 : Int) < l.length := by omega
    simp [g1', t1, t57, t58, t59, tmod2]
    refine wp_thn (classOnly_w u l ((i : Int) % 2) a4 (by omega)) ?_
    rintro r H2 ⟨orr, nr, cc⟩
    have b0 := box_chg b0 cc (by simp)
    have lr := orr.rd.len (P := Try.prog) (ty := 123) (by simp)
    have lu2 := (a4.chg cc (by simp)).len (P := Try.prog) (ty := 123) (by simp)
    have hfl := filter_len_all (l := l) (c := (i : Int) % 2)
    generalize (l.filter fun f => f.2.2.1 = (i : Int) % 2).length = q at *
    simp [t1, t57, t58, t59, lr, lu2]
    by_cases g2 : q = l.length
    rotate_left
    · have g2' : ¬ (q : Int) = l.length := by omega
      simp [g2']; exact bad (fun k => g2 (hfl.2 k.2.1))
    have af := fun F => areFlits_c (frz := F) (H := H2) w h u l (a4.chg cc (by simp)) (by omega)
    simp [g2, t1, t57, t58, t59, VM.look, b0, af]
    by_cases g3 : flitsOk w h l
    rotate_left
    · simp [g3]; exact bad (fun k => g3 k.2.2)
    simp [g3, t1, t57, t58, t59]
    refine ih (buf.length - (i + 1)) _ _ ⟨i + 1, rfl, by omega, by simp [t1], by simp [t57], by simp [t58], ?_, ch.trans cc, b0, fun j hj => ?_⟩ (by omega)
    · simp; rw [w64 (by omega) (by omega)]
    · by_cases hji : j < i
      · exact hk j hji
      · have : j = i := by omega
        subst this
        rw [hbg]; exact ⟨g1, hfl.1 g2, g3⟩
  · have : i = buf.length := by omega
    subst this
    clear ih
    have l8 := (o8.1.rd.chg ch (by simp)).1.len (P := Try.prog) (ty := 57) (by simp)
    simp only at l8
    simp [t1, t57, t58, t59, VM.look, b0, ones, l8, hl8]
    refine wp_inv (fun n t H2 => ∃ i : Nat, n = src.length - i ∧ i ≤ src.length ∧ t 1 = .pointer (some ⟨H.length, 0, some 0⟩) ∧ t 87 = u8 ∧ t 88 = .int .i64 src.length ∧ t 89 = .int .i64 i ∧ H2 = H' ∧ ∀ l ∈ src.take i, srcOk w h l) ?_ (n := src.length)
      ⟨0, rfl, by omega, by simp [t1], by simp, by simp, by simp, rfl, by simp⟩
    clear t1 t57 t58 t59
    rintro n t H2 ⟨i, rfl, hi, t1, t87, t88, t89, rfl, hk2⟩ ih
    simp [t1, t87, t88, t89]
    refine wp_dec ?_ ?_ <;> intro g
    · have hi' : i < src.length := by omega
      have rl := o8.1.rd.chg ch (by simp)
      obtain ⟨u, _, a2, a3, a4⟩ := RdL_at rl (ty := 57) (e := 123) (by simp) (by simp) hi'
      have hlen := o8.2.2 _ (List.getElem_mem hi')
      simp only at a2 a3 a4 hlen
      have lu := a4.len (P := Try.prog) (ty := 123) (by simp)
      have bad : ¬ srcOk w h src[i] → Y = false := fun hh => no' (fun k => hh (k.2.2.2.1 _ (List.getElem_mem hi')))
      have hst := fun {x} (hx : x ∈ src.take (i + 1)) => mem_take_succ hi' hx
      obtain ⟨l, hl⟩ : ∃ l, l = src[i] := ⟨_, rfl⟩
      rw [← hl] at a4 lu hlen bad hst
      simp [t1, t87, t88, t89, a2, a3, lu]
      by_cases g1 : l.length ≤ 60
      rotate_left
      · have g1' : (60 : Int) < l.length := by omega
        simp [g1']; exact bad (fun k => g1 k.1)
      have g1' : ¬ (60 : Int) < l.length := by omega
      have af := fun F => areFlits_c (frz := F) (H := H2) w h u l a4 (by omega)
      simp [g1', t1, t87, t88, t89, VM.look, b0, af]
      by_cases g3 : flitsOk w h l
      rotate_left
      · simp [g3]; exact bad (fun k => g3 k.2)
      simp [g3, t1, t87, t88, t89]
      refine ih (src.length - (i + 1)) _ _ ⟨i + 1, rfl, by omega, by simp [t1], by simp [t87], by simp [t88], ?_, rfl, fun x hx => ?_⟩ (by omega)
      · simp; rw [w64 (by omega) (by omega)]
      · rcases hst hx with hx | rfl
        · exact hk2 x hx
        · exact ⟨g1, g3⟩
    · have : i = src.length := by omega
      subst this
      rw [List.take_length] at hk2
      have ai := fun F => areInside_c (frz := F) (H := H2) u6 own (-1) 4 (Rd.isI (o6.1.rd.chg ch (by simp))) (by have := o6.2; omega)
      have ai2 := fun F => areInside_c (frz := F) (H := H2) u7 turn 0 9 (Rd.isI (o7.1.rd.chg ch (by simp))) (by have := o7.2; omega)
      have ai3 := fun F => inside_c (frz := F) (H := H2) tm 0 1000000
      have hiff : netOk ((w, h, b), (A, B), buf, own, turn, src, arr, tm) ↔ (∀ x ∈ own, inR (-1) x 4) ∧ (∀ x ∈ turn, inR 0 x 9) ∧ inR 0 tm 1000000 :=
        ⟨fun k => k.2.2.2.2, fun k => ⟨c1, hsz, hk, hk2, k⟩⟩
      have hY2 : Y = (decide (∀ x ∈ own, inR (-1) x 4) && decide (∀ x ∈ turn, inR 0 x 9) && decide (inR 0 tm 1000000)) := by
        rw [← hY, Bool.eq_iff_iff]; simp only [decide_eq_true_eq, Bool.and_eq_true, and_assoc]; exact hiff
      generalize decide (∀ x ∈ own, inR (-1) x 4) = P1 at *
      generalize decide (∀ x ∈ turn, inR 0 x 9) = P2 at *
      generalize decide (inR 0 tm 1000000) = P3 at *
      simp [t1, t87, t88, t89, VM.look, b0, ones, ai, ai2, ai3, hY2]
      cases P1 <;> cases P2 <;> cases P3 <;> simp [t1, VM.look, b0, ones, ai2, ai3]
theorem sNetOk_d {v : NetV} {x : NetD} (o : dNet.Ow H v x) : vcall C frz 66 [dNet.val v x] H = some (.bool (decide (netOk x)), H) := by
  have oo := dNet_one o
  obtain ⟨u2, ⟨u3, u4⟩, ⟨u5, h5⟩, u6, u7, ⟨u8, h8⟩, ⟨u9, h9⟩, _⟩ := v
  obtain ⟨⟨w, h, b⟩, ⟨A, B⟩, buf, own, turn, src, arr, tm⟩ := x
  obtain ⟨o2, o3, o5, o6, o7, o8, o9, _⟩ := o
  simp only at o2 o3 o5 o6 o7 o8 o9
  obtain ⟨p2, p3, p4, p5, p6, p7, p8, p9⟩ := oo
  simp only at p2 p3 p4 p5 p6 p7 p8 p9
  rw [dNet_val]
  refine wp.exact (by simp) ?_ rfl
  rw [vcall_go (fn := Try.f66) Try.func66 rfl (by kernel_rfl) rfl]
  generalize hY : decide (netOk ((w, h, b), (A, B), buf, own, turn, src, arr, tm)) = Y
  obtain ⟨N, hN⟩ : ∃ N : Nat, cnt w h = N := ⟨(cnt w h).toNat, by have := cnt_range w h; omega⟩
  have hN2 : N ≤ 16 := by have := cnt_range w h; omega
  have w10 : ∀ [Inhabited Unit], IntKind.i64.wrap (10 * (N : Int)) = 10 * (N : Int) := by intro _; exact w64 (by omega) (by omega)
  have w5 : ∀ [Inhabited Unit], IntKind.i64.wrap (5 * (N : Int)) = 5 * (N : Int) := by intro _; exact w64 (by omega) (by omega)
  have cok := fun F L => sClassesOk_c (frz := F) (H := H ++ L) w h u2 u3 u4 b A B (Rd.isI o2.1.rd.app) (Rd.isI o3.1.1.rd.app) (Rd.isI o3.2.1.rd.app) o2.2
  have ln5 := fun (L : Heap) => (RdL.app (L := L) o5.1.rd).1.len (P := Try.prog) (ty := 57) (by simp)
  have ln8 := fun (L : Heap) => (RdL.app (L := L) o8.1.rd).1.len (P := Try.prog) (ty := 57) (by simp)
  have ln9 := fun (L : Heap) => (RdL.app (L := L) o9.1.rd).1.len (P := Try.prog) (ty := 57) (by simp)
  have ln6 := fun (L : Heap) => (Rd.app (L := L) o6.1.rd).len (P := Try.prog) (ty := 24) (by simp)
  have ln7 := fun (L : Heap) => (Rd.app (L := L) o7.1.rd).len (P := Try.prog) (ty := 24) (by simp)
  have hl5 := o5.1.rd.2.1
  have hl8 := o8.1.rd.2.1
  have hl9 := o9.1.rd.2.1
  have hb5 := o5.2.1
  have hb8 := o8.2.1
  simp only at ln5 ln8 ln9 ln6 ln7 hl5 hl8 hl9 hb5 hb8
  have no : ¬ netOk ((w, h, b), (A, B), buf, own, turn, src, arr, tm) → false = Y := fun hh => by rw [← hY]; exact (decide_eq_false hh).symm
  have no' : ¬ netOk ((w, h, b), (A, B), buf, own, turn, src, arr, tm) → Y = false := fun hh => (no hh).symm
  have ones := And.intro p2 (And.intro p3 (And.intro p4 (And.intro p5 (And.intro p6 (And.intro p7 (And.intro p8 p9))))))
  simp [ones, sNodeCount_c, hN, cok, w10, w5]
  by_cases c1 : classesOk w h b A B
  rotate_left
  · simp [c1]; exact no' (fun k => c1 k.1)
  by_cases c2 : (buf.length : Int) = 10 * N
  rotate_left
  · simp [c1, c2, ones, ln5, hl5, w10]; exact no' (fun k => c2 (by have := k.2.1.1; simp only [hN] at this; exact this))
  by_cases c3 : (own.length : Int) = 10 * N
  rotate_left
  · simp [c1, c2, c3, ones, ln5, hl5, ln6, w10]; exact no' (fun k => c3 (by have := k.2.1.2.1; simp only [hN] at this; exact this))
  by_cases c4 : (turn.length : Int) = 5 * N
  rotate_left
  · simp [c1, c2, c3, c4, ones, ln5, hl5, ln6, ln7, w10, w5]; exact no' (fun k => c4 (by have := k.2.1.2.2.1; simp only [hN] at this; exact this))
  by_cases c5 : (src.length : Int) = N
  rotate_left
  · simp [c1, c2, c3, c4, c5, ones, ln5, hl5, ln6, ln7, ln8, hl8, w10, w5]; exact no' (fun k => c5 (by have := k.2.1.2.2.2.1; simp only [hN] at this; exact this))
  by_cases c6 : (arr.length : Int) = N
  rotate_left
  · simp [c1, c2, c3, c4, c5, c6, ones, ln5, hl5, ln6, ln7, ln8, hl8, ln9, hl9, w10, w5]; exact no' (fun k => c6 (by have := k.2.1.2.2.2.2; simp only [hN] at this; exact this))
  by_cases c7 : inR 0 tm 1000000
  rotate_left
  · simp [c1, c2, c3, c4, c5, c6, c7, l01In_c, ones, ln5, hl5, ln6, ln7, ln8, hl8, ln9, hl9, w10, w5]; exact no' (fun k => c7 k.2.2.2.2.2.2)
  have hsz : sizesOk ((w, h, b), (A, B), buf, own, turn, src, arr, tm) := by unfold sizesOk; simp only [hN]; exact ⟨c2, c3, c4, c5, c6⟩
  simp [c1, c2, c3, c4, c5, c6, c7, l01In_c, ones, ln5, hl5, ln6, ln7, ln8, hl8, ln9, hl9, w10, w5]
  have hbl : buf.length = 10 * N := by omega
  have hol : own.length = 10 * N := by omega
  have htl : turn.length = 5 * N := by omega
  have hsl : src.length = N := by omega
  obtain ⟨G, hG⟩ : ∃ G, G = H ++ [⟨[.int .i64 w, .int .i64 h, u2, u3, u4, u5, u6, u7, u8, u9, .int .i64 tm], 0, 59⟩] := ⟨_, rfl⟩
  rw [← hG]
  have b0 : G[H.length]? = some ⟨[.int .i64 w, .int .i64 h, u2, u3, u4, u5, u6, u7, u8, u9, .int .i64 tm], 0, 59⟩ := by rw [hG]; simp
  have ch : Chg H G [] := by rw [hG]; exact Chg.app _
  clear hG
  have i6 : IsI G u6 own := Rd.isI (o6.1.rd.chg ch (by simp))
  have i7 : IsI G u7 turn := Rd.isI (o7.1.rd.chg ch (by simp))
  refine wp_inv (fun n t H' => ∃ i : Nat, n = 10 * N - i ∧ i ≤ 10 * N ∧ t 1 = .pointer (some ⟨H.length, 0, some 0⟩) ∧ t 3 = .int .i64 N ∧ t 4 = .int .i64 i ∧ H' = G ∧
      ∀ j, j < i → bufOk w h (buf.getD j []) ((j : Int) % 2) ∧ inR (-1) (own.getD j 0) 4) ?_ (n := 10 * N)
    ⟨0, rfl, by omega, by simp, by simp, by simp, rfl, by omega⟩
  rintro n t H' ⟨i, rfl, hi, t1, t3, t4, rfl, hk⟩ ih
  simp [t1, t3, t4, w10]
  refine wp_dec ?_ ?_ <;> intro g
  · have hi' : i < buf.length := by omega
    have hio : i < own.length := by omega
    have rl := o5.1.rd.chg ch (by simp)
    obtain ⟨u, _, a2, a3, a4⟩ := RdL_at rl (ty := 57) (e := 123) (by simp) (by simp) hi'
    have hlen := o5.2.2 _ (List.getElem_mem hi')
    simp only at a2 a3 a4 hlen
    have lu := a4.len (P := Try.prog) (ty := 123) (by simp)
    have hbg : buf.getD i [] = buf[i] := getD_at hi'
    have bad : ¬ bufOk w h buf[i] ((i : Int) % 2) → Y = false := fun hh => no' (fun k => hh (by have := k.2.2.1 i hi'; simp only [hbg] at this; exact this))
    obtain ⟨l, hl⟩ : ∃ l, l = buf[i] := ⟨_, rfl⟩
    rw [← hl] at a4 lu hlen bad hbg
    have q1 := i6.idx (P := Try.prog) (ty := 24) (e := 3) (by simp) (i := (i : Int)) (by omega) (by omega)
    have q2 := i6.load (P := Try.prog) (e := 3) (by simp) hio
    simp only [Int.toNat_natCast, getD_at hio] at q1 q2
    simp [t1, t3, t4, VM.look, b0, ones, a2, a3, lu]
    by_cases g1 : l.length ≤ 3
    rotate_left
    · have g1' : (3 : Int) < l.length := by omega
      simp [g1']; exact bad (fun k => g1 k.1)
    have g1' : ¬ (3 : Int) < l.length := by omega
    have af := fun F => l15Flits_c (frz := F) (H := H') w h u l a4 (by omega)
    simp [g1', t1, t3, t4, VM.look, b0, ones, af]
    by_cases g3 : flitsOk w h l
    rotate_left
    · simp [g3]; exact bad (fun k => g3 k.2.2)
    simp [g3, t1, t3, t4, VM.look, b0, ones, q1, q2, l01In_c]
    by_cases g4 : inR (-1) own[i] 4
    rotate_left
    · simp [g4]; exact no' (fun k => g4 (k.2.2.2.2.1 _ (List.getElem_mem hio)))
    simp [g4, t1, t3, t4]
    refine wp_inv (fun n t H2 => ∃ c : Nat, n = l.length - c ∧ c ≤ l.length ∧ t 1 = .pointer (some ⟨H.length, 0, some 0⟩) ∧ t 3 = .int .i64 N ∧ t 4 = .int .i64 i ∧ t 5 = u ∧ t 6 = .int .i64 c ∧ H2 = H' ∧ ∀ f ∈ l.take c, f.2.2.1 = (i : Int) % 2) ?_ (n := l.length)
      ⟨0, rfl, by omega, by simp [t1], by simp [t3], by simp [t4], by simp, by simp, rfl, by simp⟩
    clear t1 t3 t4
    rintro n t H2 ⟨c, rfl, hc, t1, t3, t4, t5, t6, rfl, hk3⟩ ih2
    simp [t1, t3, t4, t5, t6, lu]
    refine wp_dec ?_ ?_ <;> intro g5
    · have hc' : c < l.length := by omega
      have r1 := a4.idx (P := Try.prog) (ty := 123) (e := 134) (by simp) (i := (c : Int)) (by omega) (by omega)
      have r2 := a4.cell (P := Try.prog) (e := 3) (by simp) hc' (c := 2) (by decide)
      have r3 := a4.field (P := Try.prog) (s := 134) (f := 2) (o := 2) (n := 1) (ag := false) (by simp) (j := c * 5) (by omega)
      simp only [Int.toNat_natCast, flF_n, flF_f] at r1 r2
      simp at r2
      simp [-vfieldAddr, vfa_ptr, t1, t3, t4, t5, t6, r1, r2, r3, tmod2]
      refine wp_dec ?_ ?_ <;> intro g6
      · simp [t1, t3, t4, t5, t6]
        refine ih2 (l.length - (c + 1)) _ _ ⟨c + 1, rfl, by omega, by simp [t1], by simp [t3], by simp [t4], by simp [t5], ?_, rfl, fun f hf => ?_⟩ (by omega)
        · simp; rw [w64 (by omega) (by omega)]
        · rcases mem_take_succ hc' hf with hf | rfl
          · exact hk3 f hf
          · exact g6
      · simp [t1, t3, t4, t5, t6]
        exact bad (fun k => g6 (k.2.1 _ (List.getElem_mem hc')))
    · have : c = l.length := by omega
      subst this
      rw [List.take_length] at hk3
      simp [t1, t3, t4, t5, t6]
      refine ih (10 * N - (i + 1)) _ _ ⟨i + 1, rfl, by omega, by simp [t1], by simp [t3], ?_, rfl, fun j hj => ?_⟩ (by omega)
      · simp; rw [w64 (by omega) (by omega)]
      · by_cases hji : j < i
        · exact hk j hji
        · have : j = i := by omega
          subst this
          rw [hbg, getD_at hio]; exact ⟨⟨g1, hk3, g3⟩, g4⟩
  · have : i = 10 * N := by omega
    subst this
    clear ih
    simp [t1, t3, t4]
    refine wp_inv (fun n t H2 => ∃ i : Nat, n = 5 * N - i ∧ i ≤ 5 * N ∧ t 1 = .pointer (some ⟨H.length, 0, some 0⟩) ∧ t 3 = .int .i64 N ∧ t 7 = .int .i64 i ∧ H2 = H' ∧ ∀ x ∈ turn.take i, inR 0 x 9) ?_ (n := 5 * N)
      ⟨0, rfl, by omega, by simp [t1], by simp [t3], by simp, rfl, by simp⟩
    clear t1 t3 t4
    rintro n t H2 ⟨i, rfl, hi, t1, t3, t7, rfl, hk2⟩ ih
    simp [t1, t3, t7, w5]
    refine wp_dec ?_ ?_ <;> intro g
    · have hit : i < turn.length := by omega
      have q1 := i7.idx (P := Try.prog) (ty := 24) (e := 3) (by simp) (i := (i : Int)) (by omega) (by omega)
      have q2 := i7.load (P := Try.prog) (e := 3) (by simp) hit
      simp only [Int.toNat_natCast, getD_at hit] at q1 q2
      simp [t1, t3, t7, VM.look, b0, ones, q1, q2, l01In_c]
      by_cases g4 : inR 0 turn[i] 9
      rotate_left
      · simp [g4]; exact no' (fun k => g4 (k.2.2.2.2.2.1 _ (List.getElem_mem hit)))
      simp [g4, t1, t3, t7]
      refine ih (5 * N - (i + 1)) _ _ ⟨i + 1, rfl, by omega, by simp [t1], by simp [t3], ?_, rfl, fun x hx => ?_⟩ (by omega)
      · simp; rw [w64 (by omega) (by omega)]
      · rcases mem_take_succ hit hx with hx | rfl
        · exact hk2 x hx
        · exact g4
    · have : i = 5 * N := by omega
      subst this
      clear ih
      simp [t1, t3, t7]
      refine wp_inv (fun n t H' => ∃ i : Nat, n = N - i ∧ i ≤ N ∧ t 1 = .pointer (some ⟨H.length, 0, some 0⟩) ∧ t 3 = .int .i64 N ∧ t 8 = .int .i64 i ∧ H' = H2 ∧ ∀ l ∈ src.take i, srcOk w h l) ?_ (n := N)
        ⟨0, rfl, by omega, by simp [t1], by simp [t3], by simp, rfl, by simp⟩
      clear t1 t3 t7
      rintro n t H' ⟨i, rfl, hi, t1, t3, t8, rfl, hk4⟩ ih
      simp [t1, t3, t8]
      refine wp_dec ?_ ?_ <;> intro g
      · have hi' : i < src.length := by omega
        have rl := o8.1.rd.chg ch (by simp)
        obtain ⟨u, _, a2, a3, a4⟩ := RdL_at rl (ty := 57) (e := 123) (by simp) (by simp) hi'
        have hlen := o8.2.2 _ (List.getElem_mem hi')
        simp only at a2 a3 a4 hlen
        have lu := a4.len (P := Try.prog) (ty := 123) (by simp)
        have bad : ¬ srcOk w h src[i] → Y = false := fun hh => no' (fun k => hh (k.2.2.2.1 _ (List.getElem_mem hi')))
        have hst := fun {x} (hx : x ∈ src.take (i + 1)) => mem_take_succ hi' hx
        obtain ⟨l, hl⟩ : ∃ l, l = src[i] := ⟨_, rfl⟩
        rw [← hl] at a4 lu hlen bad hst
        simp [t1, t3, t8]
        rw [go_draw (h := by kernel_rfl)]
        simp [t1, t3, t8, VM.look, b0, ones, a2, a3, lu]
        by_cases g1 : l.length ≤ 60
        rotate_left
        · have g1' : (60 : Int) < l.length := by omega
          simp [g1']; exact bad (fun k => g1 k.1)
        have g1' : ¬ (60 : Int) < l.length := by omega
        have af := fun F => l15Flits_c (frz := F) (H := H') w h u l a4 (by omega)
        simp [g1', t1, t3, t8, VM.look, b0, ones, a2, a3, af]
        by_cases g3 : flitsOk w h l
        rotate_left
        · simp [g3]; exact bad (fun k => g3 k.2)
        simp [g3, t1, t3, t8]
        refine ih (N - (i + 1)) _ _ ⟨i + 1, rfl, by omega, by simp [t1], by simp [t3], ?_, rfl, fun x hx => ?_⟩ (by omega)
        · simp; rw [w64 (by omega) (by omega)]
        · rcases hst hx with hx | rfl
          · exact hk4 x hx
          · exact ⟨g1, g3⟩
      · have : i = N := by omega
        subst this
        simp [t1, t3, t8]
        rw [← hsl, List.take_length] at hk4
        rw [← htl, List.take_length] at hk2
        rw [← hY]
        refine (decide_eq_true ⟨c1, hsz, fun j hj => (hk j (by simp only at hj; omega)).1, hk4, fun x hx => ?_, hk2, c7⟩)
        obtain ⟨j, hj, rfl⟩ := List.mem_iff_getElem.1 hx
        have := (hk j (by simp only at hj; omega)).2
        rw [getD_at hj] at this; exact this
end Go.Proofs.Ytcigpclbhfkgaaa.V
/-! Slices compared. -/
set_option linter.all false
namespace Go.Proofs.Ytcigpclbhfkgaaa.V
open Go Go.VM Go.Proofs
set_option maxRecDepth 10000
variable {frz : Nat} {H : Heap}
theorem cseq_flF (x y : FlitD) : cseq [0, 0, 0, 1, 1] (flF.f x) (flF.f y) = some (decide (x = y)) := by
  obtain ⟨p, t, c, h, l⟩ := x
  obtain ⟨p', t', c', h', l'⟩ := y
  simp only [flF_f, cseq, ceq, if_true]
  congr 1
  rw [Bool.eq_iff_iff]; simp [and_assoc]
theorem cseq_pkF (x y : PkD) : cseq [0, 0, 0, 0, 0] (pkF.f x) (pkF.f y) = some (decide (x = y)) := by
  obtain ⟨p, t, c, h, l⟩ := x
  obtain ⟨p', t', c', h', l'⟩ := y
  simp only [pkF_f, cseq, ceq, if_true]
  congr 1
  rw [Bool.eq_iff_iff]; simp [and_assoc]
theorem equalI_c (a b : Value) (xs ys : List Int) (ha : Rd Fl.int H a xs) (hb : Rd Fl.int H b ys) (hl : xs.length ≤ 1073741824) :
   vcall C frz 104 [a, b] H = some (.bool (decide (xs = ys)), H) := by
  refine wp.exact (by simp) ?_ rfl
  rw [vcall_go (fn := Try.f104) Try.func104 rfl (by kernel_rfl) rfl]
  generalize hY : decide (xs = ys) = Y
  have la := ha.len (P := Try.prog) (ty := 24) (by simp)
  have lb := hb.len (P := Try.prog) (ty := 24) (by simp)
  have no : ¬ xs = ys → Y = false := fun hh => by rw [← hY]; exact decide_eq_false hh
  simp [la, lb]
  refine wp_dec ?_ ?_ <;> intro h0
  · have h0' : xs.length = ys.length := by omega
    simp [la]
    refine wp_inv (fun n t H' => ∃ i : Nat, n = xs.length - i ∧ i ≤ xs.length ∧ t 0 = a ∧ t 1 = b ∧ t 12 = .int .i64 xs.length ∧ t 13 = .int .i64 i ∧ H' = H ∧ xs.take i = ys.take i) ?_ (n := xs.length) ⟨0, rfl, by omega, by simp, by simp, by simp, by simp, rfl, by simp⟩
    rintro n t H' ⟨i, rfl, hi, t0, t1, t12, t13, rfl, h4⟩ ih
    simp [t0, t1, t12, t13, la]
    refine wp_dec ?_ ?_ <;> intro h
    · have hx : i < xs.length := by omega
      have hy : i < ys.length := by omega
      have q1 := ha.idx (P := Try.prog) (ty := 24) (e := 3) (by simp) (i := (i : Int)) (by omega) (by omega)
      have q2 := ha.cell1 (P := Try.prog) (e := 3) rfl (by simp) hx
      have q3 := hb.idx (P := Try.prog) (ty := 24) (e := 3) (by simp) (i := (i : Int)) (by omega) (by omega)
      have q4 := hb.cell1 (P := Try.prog) (e := 3) rfl (by simp) hy
      simp only [Int.toNat_natCast, Fl.int_n, Nat.mul_one] at q1 q2 q3 q4
      simp at q2 q4
      simp [t0, t1, t12, t13]
      rw [go_draw (h := by kernel_rfl)]
      simp [t0, t1, t12, t13, q1, q2, q3, q4]
      refine wp_dec ?_ ?_ <;> intro h5
      · simp [t0, t1, t12, t13]
        refine ih (xs.length - (i + 1)) _ _ ⟨i + 1, rfl, by omega, by simp [t0], by simp [t1], by simp [t12], ?_, rfl, ?_⟩ (by omega)
        · simp; rw [w64 (by omega) (by omega)]
        · rw [List.take_succ_eq_append_getElem hx, List.take_succ_eq_append_getElem hy, h4, h5]
      · simp [t0, t1, t12, t13]
        exact no (fun hh => h5 (by subst hh; rfl))
    · have : i = xs.length := by omega
      subst this
      rw [List.take_length, List.take_of_length_le (by omega)] at h4
      simp [t0, t1, t12, t13]
      rw [← hY]; exact decide_eq_true h4
  · simp
    exact no (fun hh => h0 (by rw [hh]))
theorem equalF_c (a b : Value) (xs ys : List FlitD) (ha : Rd flF H a xs) (hb : Rd flF H b ys) (hl : xs.length ≤ 1073741824) :
   vcall C frz 188 [a, b] H = some (.bool (decide (xs = ys)), H) := by
  refine wp.exact (by simp) ?_ rfl
  rw [vcall_go (fn := Try.f188) Try.func188 rfl (by kernel_rfl) rfl]
  generalize hY : decide (xs = ys) = Y
  have la := ha.len (P := Try.prog) (ty := 123) (by simp)
  have lb := hb.len (P := Try.prog) (ty := 123) (by simp)
  have no : ¬ xs = ys → Y = false := fun hh => by rw [← hY]; exact decide_eq_false hh
  simp [la, lb]
  refine wp_dec ?_ ?_ <;> intro h0
  · have h0' : xs.length = ys.length := by omega
    simp [la]
    refine wp_inv (fun n t H' => ∃ i : Nat, n = xs.length - i ∧ i ≤ xs.length ∧ t 0 = a ∧ t 1 = b ∧ t 12 = .int .i64 xs.length ∧ t 13 = .int .i64 i ∧ H' = H ∧ xs.take i = ys.take i) ?_ (n := xs.length) ⟨0, rfl, by omega, by simp, by simp, by simp, by simp, rfl, by simp⟩
    rintro n t H' ⟨i, rfl, hi, t0, t1, t12, t13, rfl, h4⟩ ih
    simp [t0, t1, t12, t13, la]
    refine wp_dec ?_ ?_ <;> intro h
    · have hx : i < xs.length := by omega
      have hy : i < ys.length := by omega
      have q1 := ha.idx (P := Try.prog) (ty := 123) (e := 134) (by simp) (i := (i : Int)) (by omega) (by omega)
      have q2 := ha.load (P := Try.prog) (e := 134) (by simp) hx
      have q3 := hb.idx (P := Try.prog) (ty := 123) (e := 134) (by simp) (i := (i : Int)) (by omega) (by omega)
      have q4 := hb.load (P := Try.prog) (e := 134) (by simp) hy
      simp only [Int.toNat_natCast, flF_n] at q1 q2 q3 q4
      simp [t0, t1, t12, t13]
      rw [go_draw (h := by kernel_rfl)]
      simp [t0, t1, t12, t13, q1, q2, q3, q4, cseq_flF, -cseq]
      refine wp_dec ?_ ?_ <;> intro h5
      · simp [t0, t1, t12, t13]
        refine ih (xs.length - (i + 1)) _ _ ⟨i + 1, rfl, by omega, by simp [t0], by simp [t1], by simp [t12], ?_, rfl, ?_⟩ (by omega)
        · simp; rw [w64 (by omega) (by omega)]
        · rw [List.take_succ_eq_append_getElem hx, List.take_succ_eq_append_getElem hy, h4, h5]
      · simp [t0, t1, t12, t13]
        exact no (fun hh => h5 (by subst hh; rfl))
    · have : i = xs.length := by omega
      subst this
      rw [List.take_length, List.take_of_length_le (by omega)] at h4
      simp [t0, t1, t12, t13]
      rw [← hY]; exact decide_eq_true h4
  · simp
    exact no (fun hh => h0 (by rw [hh]))
theorem equalP_c (a b : Value) (xs ys : List PkD) (ha : Rd pkF H a xs) (hb : Rd pkF H b ys) (hl : xs.length ≤ 1073741824) :
   vcall C frz 63 [a, b] H = some (.bool (decide (xs = ys)), H) := by
  refine wp.exact (by simp) ?_ rfl
  rw [vcall_go (fn := Try.f63) Try.func63 rfl (by kernel_rfl) rfl]
  generalize hY : decide (xs = ys) = Y
  have la := ha.len (P := Try.prog) (ty := 60) (by simp)
  have lb := hb.len (P := Try.prog) (ty := 60) (by simp)
  have no : ¬ xs = ys → Y = false := fun hh => by rw [← hY]; exact decide_eq_false hh
  simp [la, lb]
  refine wp_dec ?_ ?_ <;> intro h0
  · have h0' : xs.length = ys.length := by omega
    simp [la]
    refine wp_inv (fun n t H' => ∃ i : Nat, n = xs.length - i ∧ i ≤ xs.length ∧ t 0 = a ∧ t 1 = b ∧ t 12 = .int .i64 xs.length ∧ t 13 = .int .i64 i ∧ H' = H ∧ xs.take i = ys.take i) ?_ (n := xs.length) ⟨0, rfl, by omega, by simp, by simp, by simp, by simp, rfl, by simp⟩
    rintro n t H' ⟨i, rfl, hi, t0, t1, t12, t13, rfl, h4⟩ ih
    simp [t0, t1, t12, t13, la]
    refine wp_dec ?_ ?_ <;> intro h
    · have hx : i < xs.length := by omega
      have hy : i < ys.length := by omega
      have q1 := ha.idx (P := Try.prog) (ty := 60) (e := 44) (by simp) (i := (i : Int)) (by omega) (by omega)
      have q2 := ha.load (P := Try.prog) (e := 44) (by simp) hx
      have q3 := hb.idx (P := Try.prog) (ty := 60) (e := 44) (by simp) (i := (i : Int)) (by omega) (by omega)
      have q4 := hb.load (P := Try.prog) (e := 44) (by simp) hy
      simp only [Int.toNat_natCast, pkF_n] at q1 q2 q3 q4
      simp [t0, t1, t12, t13]
      rw [go_draw (h := by kernel_rfl)]
      simp [t0, t1, t12, t13, q1, q2, q3, q4, cseq_pkF, -cseq]
      refine wp_dec ?_ ?_ <;> intro h5
      · simp [t0, t1, t12, t13]
        refine ih (xs.length - (i + 1)) _ _ ⟨i + 1, rfl, by omega, by simp [t0], by simp [t1], by simp [t12], ?_, rfl, ?_⟩ (by omega)
        · simp; rw [w64 (by omega) (by omega)]
        · rw [List.take_succ_eq_append_getElem hx, List.take_succ_eq_append_getElem hy, h4, h5]
      · simp [t0, t1, t12, t13]
        exact no (fun hh => h5 (by subst hh; rfl))
    · have : i = xs.length := by omega
      subst this
      rw [List.take_length, List.take_of_length_le (by omega)] at h4
      simp [t0, t1, t12, t13]
      rw [← hY]; exact decide_eq_true h4
  · simp
    exact no (fun hh => h0 (by rw [hh]))
theorem sIntsEq_c (a b : Value) (xs ys : List Int) (ha : Rd Fl.int H a xs) (hb : Rd Fl.int H b ys) (hl : xs.length ≤ 1073741824) :
   vcall C frz 113 [a, b] H = some (.bool (decide (xs = ys)), H) := by
  refine wp.exact (by simp) ?_ rfl
  rw [vcall_go (fn := Try.f113) Try.func113 rfl (by kernel_rfl) rfl]
  generalize hY : decide (xs = ys) = Y
  have la := ha.len (P := Try.prog) (ty := 24) (by simp)
  have lb := hb.len (P := Try.prog) (ty := 24) (by simp)
  have no : ¬ xs = ys → Y = false := fun hh => by rw [← hY]; exact decide_eq_false hh
  simp [la, lb]
  refine wp_dec ?_ ?_ <;> intro h0
  · have h0' : xs.length = ys.length := by omega
    simp [la]
    refine wp_inv (fun n t H' => ∃ i : Nat, n = xs.length - i ∧ i ≤ xs.length ∧ t 0 = a ∧ t 1 = b ∧ t 5 = .int .i64 i ∧ H' = H ∧ xs.take i = ys.take i) ?_ (n := xs.length) ⟨0, rfl, by omega, by simp, by simp, by simp, rfl, by simp⟩
    rintro n t H' ⟨i, rfl, hi, t0, t1, t5, rfl, h4⟩ ih
    simp [t0, t1, t5, la]
    refine wp_dec ?_ ?_ <;> intro h
    · have hx : i < xs.length := by omega
      have hy : i < ys.length := by omega
      have q1 := ha.idx (P := Try.prog) (ty := 24) (e := 3) (by simp) (i := (i : Int)) (by omega) (by omega)
      have q2 := ha.cell1 (P := Try.prog) (e := 3) rfl (by simp) hx
      have q3 := hb.idx (P := Try.prog) (ty := 24) (e := 3) (by simp) (i := (i : Int)) (by omega) (by omega)
      have q4 := hb.cell1 (P := Try.prog) (e := 3) rfl (by simp) hy
      simp only [Int.toNat_natCast, Fl.int_n, Nat.mul_one] at q1 q2 q3 q4
      simp at q2 q4
      simp [t0, t1, t5]
      rw [go_draw (h := by kernel_rfl)]
      simp [t0, t1, t5, q1, q2, q3, q4]
      refine wp_dec ?_ ?_ <;> intro h5
      · simp [t0, t1, t5]
        refine ih (xs.length - (i + 1)) _ _ ⟨i + 1, rfl, by omega, by simp [t0], by simp [t1], ?_, rfl, ?_⟩ (by omega)
        · simp; rw [w64 (by omega) (by omega)]
        · rw [List.take_succ_eq_append_getElem hx, List.take_succ_eq_append_getElem hy, h4, h5]
      · simp [t0, t1, t5]
        exact no (fun hh => h5 (by subst hh; rfl))
    · have : i = xs.length := by omega
      subst this
      rw [List.take_length, List.take_of_length_le (by omega)] at h4
      simp [t0, t1, t5]
      rw [← hY]; exact decide_eq_true h4
  · simp
    exact no (fun hh => h0 (by rw [hh]))
theorem sFlitsEq_c (a b : Value) (xs ys : List FlitD) (ha : Rd flF H a xs) (hb : Rd flF H b ys) (hl : xs.length ≤ 1073741824) :
   vcall C frz 165 [a, b] H = some (.bool (decide (xs = ys)), H) := by
  refine wp.exact (by simp) ?_ rfl
  rw [vcall_go (fn := Try.f165) Try.func165 rfl (by kernel_rfl) rfl]
  generalize hY : decide (xs = ys) = Y
  have la := ha.len (P := Try.prog) (ty := 123) (by simp)
  have lb := hb.len (P := Try.prog) (ty := 123) (by simp)
  have no : ¬ xs = ys → Y = false := fun hh => by rw [← hY]; exact decide_eq_false hh
  simp [la, lb]
  refine wp_dec ?_ ?_ <;> intro h0
  · have h0' : xs.length = ys.length := by omega
    simp [la]
    refine wp_inv (fun n t H' => ∃ i : Nat, n = xs.length - i ∧ i ≤ xs.length ∧ t 0 = a ∧ t 1 = b ∧ t 5 = .int .i64 i ∧ H' = H ∧ xs.take i = ys.take i) ?_ (n := xs.length) ⟨0, rfl, by omega, by simp, by simp, by simp, rfl, by simp⟩
    rintro n t H' ⟨i, rfl, hi, t0, t1, t5, rfl, h4⟩ ih
    simp [t0, t1, t5, la]
    refine wp_dec ?_ ?_ <;> intro h
    · have hx : i < xs.length := by omega
      have hy : i < ys.length := by omega
      have q1 := ha.idx (P := Try.prog) (ty := 123) (e := 134) (by simp) (i := (i : Int)) (by omega) (by omega)
      have q2 := ha.load (P := Try.prog) (e := 134) (by simp) hx
      have q3 := hb.idx (P := Try.prog) (ty := 123) (e := 134) (by simp) (i := (i : Int)) (by omega) (by omega)
      have q4 := hb.load (P := Try.prog) (e := 134) (by simp) hy
      simp only [Int.toNat_natCast, flF_n] at q1 q2 q3 q4
      simp [t0, t1, t5]
      rw [go_draw (h := by kernel_rfl)]
      simp [t0, t1, t5, q1, q2, q3, q4, cseq_flF, -cseq]
      refine wp_dec ?_ ?_ <;> intro h5
      · simp [t0, t1, t5]
        refine ih (xs.length - (i + 1)) _ _ ⟨i + 1, rfl, by omega, by simp [t0], by simp [t1], ?_, rfl, ?_⟩ (by omega)
        · simp; rw [w64 (by omega) (by omega)]
        · rw [List.take_succ_eq_append_getElem hx, List.take_succ_eq_append_getElem hy, h4, h5]
      · simp [t0, t1, t5]
        exact no (fun hh => h5 (by subst hh; rfl))
    · have : i = xs.length := by omega
      subst this
      rw [List.take_length, List.take_of_length_le (by omega)] at h4
      simp [t0, t1, t5]
      rw [← hY]; exact decide_eq_true h4
  · simp
    exact no (fun hh => h0 (by rw [hh]))
end Go.Proofs.Ytcigpclbhfkgaaa.V
/-! Networks compared. -/
set_option linter.all false
namespace Go.Proofs.Ytcigpclbhfkgaaa.V
open Go Go.VM Go.Proofs
set_option maxRecDepth 10000
variable {frz : Nat} {H : Heap}
theorem sameFlits_c (a b : Value) (xs ys : List FlitD) (ha : Rd flF H a xs) (hb : Rd flF H b ys) (hl : xs.length ≤ 1073741824) :
   vcall C frz 158 [a, b] H = some (.bool (decide (xs = ys)), H) := by
  rw [vcall_go (fn := Try.f158) Try.func158 rfl (by kernel_rfl) rfl]
  simp [equalF_c a b xs ys ha hb hl]
theorem equalFunc_c (a b : Value) (hs gs : List Value) (xs ys : SSD) (ha : RdL flF H a hs xs) (hb : RdL flF H b gs ys) (hl : xs.length ≤ 1073741824) (hl2 : ∀ l ∈ xs, l.length ≤ 1073741824) :
   vcall C frz 157 [a, b, .func (.func 158) #[] #[]] H = some (.bool (decide (xs = ys)), H) := by
  refine wp.exact (by simp) ?_ rfl
  rw [vcall_go (fn := Try.f157) Try.func157 rfl (by kernel_rfl) rfl]
  generalize hY : decide (xs = ys) = Y
  have la := ha.1.len (P := Try.prog) (ty := 57) (by simp)
  have lb := hb.1.len (P := Try.prog) (ty := 57) (by simp)
  have ea := ha.2.1
  have eb := hb.2.1
  have no : ¬ xs = ys → Y = false := fun hh => by rw [← hY]; exact decide_eq_false hh
  simp [la, lb, ea, eb]
  refine wp_dec ?_ ?_ <;> intro h0
  · have h0' : xs.length = ys.length := by omega
    simp [la, ea]
    refine wp_inv (fun n t H' => ∃ i : Nat, n = xs.length - i ∧ i ≤ xs.length ∧ t 1 = b ∧ t 2 = .func (.func 158) #[] #[] ∧ t 15 = a ∧ t 16 = .int .i64 xs.length ∧ t 17 = .int .i64 i ∧ H' = H ∧ xs.take i = ys.take i) ?_ (n := xs.length) ⟨0, rfl, by omega, by simp, by simp, by simp, by simp, by simp, rfl, by simp⟩
    rintro n t H' ⟨i, rfl, hi, t1, t2, t15, t16, t17, rfl, h4⟩ ih
    simp [t1, t2, t15, t16, t17]
    refine wp_dec ?_ ?_ <;> intro h
    · have hx : i < xs.length := by omega
      have hy : i < ys.length := by omega
      obtain ⟨p, _, a2, a3, a4⟩ := RdL_at ha (ty := 57) (e := 123) (by simp) (by simp) hx
      obtain ⟨q, _, b2, b3, b4⟩ := RdL_at hb (ty := 57) (e := 123) (by simp) (by simp) hy
      have eq := fun F => sameFlits_c (frz := F) p q xs[i] ys[i] a4 b4 (hl2 _ (List.getElem_mem hx))
      simp [t1, t2, t15, t16, t17, a2, a3, b2, b3, eq]
      refine wp_dec ?_ ?_ <;> intro h5
      · simp [t1, t2, t15, t16, t17]
        refine ih (xs.length - (i + 1)) _ _ ⟨i + 1, rfl, by omega, by simp [t1], by simp [t2], by simp [t15], by simp [t16], ?_, rfl, ?_⟩ (by omega)
        · simp; rw [w64 (by omega) (by omega)]
        · rw [List.take_succ_eq_append_getElem hx, List.take_succ_eq_append_getElem hy, h4, h5]
      · simp [t1, t2, t15, t16, t17]
        exact no (fun hh => h5 (by subst hh; rfl))
    · have : i = xs.length := by omega
      subst this
      rw [List.take_length, List.take_of_length_le (by omega)] at h4
      simp [t1, t2, t15, t16, t17]
      rw [← hY]; exact decide_eq_true h4
  · simp
    exact no (fun hh => h0 (by rw [hh]))
theorem sameLists_c (a b : Value) (hs gs : List Value) (xs ys : SSD) (ha : RdL flF H a hs xs) (hb : RdL flF H b gs ys) (hl : xs.length ≤ 1073741824) (hl2 : ∀ l ∈ xs, l.length ≤ 1073741824) :
   vcall C frz 103 [a, b] H = some (.bool (decide (xs = ys)), H) := by
  rw [vcall_go (fn := Try.f103) Try.func103 rfl (by kernel_rfl) rfl]
  simp [equalFunc_c a b hs gs xs ys ha hb hl hl2]
theorem sameLists_d {a b : SSV} {x y : SSD} (ha : dSS.Ow H a x) (hb : dSS.Ow H b y) : vcall C frz 103 [a.1, b.1] H = some (.bool (decide (x = y)), H) :=
  sameLists_c a.1 b.1 a.2 b.2 x y ha.1.rd hb.1.rd (by have := ha.2.1; omega) (fun l hl => by have := ha.2.2 l hl; omega)
theorem equalI_d {a b : Value} {x y : List Int} (ha : dIntS.Ow H a x) (hb : dIntS.Ow H b y) : vcall C frz 104 [a, b] H = some (.bool (decide (x = y)), H) :=
  equalI_c a b x y ha.1.rd hb.1.rd ha.2
theorem sameMesh_d {a b : Value} {w h w' h' : Int} {x y : List Int} (ha : dMesh.Ow H a (w, h, x)) (hb : dMesh.Ow H b (w', h', y)) :
   vcall C frz 101 [.agg #[.int .i64 w, .int .i64 h, a], .agg #[.int .i64 w', .int .i64 h', b]] H = some (.bool ((w == w' && h == h') && decide (x = y)), H) := by
  rw [vcall_go (fn := Try.f101) Try.func101 rfl (by kernel_rfl) rfl]
  have oa := dMesh_one ha
  have ob := dMesh_one hb
  have e := fun F L => equalI_d (frz := F) (H := H ++ L) (Dt.app (T := dIntS) ha) (Dt.app (T := dIntS) hb)
  simp only at e oa ob
  generalize decide (x = y) = Q at *
  simp [oa, ob]
  cases hP : (w == w') <;> cases hP2 : (h == h') <;> simp [oa, ob, e]
theorem sameClasses_d {a b : Value × Value} {x y : ClassesD} (ha : dClasses.Ow H a x) (hb : dClasses.Ow H b y) :
   vcall C frz 102 [.agg #[a.1, a.2], .agg #[b.1, b.2]] H = some (.bool (decide (x.1 = y.1) && decide (x.2 = y.2)), H) := by
  rw [vcall_go (fn := Try.f102) Try.func102 rfl (by kernel_rfl) rfl]
  have oa := dClasses_one ha
  have ob := dClasses_one hb
  have e1 := fun F L => equalI_d (frz := F) (H := H ++ L) (Dt.app (T := dIntS) ha.1) (Dt.app (T := dIntS) hb.1)
  have e2 := fun F L => equalI_d (frz := F) (H := H ++ L) (Dt.app (T := dIntS) ha.2) (Dt.app (T := dIntS) hb.2)
  generalize decide (x.1 = y.1) = Q1 at *
  generalize decide (x.2 = y.2) = Q2 at *
  simp [oa, ob, e1]
  cases Q1 <;> simp [oa, ob, e2]
theorem sameNet_d {a b : NetV} {x y : NetD} (ha : dNet.Ow H a x) (hb : dNet.Ow H b y) : vcall C frz 48 [dNet.val a x, dNet.val b y] H = some (.bool (decide (x = y)), H) := by
  have oa := dNet_one ha
  have ob := dNet_one hb
  obtain ⟨a1, ⟨a2, a3⟩, ⟨a4, ha4⟩, a5, a6, ⟨a7, ha7⟩, ⟨a8, ha8⟩, _⟩ := a
  obtain ⟨b1, ⟨b2, b3⟩, ⟨b4, hb4⟩, b5, b6, ⟨b7, hb7⟩, ⟨b8, hb8⟩, _⟩ := b
  obtain ⟨⟨w, h, x1⟩, ⟨x2, x3⟩, x4, x5, x6, x7, x8, tm⟩ := x
  obtain ⟨⟨w', h', y1⟩, ⟨y2, y3⟩, y4, y5, y6, y7, y8, tm'⟩ := y
  obtain ⟨h1, h2, h3, h4, h5, h6, h7, _⟩ := ha
  obtain ⟨k1, k2, k3, k4, k5, k6, k7, _⟩ := hb
  simp only at h1 h2 h3 h4 h5 h6 h7 k1 k2 k3 k4 k5 k6 k7 oa ob
  have e1 := fun F L => sameMesh_d (frz := F) (H := H ++ L) (Dt.app h1) (Dt.app k1)
  have e2 := fun F L => sameClasses_d (frz := F) (H := H ++ L) (Dt.app h2) (Dt.app k2)
  have e3 := fun F L => sameLists_d (frz := F) (H := H ++ L) (Dt.app h3) (Dt.app k3)
  have e4 := fun F L => equalI_d (frz := F) (H := H ++ L) (Dt.app h4) (Dt.app k4)
  have e5 := fun F L => equalI_d (frz := F) (H := H ++ L) (Dt.app h5) (Dt.app k5)
  have e6 := fun F L => sameLists_d (frz := F) (H := H ++ L) (Dt.app h6) (Dt.app k6)
  have e7 := fun F L => sameLists_d (frz := F) (H := H ++ L) (Dt.app h7) (Dt.app k7)
  simp only at e2 e3 e6 e7
  rw [dNet_val, dNet_val]
  refine wp.exact (by simp) ?_ rfl
  rw [vcall_go (fn := Try.f48) Try.func48 rfl (by kernel_rfl) rfl]
  have hY : decide ((((w, h, x1), (x2, x3), x4, x5, x6, x7, x8, tm) : NetD) = ((w', h', y1), (y2, y3), y4, y5, y6, y7, y8, tm')) =
      (((w == w' && h == h') && decide (x1 = y1)) && ((decide (x2 = y2) && decide (x3 = y3)) && (decide (x4 = y4) && (decide (x5 = y5) && (decide (x6 = y6) && (decide (x7 = y7) && (decide (x8 = y8) && decide (tm = tm')))))))) := by
    rw [Bool.eq_iff_iff]; simp only [decide_eq_true_eq, Bool.and_eq_true, Prod.mk.injEq, beq_iff_eq, and_assoc]
  generalize decide ((((w, h, x1), (x2, x3), x4, x5, x6, x7, x8, tm) : NetD) = ((w', h', y1), (y2, y3), y4, y5, y6, y7, y8, tm')) = Y at *
  generalize ((w == w' && h == h') && decide (x1 = y1)) = P1 at *
  generalize (decide (x2 = y2) && decide (x3 = y3)) = P2 at *
  generalize decide (x4 = y4) = P3 at *
  generalize decide (x5 = y5) = P4 at *
  generalize decide (x6 = y6) = P5 at *
  generalize decide (x7 = y7) = P6 at *
  generalize decide (x8 = y8) = P7 at *
  simp [oa, ob, e1]
  cases P1
  · simp [hY]
  simp [oa, ob, e2]
  cases P2
  · simp [hY]
  simp [oa, ob, e3]
  cases P3
  · simp [hY]
  simp [oa, ob, e4]
  cases P4
  · simp [hY]
  simp [oa, ob, e5]
  cases P5
  · simp [hY]
  simp [oa, ob, e6]
  cases P6
  · simp [hY]
  simp [oa, ob, e7]
  cases P7
  · simp [hY]
  simp [oa, ob, hY]
end Go.Proofs.Ytcigpclbhfkgaaa.V
/-! Networks compared by the reference. -/
set_option linter.all false
namespace Go.Proofs.Ytcigpclbhfkgaaa.V
open Go Go.VM Go.Proofs
set_option maxRecDepth 10000
variable {frz : Nat} {H : Heap}
theorem sListsEq_c (a b : Value) (hs gs : List Value) (xs ys : SSD) (ha : RdL flF H a hs xs) (hb : RdL flF H b gs ys) (hl : xs.length ≤ 1073741824) (hl2 : ∀ l ∈ xs, l.length ≤ 1073741824) :
   vcall C frz 114 [a, b] H = some (.bool (decide (xs = ys)), H) := by
  refine wp.exact (by simp) ?_ rfl
  rw [vcall_go (fn := Try.f114) Try.func114 rfl (by kernel_rfl) rfl]
  generalize hY : decide (xs = ys) = Y
  have la := ha.1.len (P := Try.prog) (ty := 57) (by simp)
  have lb := hb.1.len (P := Try.prog) (ty := 57) (by simp)
  have ea := ha.2.1
  have eb := hb.2.1
  have no : ¬ xs = ys → Y = false := fun hh => by rw [← hY]; exact decide_eq_false hh
  simp [la, lb, ea, eb]
  refine wp_dec ?_ ?_ <;> intro h0
  · have h0' : xs.length = ys.length := by omega
    simp
    refine wp_inv (fun n t H' => ∃ i : Nat, n = xs.length - i ∧ i ≤ xs.length ∧ t 0 = a ∧ t 1 = b ∧ t 5 = .int .i64 i ∧ H' = H ∧ xs.take i = ys.take i) ?_ (n := xs.length) ⟨0, rfl, by omega, by simp, by simp, by simp, rfl, by simp⟩
    rintro n t H' ⟨i, rfl, hi, t0, t1, t5, rfl, h4⟩ ih
    simp [t0, t1, t5, la, ea]
    refine wp_dec ?_ ?_ <;> intro h
    · have hx : i < xs.length := by omega
      have hy : i < ys.length := by omega
      obtain ⟨p, _, a2, a3, a4⟩ := RdL_at ha (ty := 57) (e := 123) (by simp) (by simp) hx
      obtain ⟨q, _, b2, b3, b4⟩ := RdL_at hb (ty := 57) (e := 123) (by simp) (by simp) hy
      have eq := fun F => sFlitsEq_c (frz := F) p q xs[i] ys[i] a4 b4 (hl2 _ (List.getElem_mem hx))
      simp [t0, t1, t5]
      rw [go_draw (h := by kernel_rfl)]
      simp [t0, t1, t5, a2, a3, b2, b3, eq]
      refine wp_dec ?_ ?_ <;> intro h5
      · simp [t0, t1, t5]
        refine ih (xs.length - (i + 1)) _ _ ⟨i + 1, rfl, by omega, by simp [t0], by simp [t1], ?_, rfl, ?_⟩ (by omega)
        · simp; rw [w64 (by omega) (by omega)]
        · rw [List.take_succ_eq_append_getElem hx, List.take_succ_eq_append_getElem hy, h4, h5]
      · simp [t0, t1, t5]
        exact no (fun hh => h5 (by subst hh; rfl))
    · have : i = xs.length := by omega
      subst this
      rw [List.take_length, List.take_of_length_le (by omega)] at h4
      simp [t0, t1, t5]
      rw [← hY]; exact decide_eq_true h4
  · simp
    exact no (fun hh => h0 (by rw [hh]))
theorem sLists_d {a b : SSV} {x y : SSD} (ha : dSS.Ow H a x) (hb : dSS.Ow H b y) : vcall C frz 114 [a.1, b.1] H = some (.bool (decide (x = y)), H) :=
  sListsEq_c a.1 b.1 a.2 b.2 x y ha.1.rd hb.1.rd (by have := ha.2.1; omega) (fun l hl => by have := ha.2.2 l hl; omega)
theorem sInts_d {a b : Value} {x y : List Int} (ha : dIntS.Ow H a x) (hb : dIntS.Ow H b y) : vcall C frz 113 [a, b] H = some (.bool (decide (x = y)), H) :=
  sIntsEq_c a b x y ha.1.rd hb.1.rd ha.2
theorem sSameNet_d {a b : NetV} {x y : NetD} (ha : dNet.Ow H a x) (hb : dNet.Ow H b y) : vcall C frz 61 [dNet.val a x, dNet.val b y] H = some (.bool (decide (x = y)), H) := by
  have oa := dNet_one ha
  have ob := dNet_one hb
  obtain ⟨a1, ⟨a2, a3⟩, ⟨a4, ha4⟩, a5, a6, ⟨a7, ha7⟩, ⟨a8, ha8⟩, _⟩ := a
  obtain ⟨b1, ⟨b2, b3⟩, ⟨b4, hb4⟩, b5, b6, ⟨b7, hb7⟩, ⟨b8, hb8⟩, _⟩ := b
  obtain ⟨⟨w, h, x1⟩, ⟨x2, x3⟩, x4, x5, x6, x7, x8, tm⟩ := x
  obtain ⟨⟨w', h', y1⟩, ⟨y2, y3⟩, y4, y5, y6, y7, y8, tm'⟩ := y
  obtain ⟨h1, h2, h3, h4, h5, h6, h7, _⟩ := ha
  obtain ⟨k1, k2, k3, k4, k5, k6, k7, _⟩ := hb
  simp only at h1 h2 h3 h4 h5 h6 h7 k1 k2 k3 k4 k5 k6 k7 oa ob
  have e1 := fun F L => sInts_d (frz := F) (H := H ++ L) (Dt.app (T := dIntS) h1) (Dt.app (T := dIntS) k1)
  have e2 := fun F L => sInts_d (frz := F) (H := H ++ L) (Dt.app (T := dIntS) h2.1) (Dt.app (T := dIntS) k2.1)
  have e2' := fun F L => sInts_d (frz := F) (H := H ++ L) (Dt.app (T := dIntS) h2.2) (Dt.app (T := dIntS) k2.2)
  have e3 := fun F L => sLists_d (frz := F) (H := H ++ L) (Dt.app h3) (Dt.app k3)
  have e4 := fun F L => sInts_d (frz := F) (H := H ++ L) (Dt.app h4) (Dt.app k4)
  have e5 := fun F L => sInts_d (frz := F) (H := H ++ L) (Dt.app h5) (Dt.app k5)
  have e6 := fun F L => sLists_d (frz := F) (H := H ++ L) (Dt.app h6) (Dt.app k6)
  have e7 := fun F L => sLists_d (frz := F) (H := H ++ L) (Dt.app h7) (Dt.app k7)
  simp only at e1 e2 e2' e3 e6 e7
  rw [dNet_val, dNet_val]
  refine wp.exact (by simp) ?_ rfl
  rw [vcall_go (fn := Try.f61) Try.func61 rfl (by kernel_rfl) rfl]
  have hY : decide ((((w, h, x1), (x2, x3), x4, x5, x6, x7, x8, tm) : NetD) = ((w', h', y1), (y2, y3), y4, y5, y6, y7, y8, tm')) =
      (((w == w' && h == h') && decide (x1 = y1)) && ((decide (x2 = y2) && decide (x3 = y3)) && (decide (x4 = y4) && (decide (x5 = y5) && (decide (x6 = y6) && (decide (x7 = y7) && (decide (x8 = y8) && decide (tm = tm')))))))) := by
    rw [Bool.eq_iff_iff]; simp only [decide_eq_true_eq, Bool.and_eq_true, Prod.mk.injEq, beq_iff_eq, and_assoc]
  generalize decide ((((w, h, x1), (x2, x3), x4, x5, x6, x7, x8, tm) : NetD) = ((w', h', y1), (y2, y3), y4, y5, y6, y7, y8, tm')) = Y at *
  generalize decide (x1 = y1) = P1 at *
  generalize decide (x2 = y2) = P2 at *
  generalize decide (x3 = y3) = P2' at *
  generalize decide (x4 = y4) = P3 at *
  generalize decide (x5 = y5) = P4 at *
  generalize decide (x6 = y6) = P5 at *
  generalize decide (x7 = y7) = P6 at *
  generalize decide (x8 = y8) = P7 at *
  simp [oa, ob]
  cases hP : (w == w')
  · simp [hY, hP]
  cases hP2 : (h == h')
  · simp [hY, hP, hP2]
  rw [hP, hP2] at hY
  simp [oa, ob]
  by_cases ht : tm = tm'
  rotate_left
  · simp [hY, ht]
  rw [decide_eq_true ht] at hY
  simp [oa, ob, e1, ht]
  cases P1
  · simp [hY]
  simp [oa, ob, e4]
  cases P4
  · simp [hY]
  simp [oa, ob, e5]
  cases P5
  · simp [hY]
  simp [oa, ob, e2]
  cases P2
  · simp [hY]
  simp [oa, ob, e2']
  cases P2'
  · simp [hY]
  simp [oa, ob, e3]
  cases P3
  · simp [hY]
  simp [oa, ob, e6]
  cases P6
  · simp [hY]
  simp [oa, ob, e7]
  simp [hY]
end Go.Proofs.Ytcigpclbhfkgaaa.V
/-! Chips compared. -/
set_option linter.all false
namespace Go.Proofs.Ytcigpclbhfkgaaa.V
open Go Go.VM Go.Proofs
set_option maxRecDepth 10000
variable {frz : Nat} {H : Heap}
theorem sameChip_d {a b : ChipV} {x y : ChipD} (ha : dChip.Ow H a x) (hb : dChip.Ow H b y) : vcall C frz 23 [dChip.val a x, dChip.val b y] H = some (.bool (decide (x = y)), H) := by
  have oa := dChip_one ha
  have ob := dChip_one hb
  have e1 := fun F L => sameNet_d (frz := F) (H := H ++ L) (Dt.app (T := dNet) ha.1) (Dt.app (T := dNet) hb.1)
  have e2 := fun F L => equalP_c (frz := F) (H := H ++ L) a.2 b.2 x.2 y.2 ha.2.1.rd.app hb.2.1.rd.app ha.2.2
  simp only [dNet_val] at e1
  rw [dChip_val, dChip_val]
  have hY : decide (x = y) = (decide (x.1 = y.1) && decide (x.2 = y.2)) := by
    obtain ⟨x1, x2⟩ := x; obtain ⟨y1, y2⟩ := y
    rw [Bool.eq_iff_iff]; simp only [decide_eq_true_eq, Bool.and_eq_true, Prod.mk.injEq]
  refine wp.exact (by simp) ?_ rfl
  rw [vcall_go (fn := Try.f23) Try.func23 rfl (by kernel_rfl) rfl]
  generalize decide (x = y) = Y at *
  generalize decide (x.1 = y.1) = P1 at *
  generalize decide (x.2 = y.2) = P2 at *
  simp [oa, ob, e1]
  cases P1
  · simp [hY]
  simp [oa, ob, e2]
  cases P2 <;> simp [hY]
theorem sSameChip_d {a b : ChipV} {x y : ChipD} (ha : dChip.Ow H a x) (hb : dChip.Ow H b y) : vcall C frz 21 [dChip.val a x, dChip.val b y] H = some (.bool (decide (x = y)), H) := by
  have oa := dChip_one ha
  have ob := dChip_one hb
  have e1 := fun F L => sSameNet_d (frz := F) (H := H ++ L) (Dt.app (T := dNet) ha.1) (Dt.app (T := dNet) hb.1)
  simp only [dNet_val] at e1
  rw [dChip_val, dChip_val]
  have hY : decide (x = y) = (decide (x.1 = y.1) && decide (x.2 = y.2)) := by
    obtain ⟨x1, x2⟩ := x; obtain ⟨y1, y2⟩ := y
    rw [Bool.eq_iff_iff]; simp only [decide_eq_true_eq, Bool.and_eq_true, Prod.mk.injEq]
  refine wp.exact (by simp) ?_ rfl
  rw [vcall_go (fn := Try.f21) Try.func21 rfl (by kernel_rfl) rfl]
  have h1 := ha.2.1.rd
  have h2 := hb.2.1.rd
  have hl := ha.2.2
  generalize decide (x = y) = Y at *
  generalize decide (x.1 = y.1) = P1 at *
  simp [oa, ob, e1]
  cases P1
  · simp [hY]
  have hY : Y = decide (x.2 = y.2) := by simpa using hY
  have no : ¬ x.2 = y.2 → Y = false := fun hh => by rw [hY]; exact decide_eq_false hh
  have l1 := fun (L : Heap) => (Rd.app (L := L) h1).len (P := Try.prog) (ty := 60) (by simp)
  have l2 := fun (L : Heap) => (Rd.app (L := L) h2).len (P := Try.prog) (ty := 60) (by simp)
  obtain ⟨xs, hxs⟩ : ∃ xs, xs = x.2 := ⟨_, rfl⟩
  obtain ⟨ys, hys⟩ : ∃ ys, ys = y.2 := ⟨_, rfl⟩
  rw [← hxs] at h1 l1 hl hY no
  rw [← hys] at h2 l2 hY no
  simp [oa, ob, l1, l2]
  refine wp_dec ?_ ?_ <;> intro h0
  rotate_left
  · simp; exact no (fun hh => h0 (by rw [hh]))
  simp
  generalize hR : H ++ [⟨_, 0, 62⟩, ⟨_, 0, 62⟩] = G
  have b2 : G[H.length]? = some ⟨[.int .i64 x.1.1.1, .int .i64 x.1.1.2.1, a.1.1, a.1.2.1.1, a.1.2.1.2, a.1.2.2.1.1, a.1.2.2.2.1, a.1.2.2.2.2.1, a.1.2.2.2.2.2.1.1, a.1.2.2.2.2.2.2.1.1, .int .i64 x.1.2.2.2.2.2.2.2, a.2], 0, 62⟩ := by rw [← hR]; simp
  have b3 : G[H.length + 1]? = some ⟨[.int .i64 y.1.1.1, .int .i64 y.1.1.2.1, b.1.1, b.1.2.1.1, b.1.2.1.2, b.1.2.2.1.1, b.1.2.2.2.1, b.1.2.2.2.2.1, b.1.2.2.2.2.2.1.1, b.1.2.2.2.2.2.2.1.1, .int .i64 y.1.2.2.2.2.2.2.2, b.2], 0, 62⟩ := by rw [← hR]; simp
  have h1 : Rd pkF G a.2 xs := by rw [← hR]; exact h1.app
  have h2 : Rd pkF G b.2 ys := by rw [← hR]; exact h2.app
  clear hR
  have l1 := h1.len (P := Try.prog) (ty := 60) (by simp)
  refine wp_inv (fun n t H' => ∃ i : Nat, n = xs.length - i ∧ i ≤ xs.length ∧ t 2 = .pointer (some ⟨H.length, 0, some 0⟩) ∧ t 3 = .pointer (some ⟨H.length + 1, 0, some 0⟩) ∧ t 5 = .int .i64 i ∧ H' = G ∧ xs.take i = ys.take i) ?_ (n := xs.length) ⟨0, rfl, by omega, by simp, by simp, by simp, rfl, by simp⟩
  rintro n t H' ⟨i, rfl, hi, t2, t3, t5, rfl, h4⟩ ih
  simp [t2, t3, t5, VM.look, b2, oa, l1]
  refine wp_dec ?_ ?_ <;> intro h
  · have hx : i < xs.length := by omega
    have hy : i < ys.length := by omega
    have q1 := h1.idx (P := Try.prog) (ty := 60) (e := 44) (by simp) (i := (i : Int)) (by omega) (by omega)
    have q2 := h1.load (P := Try.prog) (e := 44) (by simp) hx
    have q3 := h2.idx (P := Try.prog) (ty := 60) (e := 44) (by simp) (i := (i : Int)) (by omega) (by omega)
    have q4 := h2.load (P := Try.prog) (e := 44) (by simp) hy
    simp only [Int.toNat_natCast, pkF_n] at q1 q2 q3 q4
    simp [t2, t3, t5]
    rw [go_draw (h := by kernel_rfl)]
    simp [t2, t3, t5, VM.look, b2, b3, oa, ob, q1, q2, q3, q4, cseq_pkF, -cseq]
    refine wp_dec ?_ ?_ <;> intro h5
    · simp [t2, t3, t5]
      refine ih (xs.length - (i + 1)) _ _ ⟨i + 1, rfl, by omega, by simp [t2], by simp [t3], ?_, rfl, ?_⟩ (by omega)
      · simp; rw [w64 (by omega) (by omega)]
      · rw [List.take_succ_eq_append_getElem hx, List.take_succ_eq_append_getElem hy, h4, h5]
    · simp [t2, t3, t5]
      exact no (fun hh => h5 (by subst hh; rfl))
  · have : i = xs.length := by omega
    subst this
    rw [List.take_length, List.take_of_length_le (by omega)] at h4
    simp [t2, t3, t5]
    rw [hY]; exact decide_eq_true h4
end Go.Proofs.Ytcigpclbhfkgaaa.V
/-! The law FnExactSameChip. -/
set_option linter.all false
namespace Go.Proofs.Ytcigpclbhfkgaaa.V
open Go Go.VM Go.Proofs
set_option maxRecDepth 10000
variable {frz : Nat} {H : Heap}
theorem law_FnExactSameChip_w {a0_0 : Int} {a0_1 : Int} {a0_2 : List (Int)} {u0_2 : Value} {a0_3 : List (Int)} {u0_3 : Value} {a0_4 : List (Int)} {u0_4 : Value} {a0_5 : List (List (Int × Int × Int × Bool × Bool))} {u0_5 : Value} {a0_6 : List (Int)} {u0_6 : Value} {a0_7 : List (Int)} {u0_7 : Value} {a0_8 : List (List (Int × Int × Int × Bool × Bool))} {u0_8 : Value} {a0_9 : List (List (Int × Int × Int × Bool × Bool))} {u0_9 : Value} {a0_10 : Int} {a0_11 : List (Int × Int × Int × Int × Int)} {u0_11 : Value} {a1_0 : Int} {a1_1 : Int} {a1_2 : List (Int)} {u1_2 : Value} {a1_3 : List (Int)} {u1_3 : Value} {a1_4 : List (Int)} {u1_4 : Value} {a1_5 : List (List (Int × Int × Int × Bool × Bool))} {u1_5 : Value} {a1_6 : List (Int)} {u1_6 : Value} {a1_7 : List (Int)} {u1_7 : Value} {a1_8 : List (List (Int × Int × Int × Bool × Bool))} {u1_8 : Value} {a1_9 : List (List (Int × Int × Int × Bool × Bool))} {u1_9 : Value} {a1_10 : Int} {a1_11 : List (Int × Int × Int × Int × Int)} {u1_11 : Value} (s0_2 : IsS (Kn.int .i64) H u0_2 a0_2) (s0_3 : IsS (Kn.int .i64) H u0_3 a0_3) (s0_4 : IsS (Kn.int .i64) H u0_4 a0_4) (s0_5 : IsS (Kn.slice (Kn.pair (Kn.int .i64) (Kn.pair (Kn.int .i64) (Kn.pair (Kn.int .i64) (Kn.pair Kn.bool Kn.bool))))) H u0_5 a0_5) (s0_6 : IsS (Kn.int .i64) H u0_6 a0_6) (s0_7 : IsS (Kn.int .i64) H u0_7 a0_7) (s0_8 : IsS (Kn.slice (Kn.pair (Kn.int .i64) (Kn.pair (Kn.int .i64) (Kn.pair (Kn.int .i64) (Kn.pair Kn.bool Kn.bool))))) H u0_8 a0_8) (s0_9 : IsS (Kn.slice (Kn.pair (Kn.int .i64) (Kn.pair (Kn.int .i64) (Kn.pair (Kn.int .i64) (Kn.pair Kn.bool Kn.bool))))) H u0_9 a0_9) (s0_11 : IsS (Kn.pair (Kn.int .i64) (Kn.pair (Kn.int .i64) (Kn.pair (Kn.int .i64) (Kn.pair (Kn.int .i64) (Kn.int .i64))))) H u0_11 a0_11) (s1_2 : IsS (Kn.int .i64) H u1_2 a1_2) (s1_3 : IsS (Kn.int .i64) H u1_3 a1_3) (s1_4 : IsS (Kn.int .i64) H u1_4 a1_4) (s1_5 : IsS (Kn.slice (Kn.pair (Kn.int .i64) (Kn.pair (Kn.int .i64) (Kn.pair (Kn.int .i64) (Kn.pair Kn.bool Kn.bool))))) H u1_5 a1_5) (s1_6 : IsS (Kn.int .i64) H u1_6 a1_6) (s1_7 : IsS (Kn.int .i64) H u1_7 a1_7) (s1_8 : IsS (Kn.slice (Kn.pair (Kn.int .i64) (Kn.pair (Kn.int .i64) (Kn.pair (Kn.int .i64) (Kn.pair Kn.bool Kn.bool))))) H u1_8 a1_8) (s1_9 : IsS (Kn.slice (Kn.pair (Kn.int .i64) (Kn.pair (Kn.int .i64) (Kn.pair (Kn.int .i64) (Kn.pair Kn.bool Kn.bool))))) H u1_9 a1_9) (s1_11 : IsS (Kn.pair (Kn.int .i64) (Kn.pair (Kn.int .i64) (Kn.pair (Kn.int .i64) (Kn.pair (Kn.int .i64) (Kn.int .i64))))) H u1_11 a1_11)
    (w0 : (((((Lit.int .i64 a0_0).wf = true) ∧ ((Lit.int .i64 a0_1).wf = true)) ∧ (a0_2.length ≤ maxLen ∧ ∀ x1 ∈ a0_2, (Lit.int .i64 x1).wf = true)) ∧ (((a0_3.length ≤ maxLen ∧ ∀ x2 ∈ a0_3, (Lit.int .i64 x2).wf = true)) ∧ ((a0_4.length ≤ maxLen ∧ ∀ x3 ∈ a0_4, (Lit.int .i64 x3).wf = true))) ∧ (a0_5.length ≤ maxLen ∧ ∀ x4 ∈ a0_5, x4.length ≤ maxLen ∧ ∀ x5 ∈ x4, ((Lit.int .i64 x5.1).wf = true) ∧ ((Lit.int .i64 x5.2.1).wf = true) ∧ ((Lit.int .i64 x5.2.2.1).wf = true) ∧ (True) ∧ (True)) ∧ (a0_6.length ≤ maxLen ∧ ∀ x6 ∈ a0_6, (Lit.int .i64 x6).wf = true) ∧ (a0_7.length ≤ maxLen ∧ ∀ x7 ∈ a0_7, (Lit.int .i64 x7).wf = true) ∧ (a0_8.length ≤ maxLen ∧ ∀ x8 ∈ a0_8, x8.length ≤ maxLen ∧ ∀ x9 ∈ x8, ((Lit.int .i64 x9.1).wf = true) ∧ ((Lit.int .i64 x9.2.1).wf = true) ∧ ((Lit.int .i64 x9.2.2.1).wf = true) ∧ (True) ∧ (True)) ∧ (a0_9.length ≤ maxLen ∧ ∀ x10 ∈ a0_9, x10.length ≤ maxLen ∧ ∀ x11 ∈ x10, ((Lit.int .i64 x11.1).wf = true) ∧ ((Lit.int .i64 x11.2.1).wf = true) ∧ ((Lit.int .i64 x11.2.2.1).wf = true) ∧ (True) ∧ (True)) ∧ ((Lit.int .i64 a0_10).wf = true)) ∧ (a0_11.length ≤ maxLen ∧ ∀ x12 ∈ a0_11, ((Lit.int .i64 x12.1).wf = true) ∧ ((Lit.int .i64 x12.2.1).wf = true) ∧ ((Lit.int .i64 x12.2.2.1).wf = true) ∧ ((Lit.int .i64 x12.2.2.2.1).wf = true) ∧ ((Lit.int .i64 x12.2.2.2.2).wf = true))) (w1 : (((((Lit.int .i64 a1_0).wf = true) ∧ ((Lit.int .i64 a1_1).wf = true)) ∧ (a1_2.length ≤ maxLen ∧ ∀ x13 ∈ a1_2, (Lit.int .i64 x13).wf = true)) ∧ (((a1_3.length ≤ maxLen ∧ ∀ x14 ∈ a1_3, (Lit.int .i64 x14).wf = true)) ∧ ((a1_4.length ≤ maxLen ∧ ∀ x15 ∈ a1_4, (Lit.int .i64 x15).wf = true))) ∧ (a1_5.length ≤ maxLen ∧ ∀ x16 ∈ a1_5, x16.length ≤ maxLen ∧ ∀ x17 ∈ x16, ((Lit.int .i64 x17.1).wf = true) ∧ ((Lit.int .i64 x17.2.1).wf = true) ∧ ((Lit.int .i64 x17.2.2.1).wf = true) ∧ (True) ∧ (True)) ∧ (a1_6.length ≤ maxLen ∧ ∀ x18 ∈ a1_6, (Lit.int .i64 x18).wf = true) ∧ (a1_7.length ≤ maxLen ∧ ∀ x19 ∈ a1_7, (Lit.int .i64 x19).wf = true) ∧ (a1_8.length ≤ maxLen ∧ ∀ x20 ∈ a1_8, x20.length ≤ maxLen ∧ ∀ x21 ∈ x20, ((Lit.int .i64 x21.1).wf = true) ∧ ((Lit.int .i64 x21.2.1).wf = true) ∧ ((Lit.int .i64 x21.2.2.1).wf = true) ∧ (True) ∧ (True)) ∧ (a1_9.length ≤ maxLen ∧ ∀ x22 ∈ a1_9, x22.length ≤ maxLen ∧ ∀ x23 ∈ x22, ((Lit.int .i64 x23.1).wf = true) ∧ ((Lit.int .i64 x23.2.1).wf = true) ∧ ((Lit.int .i64 x23.2.2.1).wf = true) ∧ (True) ∧ (True)) ∧ ((Lit.int .i64 a1_10).wf = true)) ∧ (a1_11.length ≤ maxLen ∧ ∀ x24 ∈ a1_11, ((Lit.int .i64 x24.1).wf = true) ∧ ((Lit.int .i64 x24.2.1).wf = true) ∧ ((Lit.int .i64 x24.2.2.1).wf = true) ∧ ((Lit.int .i64 x24.2.2.2.1).wf = true) ∧ ((Lit.int .i64 x24.2.2.2.2).wf = true))) :
    wp (vcall C frz 4 [.agg #[.int .i64 a0_0, .int .i64 a0_1, u0_2, u0_3, u0_4, u0_5, u0_6, u0_7, u0_8, u0_9, .int .i64 a0_10, u0_11], .agg #[.int .i64 a1_0, .int .i64 a1_1, u1_2, u1_3, u1_4, u1_5, u1_6, u1_7, u1_8, u1_9, .int .i64 a1_10, u1_11]] H) (fun r _ => r = .bool true) := by
  have r0_2 := s0_2.ints.rd
  have r0_3 := s0_3.ints.rd
  have r0_4 := s0_4.ints.rd
  obtain ⟨h0_5, r0_5⟩ := IsS.rdL_of (fun hh => IsS.rd_of rfl knF_is hh) s0_5
  have r0_6 := s0_6.ints.rd
  have r0_7 := s0_7.ints.rd
  obtain ⟨h0_8, r0_8⟩ := IsS.rdL_of (fun hh => IsS.rd_of rfl knF_is hh) s0_8
  obtain ⟨h0_9, r0_9⟩ := IsS.rdL_of (fun hh => IsS.rd_of rfl knF_is hh) s0_9
  have r0_11 := IsS.rd_of (D := pkF) rfl knP_is s0_11
  have r1_2 := s1_2.ints.rd
  have r1_3 := s1_3.ints.rd
  have r1_4 := s1_4.ints.rd
  obtain ⟨h1_5, r1_5⟩ := IsS.rdL_of (fun hh => IsS.rd_of rfl knF_is hh) s1_5
  have r1_6 := s1_6.ints.rd
  have r1_7 := s1_7.ints.rd
  obtain ⟨h1_8, r1_8⟩ := IsS.rdL_of (fun hh => IsS.rd_of rfl knF_is hh) s1_8
  obtain ⟨h1_9, r1_9⟩ := IsS.rdL_of (fun hh => IsS.rd_of rfl knF_is hh) s1_9
  have r1_11 := IsS.rd_of (D := pkF) rfl knP_is s1_11
  have rl0_2 := fun (L : Heap) => (Rd.app (L := L) r0_2).len (P := Try.prog) (ty := 24) (by simp)
  have rm0_2 := r0_2.len (P := Try.prog) (ty := 24) (by simp)
  have rl0_3 := fun (L : Heap) => (Rd.app (L := L) r0_3).len (P := Try.prog) (ty := 24) (by simp)
  have rm0_3 := r0_3.len (P := Try.prog) (ty := 24) (by simp)
  have rl0_4 := fun (L : Heap) => (Rd.app (L := L) r0_4).len (P := Try.prog) (ty := 24) (by simp)
  have rm0_4 := r0_4.len (P := Try.prog) (ty := 24) (by simp)
  have rl0_6 := fun (L : Heap) => (Rd.app (L := L) r0_6).len (P := Try.prog) (ty := 24) (by simp)
  have rm0_6 := r0_6.len (P := Try.prog) (ty := 24) (by simp)
  have rl0_7 := fun (L : Heap) => (Rd.app (L := L) r0_7).len (P := Try.prog) (ty := 24) (by simp)
  have rm0_7 := r0_7.len (P := Try.prog) (ty := 24) (by simp)
  have rl0_11 := fun (L : Heap) => (Rd.app (L := L) r0_11).len (P := Try.prog) (ty := 52) (by simp)
  have rm0_11 := r0_11.len (P := Try.prog) (ty := 52) (by simp)
  have rl1_2 := fun (L : Heap) => (Rd.app (L := L) r1_2).len (P := Try.prog) (ty := 24) (by simp)
  have rm1_2 := r1_2.len (P := Try.prog) (ty := 24) (by simp)
  have rl1_3 := fun (L : Heap) => (Rd.app (L := L) r1_3).len (P := Try.prog) (ty := 24) (by simp)
  have rm1_3 := r1_3.len (P := Try.prog) (ty := 24) (by simp)
  have rl1_4 := fun (L : Heap) => (Rd.app (L := L) r1_4).len (P := Try.prog) (ty := 24) (by simp)
  have rm1_4 := r1_4.len (P := Try.prog) (ty := 24) (by simp)
  have rl1_6 := fun (L : Heap) => (Rd.app (L := L) r1_6).len (P := Try.prog) (ty := 24) (by simp)
  have rm1_6 := r1_6.len (P := Try.prog) (ty := 24) (by simp)
  have rl1_7 := fun (L : Heap) => (Rd.app (L := L) r1_7).len (P := Try.prog) (ty := 24) (by simp)
  have rm1_7 := r1_7.len (P := Try.prog) (ty := 24) (by simp)
  have rl1_11 := fun (L : Heap) => (Rd.app (L := L) r1_11).len (P := Try.prog) (ty := 52) (by simp)
  have rm1_11 := r1_11.len (P := Try.prog) (ty := 52) (by simp)
  rw [vcall_go (fn := Try.f4) Try.func4 rfl (by kernel_rfl) rfl]
  have ro0_2 := And.intro r0_2.one' r0_2.cells
  have ro0_3 := And.intro r0_3.one' r0_3.cells
  have ro0_4 := And.intro r0_4.one' r0_4.cells
  have ro0_5 := And.intro r0_5.1.one' r0_5.1.cells
  have ro0_6 := And.intro r0_6.one' r0_6.cells
  have ro0_7 := And.intro r0_7.one' r0_7.cells
  have ro0_8 := And.intro r0_8.1.one' r0_8.1.cells
  have ro0_9 := And.intro r0_9.1.one' r0_9.1.cells
  have ro0_11 := And.intro r0_11.one' r0_11.cells
  have ro1_2 := And.intro r1_2.one' r1_2.cells
  have ro1_3 := And.intro r1_3.one' r1_3.cells
  have ro1_4 := And.intro r1_4.one' r1_4.cells
  have ro1_5 := And.intro r1_5.1.one' r1_5.1.cells
  have ro1_6 := And.intro r1_6.one' r1_6.cells
  have ro1_7 := And.intro r1_7.one' r1_7.cells
  have ro1_8 := And.intro r1_8.1.one' r1_8.1.cells
  have ro1_9 := And.intro r1_9.1.one' r1_9.1.cells
  have ro1_11 := And.intro r1_11.one' r1_11.cells
  simp [VM.look, ro0_2, rl0_2, rm0_2, ro0_3, rl0_3, rm0_3, ro0_4, rl0_4, rm0_4, ro0_5, ro0_6, rl0_6, rm0_6, ro0_7, rl0_7, rm0_7, ro0_8, ro0_9, ro0_11, rl0_11, rm0_11, ro1_2, rl1_2, rm1_2, ro1_3, rl1_3, rm1_3, ro1_4, rl1_4, rm1_4, ro1_5, ro1_6, rl1_6, rm1_6, ro1_7, rl1_7, rm1_7, ro1_8, ro1_9, ro1_11, rl1_11, rm1_11]
  have sz0 := fun F (L : Heap) => szChip_c (frz := F) (H := H ++ L) a0_0 a0_1 a0_10 1048576 u0_2 u0_3 u0_4 u0_5 u0_6 u0_7 u0_8 u0_9 u0_11 h0_5 h0_8 h0_9 a0_2 a0_3 a0_4 a0_6 a0_7 a0_5 a0_8 a0_9 a0_11 (IsI.rd (Rd.isI (Rd.chg r0_2 ((Chg.refl (H := H) []).trans (Chg.app [])) (by simp)))) (IsI.rd (Rd.isI (Rd.chg r0_3 ((Chg.refl (H := H) []).trans (Chg.app [])) (by simp)))) (IsI.rd (Rd.isI (Rd.chg r0_4 ((Chg.refl (H := H) []).trans (Chg.app [])) (by simp)))) (RdL.chg r0_5 ((Chg.refl (H := H) []).trans (Chg.app [])) (by simp)) (IsI.rd (Rd.isI (Rd.chg r0_6 ((Chg.refl (H := H) []).trans (Chg.app [])) (by simp)))) (IsI.rd (Rd.isI (Rd.chg r0_7 ((Chg.refl (H := H) []).trans (Chg.app [])) (by simp)))) (RdL.chg r0_8 ((Chg.refl (H := H) []).trans (Chg.app [])) (by simp)) (RdL.chg r0_9 ((Chg.refl (H := H) []).trans (Chg.app [])) (by simp)) (Rd.chg r0_11 ((Chg.refl (H := H) []).trans (Chg.app [])) (by simp)) (by have := w0.1.1.2.1; simpa [maxLen] using this) (by have := w0.1.2.1.1.1; simpa [maxLen] using this) (by have := w0.1.2.1.2.1; simpa [maxLen] using this) (by have := w0.1.2.2.1.1; simpa [maxLen] using this) (fun x hx => by have := (w0.1.2.2.1.2 x hx).1; simpa [maxLen] using this) (by have := w0.1.2.2.2.1.1; simpa [maxLen] using this) (by have := w0.1.2.2.2.2.1.1; simpa [maxLen] using this) (by have := w0.1.2.2.2.2.2.1.1; simpa [maxLen] using this) (fun x hx => by have := (w0.1.2.2.2.2.2.1.2 x hx).1; simpa [maxLen] using this) (by have := w0.1.2.2.2.2.2.2.1.1; simpa [maxLen] using this) (fun x hx => by have := (w0.1.2.2.2.2.2.2.1.2 x hx).1; simpa [maxLen] using this) (by have := w0.2.1; simpa [maxLen] using this) (by omega) (by omega)
  simp [VM.look, ro0_2, rl0_2, rm0_2, ro0_3, rl0_3, rm0_3, ro0_4, rl0_4, rm0_4, ro0_5, ro0_6, rl0_6, rm0_6, ro0_7, rl0_7, rm0_7, ro0_8, ro0_9, ro0_11, rl0_11, rm0_11, ro1_2, rl1_2, rm1_2, ro1_3, rl1_3, rm1_3, ro1_4, rl1_4, rm1_4, ro1_5, ro1_6, rl1_6, rm1_6, ro1_7, rl1_7, rm1_7, ro1_8, ro1_9, ro1_11, rl1_11, rm1_11, sz0]
  refine wp_dec ?_ ?_ <;> intro g1 <;> simp [g1]
  have t0 : (a0_2.length : Int) + ((a0_3.length : Int) + (a0_4.length : Int)) + (tot a0_5 : Int) + (a0_6.length : Int) + (a0_7.length : Int) + (tot a0_8 : Int) + (tot a0_9 : Int) + (a0_11.length : Int) ≤ 1048576 := by split at g1 <;> omega
  have f0 : ¬ (1048576 : Int) < (a0_2.length : Int) + ((a0_3.length : Int) + (a0_4.length : Int)) + (tot a0_5 : Int) + (a0_6.length : Int) + (a0_7.length : Int) + (tot a0_8 : Int) + (tot a0_9 : Int) + (a0_11.length : Int) := by omega
  simp only [if_neg f0]
  try simp [VM.look, ro0_2, rl0_2, rm0_2, ro0_3, rl0_3, rm0_3, ro0_4, rl0_4, rm0_4, ro0_5, ro0_6, rl0_6, rm0_6, ro0_7, rl0_7, rm0_7, ro0_8, ro0_9, ro0_11, rl0_11, rm0_11, ro1_2, rl1_2, rm1_2, ro1_3, rl1_3, rm1_3, ro1_4, rl1_4, rm1_4, ro1_5, ro1_6, rl1_6, rm1_6, ro1_7, rl1_7, rm1_7, ro1_8, ro1_9, ro1_11, rl1_11, rm1_11, f0]
  have sz1 := fun F (L : Heap) => szChip_c (frz := F) (H := H ++ L) a1_0 a1_1 a1_10 (1048576 - ((a0_2.length : Int) + ((a0_3.length : Int) + (a0_4.length : Int)) + (tot a0_5 : Int) + (a0_6.length : Int) + (a0_7.length : Int) + (tot a0_8 : Int) + (tot a0_9 : Int) + (a0_11.length : Int))) u1_2 u1_3 u1_4 u1_5 u1_6 u1_7 u1_8 u1_9 u1_11 h1_5 h1_8 h1_9 a1_2 a1_3 a1_4 a1_6 a1_7 a1_5 a1_8 a1_9 a1_11 (IsI.rd (Rd.isI (Rd.chg r1_2 ((Chg.refl (H := H) []).trans (Chg.app [])) (by simp)))) (IsI.rd (Rd.isI (Rd.chg r1_3 ((Chg.refl (H := H) []).trans (Chg.app [])) (by simp)))) (IsI.rd (Rd.isI (Rd.chg r1_4 ((Chg.refl (H := H) []).trans (Chg.app [])) (by simp)))) (RdL.chg r1_5 ((Chg.refl (H := H) []).trans (Chg.app [])) (by simp)) (IsI.rd (Rd.isI (Rd.chg r1_6 ((Chg.refl (H := H) []).trans (Chg.app [])) (by simp)))) (IsI.rd (Rd.isI (Rd.chg r1_7 ((Chg.refl (H := H) []).trans (Chg.app [])) (by simp)))) (RdL.chg r1_8 ((Chg.refl (H := H) []).trans (Chg.app [])) (by simp)) (RdL.chg r1_9 ((Chg.refl (H := H) []).trans (Chg.app [])) (by simp)) (Rd.chg r1_11 ((Chg.refl (H := H) []).trans (Chg.app [])) (by simp)) (by have := w1.1.1.2.1; simpa [maxLen] using this) (by have := w1.1.2.1.1.1; simpa [maxLen] using this) (by have := w1.1.2.1.2.1; simpa [maxLen] using this) (by have := w1.1.2.2.1.1; simpa [maxLen] using this) (fun x hx => by have := (w1.1.2.2.1.2 x hx).1; simpa [maxLen] using this) (by have := w1.1.2.2.2.1.1; simpa [maxLen] using this) (by have := w1.1.2.2.2.2.1.1; simpa [maxLen] using this) (by have := w1.1.2.2.2.2.2.1.1; simpa [maxLen] using this) (fun x hx => by have := (w1.1.2.2.2.2.2.1.2 x hx).1; simpa [maxLen] using this) (by have := w1.1.2.2.2.2.2.2.1.1; simpa [maxLen] using this) (fun x hx => by have := (w1.1.2.2.2.2.2.2.1.2 x hx).1; simpa [maxLen] using this) (by have := w1.2.1; simpa [maxLen] using this) (by omega) (by omega)
  simp [VM.look, ro0_2, rl0_2, rm0_2, ro0_3, rl0_3, rm0_3, ro0_4, rl0_4, rm0_4, ro0_5, ro0_6, rl0_6, rm0_6, ro0_7, rl0_7, rm0_7, ro0_8, ro0_9, ro0_11, rl0_11, rm0_11, ro1_2, rl1_2, rm1_2, ro1_3, rl1_3, rm1_3, ro1_4, rl1_4, rm1_4, ro1_5, ro1_6, rl1_6, rm1_6, ro1_7, rl1_7, rm1_7, ro1_8, ro1_9, ro1_11, rl1_11, rm1_11, sz1, f0]
  refine wp_dec ?_ ?_ <;> intro g2 <;> simp [g2]
  have t1 : (a1_2.length : Int) + ((a1_3.length : Int) + (a1_4.length : Int)) + (tot a1_5 : Int) + (a1_6.length : Int) + (a1_7.length : Int) + (tot a1_8 : Int) + (tot a1_9 : Int) + (a1_11.length : Int) ≤ (1048576 - ((a0_2.length : Int) + ((a0_3.length : Int) + (a0_4.length : Int)) + (tot a0_5 : Int) + (a0_6.length : Int) + (a0_7.length : Int) + (tot a0_8 : Int) + (tot a0_9 : Int) + (a0_11.length : Int))) := by split at g2 <;> omega
  have f1 : ¬ ((1048576 - ((a0_2.length : Int) + ((a0_3.length : Int) + (a0_4.length : Int)) + (tot a0_5 : Int) + (a0_6.length : Int) + (a0_7.length : Int) + (tot a0_8 : Int) + (tot a0_9 : Int) + (a0_11.length : Int))) : Int) < (a1_2.length : Int) + ((a1_3.length : Int) + (a1_4.length : Int)) + (tot a1_5 : Int) + (a1_6.length : Int) + (a1_7.length : Int) + (tot a1_8 : Int) + (tot a1_9 : Int) + (a1_11.length : Int) := by omega
  simp only [if_neg f1]
  try simp [VM.look, ro0_2, rl0_2, rm0_2, ro0_3, rl0_3, rm0_3, ro0_4, rl0_4, rm0_4, ro0_5, ro0_6, rl0_6, rm0_6, ro0_7, rl0_7, rm0_7, ro0_8, ro0_9, ro0_11, rl0_11, rm0_11, ro1_2, rl1_2, rm1_2, ro1_3, rl1_3, rm1_3, ro1_4, rl1_4, rm1_4, ro1_5, ro1_6, rl1_6, rm1_6, ro1_7, rl1_7, rm1_7, ro1_8, ro1_9, ro1_11, rl1_11, rm1_11, f0, f1]
  rw [go_draw (h := by kernel_rfl)]
  simp [VM.look, ro0_2, rl0_2, rm0_2, ro0_3, rl0_3, rm0_3, ro0_4, rl0_4, rm0_4, ro0_5, ro0_6, rl0_6, rm0_6, ro0_7, rl0_7, rm0_7, ro0_8, ro0_9, ro0_11, rl0_11, rm0_11, ro1_2, rl1_2, rm1_2, ro1_3, rl1_3, rm1_3, ro1_4, rl1_4, rm1_4, ro1_5, ro1_6, rl1_6, rm1_6, ro1_7, rl1_7, rm1_7, ro1_8, ro1_9, ro1_11, rl1_11, rm1_11, f0, f1]
  refine wp_thn (toChip_w a0_0 a0_1 a0_10 u0_2 u0_3 u0_4 u0_5 u0_6 u0_7 u0_8 u0_9 u0_11 h0_5 h0_8 h0_9 a0_2 a0_3 a0_4 a0_6 a0_7 a0_5 a0_8 a0_9 a0_11 (IsI.rd (Rd.isI (Rd.chg r0_2 ((Chg.refl (H := H) []).trans (Chg.app [])) (by simp)))) (IsI.rd (Rd.isI (Rd.chg r0_3 ((Chg.refl (H := H) []).trans (Chg.app [])) (by simp)))) (IsI.rd (Rd.isI (Rd.chg r0_4 ((Chg.refl (H := H) []).trans (Chg.app [])) (by simp)))) (RdL.chg r0_5 ((Chg.refl (H := H) []).trans (Chg.app [])) (by simp)) (IsI.rd (Rd.isI (Rd.chg r0_6 ((Chg.refl (H := H) []).trans (Chg.app [])) (by simp)))) (IsI.rd (Rd.isI (Rd.chg r0_7 ((Chg.refl (H := H) []).trans (Chg.app [])) (by simp)))) (RdL.chg r0_8 ((Chg.refl (H := H) []).trans (Chg.app [])) (by simp)) (RdL.chg r0_9 ((Chg.refl (H := H) []).trans (Chg.app [])) (by simp)) (Rd.chg r0_11 ((Chg.refl (H := H) []).trans (Chg.app [])) (by simp)) (by omega) (by omega) (by omega) (by have := tot_len a0_5; omega) (fun x hx => by have := tot_in a0_5 x hx; omega) (by omega) (by omega) (by have := tot_len a0_8; omega) (fun x hx => by have := tot_in a0_8 x hx; omega) (by have := tot_len a0_9; omega) (fun x hx => by have := tot_in a0_9 x hx; omega) (by omega)) ?_
  rintro _ H1 ⟨v_x0, rfl, o_x0, c1, n_x0, d_x0⟩
  have l1 := c1.1
  try simp at l1
  have b1_2 := box_chg ((app_get0 _ _).trans rfl) c1 (by simp)
  have b1_3 := box_chg ((app_get _ _ 1).trans rfl) c1 (by simp)
  have cH1 : Chg H H1 [] := ((Chg.refl (H := H) []).trans (Chg.app [])).trans c1
  have h_x0 := dChip.lt o_x0
  try simp at n_x0
  have one_x0 := dChip_one o_x0
  simp [VM.look, b1_2, b1_3, get_app' b1_2, get_app' b1_3, cH1.1, Nat.le_add_right_of_le cH1.1, one_x0, ro0_2, ro0_3, ro0_4, ro0_5, ro0_6, ro0_7, ro0_8, ro0_9, ro0_11, ro1_2, ro1_3, ro1_4, ro1_5, ro1_6, ro1_7, ro1_8, ro1_9, ro1_11, dChip_val, f0, f1]
  refine wp_thn (toChip_w a1_0 a1_1 a1_10 u1_2 u1_3 u1_4 u1_5 u1_6 u1_7 u1_8 u1_9 u1_11 h1_5 h1_8 h1_9 a1_2 a1_3 a1_4 a1_6 a1_7 a1_5 a1_8 a1_9 a1_11 (IsI.rd (Rd.isI (Rd.chg r1_2 cH1 (by simp)))) (IsI.rd (Rd.isI (Rd.chg r1_3 cH1 (by simp)))) (IsI.rd (Rd.isI (Rd.chg r1_4 cH1 (by simp)))) (RdL.chg r1_5 cH1 (by simp)) (IsI.rd (Rd.isI (Rd.chg r1_6 cH1 (by simp)))) (IsI.rd (Rd.isI (Rd.chg r1_7 cH1 (by simp)))) (RdL.chg r1_8 cH1 (by simp)) (RdL.chg r1_9 cH1 (by simp)) (Rd.chg r1_11 cH1 (by simp)) (by omega) (by omega) (by omega) (by have := tot_len a1_5; omega) (fun x hx => by have := tot_in a1_5 x hx; omega) (by omega) (by omega) (by have := tot_len a1_8; omega) (fun x hx => by have := tot_in a1_8 x hx; omega) (by have := tot_len a1_9; omega) (fun x hx => by have := tot_in a1_9 x hx; omega) (by omega)) ?_
  rintro _ H2 ⟨v_x1, rfl, o_x1, c2, n_x1, d_x1⟩
  have l2 := c2.1
  try simp at l2
  have b2_2 := box_chg b1_2 c2 (by simp)
  have b2_3 := box_chg b1_3 c2 (by simp)
  have o2_x0 := Dt.chg0 o_x0 c2
  have cH2 : Chg H H2 [] := (cH1).trans c2
  have h_x1 := dChip.lt o_x1
  try simp at n_x1
  have one_x1 := dChip_one o_x1
  simp [VM.look, b2_2, b2_3, get_app' b2_2, get_app' b2_3, cH2.1, Nat.le_add_right_of_le cH2.1, one_x0, one_x1, ro0_2, ro0_3, ro0_4, ro0_5, ro0_6, ro0_7, ro0_8, ro0_9, ro0_11, ro1_2, ro1_3, ro1_4, ro1_5, ro1_6, ro1_7, ro1_8, ro1_9, ro1_11, dChip_val, f0, f1]
  have ex3 := fun F => sSameChip_d (frz := F) o2_x0 o_x1
  try simp only [dChip_val] at ex3
  try simp only [dChip_val] at ex3
  simp [VM.look, b2_2, b2_3, get_app' b2_2, get_app' b2_3, cH2.1, Nat.le_add_right_of_le cH2.1, one_x0, one_x1, ro0_2, ro0_3, ro0_4, ro0_5, ro0_6, ro0_7, ro0_8, ro0_9, ro0_11, ro1_2, ro1_3, ro1_4, ro1_5, ro1_6, ro1_7, ro1_8, ro1_9, ro1_11, dChip_val, ex3, f0, f1]
  refine wp_thn (toChip_w a0_0 a0_1 a0_10 u0_2 u0_3 u0_4 u0_5 u0_6 u0_7 u0_8 u0_9 u0_11 h0_5 h0_8 h0_9 a0_2 a0_3 a0_4 a0_6 a0_7 a0_5 a0_8 a0_9 a0_11 (IsI.rd (Rd.isI (Rd.chg r0_2 cH2 (by simp)))) (IsI.rd (Rd.isI (Rd.chg r0_3 cH2 (by simp)))) (IsI.rd (Rd.isI (Rd.chg r0_4 cH2 (by simp)))) (RdL.chg r0_5 cH2 (by simp)) (IsI.rd (Rd.isI (Rd.chg r0_6 cH2 (by simp)))) (IsI.rd (Rd.isI (Rd.chg r0_7 cH2 (by simp)))) (RdL.chg r0_8 cH2 (by simp)) (RdL.chg r0_9 cH2 (by simp)) (Rd.chg r0_11 cH2 (by simp)) (by omega) (by omega) (by omega) (by have := tot_len a0_5; omega) (fun x hx => by have := tot_in a0_5 x hx; omega) (by omega) (by omega) (by have := tot_len a0_8; omega) (fun x hx => by have := tot_in a0_8 x hx; omega) (by have := tot_len a0_9; omega) (fun x hx => by have := tot_in a0_9 x hx; omega) (by omega)) ?_
  rintro _ H4 ⟨v_x2, rfl, o_x2, c4, n_x2, d_x2⟩
  have l4 := c4.1
  try simp at l4
  have b4_2 := box_chg b2_2 c4 (by simp)
  have b4_3 := box_chg b2_3 c4 (by simp)
  have o4_x0 := Dt.chg0 o2_x0 c4
  have o4_x1 := Dt.chg0 o_x1 c4
  have cH4 : Chg H H4 [] := (cH2).trans c4
  have h_x2 := dChip.lt o_x2
  try simp at n_x2
  have one_x2 := dChip_one o_x2
  simp [VM.look, b4_2, b4_3, get_app' b4_2, get_app' b4_3, cH4.1, Nat.le_add_right_of_le cH4.1, one_x0, one_x1, one_x2, ro0_2, ro0_3, ro0_4, ro0_5, ro0_6, ro0_7, ro0_8, ro0_9, ro0_11, ro1_2, ro1_3, ro1_4, ro1_5, ro1_6, ro1_7, ro1_8, ro1_9, ro1_11, dChip_val, f0, f1]
  refine wp_thn (toChip_w a1_0 a1_1 a1_10 u1_2 u1_3 u1_4 u1_5 u1_6 u1_7 u1_8 u1_9 u1_11 h1_5 h1_8 h1_9 a1_2 a1_3 a1_4 a1_6 a1_7 a1_5 a1_8 a1_9 a1_11 (IsI.rd (Rd.isI (Rd.chg r1_2 (cH4.trans (Chg.app [])) (by simp)))) (IsI.rd (Rd.isI (Rd.chg r1_3 (cH4.trans (Chg.app [])) (by simp)))) (IsI.rd (Rd.isI (Rd.chg r1_4 (cH4.trans (Chg.app [])) (by simp)))) (RdL.chg r1_5 (cH4.trans (Chg.app [])) (by simp)) (IsI.rd (Rd.isI (Rd.chg r1_6 (cH4.trans (Chg.app [])) (by simp)))) (IsI.rd (Rd.isI (Rd.chg r1_7 (cH4.trans (Chg.app [])) (by simp)))) (RdL.chg r1_8 (cH4.trans (Chg.app [])) (by simp)) (RdL.chg r1_9 (cH4.trans (Chg.app [])) (by simp)) (Rd.chg r1_11 (cH4.trans (Chg.app [])) (by simp)) (by omega) (by omega) (by omega) (by have := tot_len a1_5; omega) (fun x hx => by have := tot_in a1_5 x hx; omega) (by omega) (by omega) (by have := tot_len a1_8; omega) (fun x hx => by have := tot_in a1_8 x hx; omega) (by have := tot_len a1_9; omega) (fun x hx => by have := tot_in a1_9 x hx; omega) (by omega)) ?_
  rintro _ H5 ⟨v_x3, rfl, o_x3, c5, n_x3, d_x3⟩
  have l5 := c5.1
  try simp at l5
  have b5_7 := box_chg ((app_get0 _ _).trans rfl) c5 (by simp)
  have b5_2 := box_chg (get_app' b4_2 _) c5 (by simp)
  have b5_3 := box_chg (get_app' b4_3 _) c5 (by simp)
  have o5_x0 := Dt.chg0 (Dt.app o4_x0) c5
  have o5_x1 := Dt.chg0 (Dt.app o4_x1) c5
  have o5_x2 := Dt.chg0 (Dt.app o_x2) c5
  have cH5 : Chg H H5 [] := (cH4.trans (Chg.app [])).trans c5
  have h_x3 := dChip.lt o_x3
  try simp at n_x3
  have one_x3 := dChip_one o_x3
  simp [VM.look, b5_2, b5_3, b5_7, get_app' b5_2, get_app' b5_3, get_app' b5_7, cH5.1, Nat.le_add_right_of_le cH5.1, one_x0, one_x1, one_x2, one_x3, ro0_2, ro0_3, ro0_4, ro0_5, ro0_6, ro0_7, ro0_8, ro0_9, ro0_11, ro1_2, ro1_3, ro1_4, ro1_5, ro1_6, ro1_7, ro1_8, ro1_9, ro1_11, dChip_val, f0, f1]
  have ex6 := fun F (L : Heap) => sameChip_d (frz := F) (H := H5 ++ L) (Dt.app o5_x2) (Dt.app o_x3)
  try simp only [dChip_val] at ex6
  try simp only [dChip_val] at ex6
  simp [VM.look, b5_2, b5_3, b5_7, get_app' b5_2, get_app' b5_3, get_app' b5_7, cH5.1, Nat.le_add_right_of_le cH5.1, one_x0, one_x1, one_x2, one_x3, ro0_2, ro0_3, ro0_4, ro0_5, ro0_6, ro0_7, ro0_8, ro0_9, ro0_11, ro1_2, ro1_3, ro1_4, ro1_5, ro1_6, ro1_7, ro1_8, ro1_9, ro1_11, dChip_val, ex6, f0, f1]
  rw [go_draw (h := by kernel_rfl)]
  simp [VM.look, b5_2, b5_3, b5_7, get_app' b5_2, get_app' b5_3, get_app' b5_7, cH5.1, Nat.le_add_right_of_le cH5.1, one_x0, one_x1, one_x2, one_x3, ro0_2, ro0_3, ro0_4, ro0_5, ro0_6, ro0_7, ro0_8, ro0_9, ro0_11, ro1_2, ro1_3, ro1_4, ro1_5, ro1_6, ro1_7, ro1_8, ro1_9, ro1_11, dChip_val, f0, f1]
  refine wp_thn (toChip_w a0_0 a0_1 a0_10 u0_2 u0_3 u0_4 u0_5 u0_6 u0_7 u0_8 u0_9 u0_11 h0_5 h0_8 h0_9 a0_2 a0_3 a0_4 a0_6 a0_7 a0_5 a0_8 a0_9 a0_11 (IsI.rd (Rd.isI (Rd.chg r0_2 (cH5.trans (Chg.app [])) (by simp)))) (IsI.rd (Rd.isI (Rd.chg r0_3 (cH5.trans (Chg.app [])) (by simp)))) (IsI.rd (Rd.isI (Rd.chg r0_4 (cH5.trans (Chg.app [])) (by simp)))) (RdL.chg r0_5 (cH5.trans (Chg.app [])) (by simp)) (IsI.rd (Rd.isI (Rd.chg r0_6 (cH5.trans (Chg.app [])) (by simp)))) (IsI.rd (Rd.isI (Rd.chg r0_7 (cH5.trans (Chg.app [])) (by simp)))) (RdL.chg r0_8 (cH5.trans (Chg.app [])) (by simp)) (RdL.chg r0_9 (cH5.trans (Chg.app [])) (by simp)) (Rd.chg r0_11 (cH5.trans (Chg.app [])) (by simp)) (by omega) (by omega) (by omega) (by have := tot_len a0_5; omega) (fun x hx => by have := tot_in a0_5 x hx; omega) (by omega) (by omega) (by have := tot_len a0_8; omega) (fun x hx => by have := tot_in a0_8 x hx; omega) (by have := tot_len a0_9; omega) (fun x hx => by have := tot_in a0_9 x hx; omega) (by omega)) ?_
  rintro _ H7 ⟨v_x4, rfl, o_x4, c7, n_x4, d_x4⟩
  have l7 := c7.1
  try simp at l7
  have b7_8 := box_chg ((app_get0 _ _).trans rfl) c7 (by simp)
  have b7_2 := box_chg (get_app' b5_2 _) c7 (by simp)
  have b7_3 := box_chg (get_app' b5_3 _) c7 (by simp)
  have b7_7 := box_chg (get_app' b5_7 _) c7 (by simp)
  have o7_x0 := Dt.chg0 (Dt.app o5_x0) c7
  have o7_x1 := Dt.chg0 (Dt.app o5_x1) c7
  have o7_x2 := Dt.chg0 (Dt.app o5_x2) c7
  have o7_x3 := Dt.chg0 (Dt.app o_x3) c7
  have cH7 : Chg H H7 [] := (cH5.trans (Chg.app [])).trans c7
  have h_x4 := dChip.lt o_x4
  try simp at n_x4
  have one_x4 := dChip_one o_x4
  simp [VM.look, b7_2, b7_3, b7_7, b7_8, get_app' b7_2, get_app' b7_3, get_app' b7_7, get_app' b7_8, cH7.1, Nat.le_add_right_of_le cH7.1, one_x0, one_x1, one_x2, one_x3, one_x4, ro0_2, ro0_3, ro0_4, ro0_5, ro0_6, ro0_7, ro0_8, ro0_9, ro0_11, ro1_2, ro1_3, ro1_4, ro1_5, ro1_6, ro1_7, ro1_8, ro1_9, ro1_11, dChip_val, f0, f1]
  have eq8 := fun F => eqChip_d (frz := F) o7_x2 o_x4
  try simp only [dChip_val] at eq8
  simp [eq8, VM.look, b7_2, b7_3, b7_7, b7_8, get_app' b7_2, get_app' b7_3, get_app' b7_7, get_app' b7_8, cH7.1, Nat.le_add_right_of_le cH7.1, one_x0, one_x1, one_x2, one_x3, one_x4, ro0_2, ro0_3, ro0_4, ro0_5, ro0_6, ro0_7, ro0_8, ro0_9, ro0_11, ro1_2, ro1_3, ro1_4, ro1_5, ro1_6, ro1_7, ro1_8, ro1_9, ro1_11, dChip_val, f0, f1]
  rw [go_draw (h := by kernel_rfl)]
  simp [VM.look, b7_2, b7_3, b7_7, b7_8, get_app' b7_2, get_app' b7_3, get_app' b7_7, get_app' b7_8, cH7.1, Nat.le_add_right_of_le cH7.1, one_x0, one_x1, one_x2, one_x3, one_x4, ro0_2, ro0_3, ro0_4, ro0_5, ro0_6, ro0_7, ro0_8, ro0_9, ro0_11, ro1_2, ro1_3, ro1_4, ro1_5, ro1_6, ro1_7, ro1_8, ro1_9, ro1_11, dChip_val, f0, f1]
  refine wp_thn (toChip_w a1_0 a1_1 a1_10 u1_2 u1_3 u1_4 u1_5 u1_6 u1_7 u1_8 u1_9 u1_11 h1_5 h1_8 h1_9 a1_2 a1_3 a1_4 a1_6 a1_7 a1_5 a1_8 a1_9 a1_11 (IsI.rd (Rd.isI (Rd.chg r1_2 cH7 (by simp)))) (IsI.rd (Rd.isI (Rd.chg r1_3 cH7 (by simp)))) (IsI.rd (Rd.isI (Rd.chg r1_4 cH7 (by simp)))) (RdL.chg r1_5 cH7 (by simp)) (IsI.rd (Rd.isI (Rd.chg r1_6 cH7 (by simp)))) (IsI.rd (Rd.isI (Rd.chg r1_7 cH7 (by simp)))) (RdL.chg r1_8 cH7 (by simp)) (RdL.chg r1_9 cH7 (by simp)) (Rd.chg r1_11 cH7 (by simp)) (by omega) (by omega) (by omega) (by have := tot_len a1_5; omega) (fun x hx => by have := tot_in a1_5 x hx; omega) (by omega) (by omega) (by have := tot_len a1_8; omega) (fun x hx => by have := tot_in a1_8 x hx; omega) (by have := tot_len a1_9; omega) (fun x hx => by have := tot_in a1_9 x hx; omega) (by omega)) ?_
  rintro _ H9 ⟨v_x5, rfl, o_x5, c9, n_x5, d_x5⟩
  have l9 := c9.1
  try simp at l9
  have b9_2 := box_chg b7_2 c9 (by simp)
  have b9_3 := box_chg b7_3 c9 (by simp)
  have b9_7 := box_chg b7_7 c9 (by simp)
  have b9_8 := box_chg b7_8 c9 (by simp)
  have o9_x0 := Dt.chg0 o7_x0 c9
  have o9_x1 := Dt.chg0 o7_x1 c9
  have o9_x2 := Dt.chg0 o7_x2 c9
  have o9_x3 := Dt.chg0 o7_x3 c9
  have o9_x4 := Dt.chg0 o_x4 c9
  have cH9 : Chg H H9 [] := (cH7).trans c9
  have h_x5 := dChip.lt o_x5
  try simp at n_x5
  have one_x5 := dChip_one o_x5
  simp [VM.look, b9_2, b9_3, b9_7, b9_8, get_app' b9_2, get_app' b9_3, get_app' b9_7, get_app' b9_8, cH9.1, Nat.le_add_right_of_le cH9.1, one_x0, one_x1, one_x2, one_x3, one_x4, one_x5, ro0_2, ro0_3, ro0_4, ro0_5, ro0_6, ro0_7, ro0_8, ro0_9, ro0_11, ro1_2, ro1_3, ro1_4, ro1_5, ro1_6, ro1_7, ro1_8, ro1_9, ro1_11, dChip_val, f0, f1]
  have eq10 := fun F => eqChip_d (frz := F) o9_x3 o_x5
  try simp only [dChip_val] at eq10
  simp [eq10, VM.look, b9_2, b9_3, b9_7, b9_8, get_app' b9_2, get_app' b9_3, get_app' b9_7, get_app' b9_8, cH9.1, Nat.le_add_right_of_le cH9.1, one_x0, one_x1, one_x2, one_x3, one_x4, one_x5, ro0_2, ro0_3, ro0_4, ro0_5, ro0_6, ro0_7, ro0_8, ro0_9, ro0_11, ro1_2, ro1_3, ro1_4, ro1_5, ro1_6, ro1_7, ro1_8, ro1_9, ro1_11, dChip_val, f0, f1]
theorem law_FnExactSameChip {a0_0 : Int} {a0_1 : Int} {a0_2 : List (Int)} {u0_2 : Value} {a0_3 : List (Int)} {u0_3 : Value} {a0_4 : List (Int)} {u0_4 : Value} {a0_5 : List (List (Int × Int × Int × Bool × Bool))} {u0_5 : Value} {a0_6 : List (Int)} {u0_6 : Value} {a0_7 : List (Int)} {u0_7 : Value} {a0_8 : List (List (Int × Int × Int × Bool × Bool))} {u0_8 : Value} {a0_9 : List (List (Int × Int × Int × Bool × Bool))} {u0_9 : Value} {a0_10 : Int} {a0_11 : List (Int × Int × Int × Int × Int)} {u0_11 : Value} {a1_0 : Int} {a1_1 : Int} {a1_2 : List (Int)} {u1_2 : Value} {a1_3 : List (Int)} {u1_3 : Value} {a1_4 : List (Int)} {u1_4 : Value} {a1_5 : List (List (Int × Int × Int × Bool × Bool))} {u1_5 : Value} {a1_6 : List (Int)} {u1_6 : Value} {a1_7 : List (Int)} {u1_7 : Value} {a1_8 : List (List (Int × Int × Int × Bool × Bool))} {u1_8 : Value} {a1_9 : List (List (Int × Int × Int × Bool × Bool))} {u1_9 : Value} {a1_10 : Int} {a1_11 : List (Int × Int × Int × Int × Int)} {u1_11 : Value} (s0_2 : IsS (Kn.int .i64) H u0_2 a0_2) (s0_3 : IsS (Kn.int .i64) H u0_3 a0_3) (s0_4 : IsS (Kn.int .i64) H u0_4 a0_4) (s0_5 : IsS (Kn.slice (Kn.pair (Kn.int .i64) (Kn.pair (Kn.int .i64) (Kn.pair (Kn.int .i64) (Kn.pair Kn.bool Kn.bool))))) H u0_5 a0_5) (s0_6 : IsS (Kn.int .i64) H u0_6 a0_6) (s0_7 : IsS (Kn.int .i64) H u0_7 a0_7) (s0_8 : IsS (Kn.slice (Kn.pair (Kn.int .i64) (Kn.pair (Kn.int .i64) (Kn.pair (Kn.int .i64) (Kn.pair Kn.bool Kn.bool))))) H u0_8 a0_8) (s0_9 : IsS (Kn.slice (Kn.pair (Kn.int .i64) (Kn.pair (Kn.int .i64) (Kn.pair (Kn.int .i64) (Kn.pair Kn.bool Kn.bool))))) H u0_9 a0_9) (s0_11 : IsS (Kn.pair (Kn.int .i64) (Kn.pair (Kn.int .i64) (Kn.pair (Kn.int .i64) (Kn.pair (Kn.int .i64) (Kn.int .i64))))) H u0_11 a0_11) (s1_2 : IsS (Kn.int .i64) H u1_2 a1_2) (s1_3 : IsS (Kn.int .i64) H u1_3 a1_3) (s1_4 : IsS (Kn.int .i64) H u1_4 a1_4) (s1_5 : IsS (Kn.slice (Kn.pair (Kn.int .i64) (Kn.pair (Kn.int .i64) (Kn.pair (Kn.int .i64) (Kn.pair Kn.bool Kn.bool))))) H u1_5 a1_5) (s1_6 : IsS (Kn.int .i64) H u1_6 a1_6) (s1_7 : IsS (Kn.int .i64) H u1_7 a1_7) (s1_8 : IsS (Kn.slice (Kn.pair (Kn.int .i64) (Kn.pair (Kn.int .i64) (Kn.pair (Kn.int .i64) (Kn.pair Kn.bool Kn.bool))))) H u1_8 a1_8) (s1_9 : IsS (Kn.slice (Kn.pair (Kn.int .i64) (Kn.pair (Kn.int .i64) (Kn.pair (Kn.int .i64) (Kn.pair Kn.bool Kn.bool))))) H u1_9 a1_9) (s1_11 : IsS (Kn.pair (Kn.int .i64) (Kn.pair (Kn.int .i64) (Kn.pair (Kn.int .i64) (Kn.pair (Kn.int .i64) (Kn.int .i64))))) H u1_11 a1_11)
    (w0 : (((((Lit.int .i64 a0_0).wf = true) ∧ ((Lit.int .i64 a0_1).wf = true)) ∧ (a0_2.length ≤ maxLen ∧ ∀ x1 ∈ a0_2, (Lit.int .i64 x1).wf = true)) ∧ (((a0_3.length ≤ maxLen ∧ ∀ x2 ∈ a0_3, (Lit.int .i64 x2).wf = true)) ∧ ((a0_4.length ≤ maxLen ∧ ∀ x3 ∈ a0_4, (Lit.int .i64 x3).wf = true))) ∧ (a0_5.length ≤ maxLen ∧ ∀ x4 ∈ a0_5, x4.length ≤ maxLen ∧ ∀ x5 ∈ x4, ((Lit.int .i64 x5.1).wf = true) ∧ ((Lit.int .i64 x5.2.1).wf = true) ∧ ((Lit.int .i64 x5.2.2.1).wf = true) ∧ (True) ∧ (True)) ∧ (a0_6.length ≤ maxLen ∧ ∀ x6 ∈ a0_6, (Lit.int .i64 x6).wf = true) ∧ (a0_7.length ≤ maxLen ∧ ∀ x7 ∈ a0_7, (Lit.int .i64 x7).wf = true) ∧ (a0_8.length ≤ maxLen ∧ ∀ x8 ∈ a0_8, x8.length ≤ maxLen ∧ ∀ x9 ∈ x8, ((Lit.int .i64 x9.1).wf = true) ∧ ((Lit.int .i64 x9.2.1).wf = true) ∧ ((Lit.int .i64 x9.2.2.1).wf = true) ∧ (True) ∧ (True)) ∧ (a0_9.length ≤ maxLen ∧ ∀ x10 ∈ a0_9, x10.length ≤ maxLen ∧ ∀ x11 ∈ x10, ((Lit.int .i64 x11.1).wf = true) ∧ ((Lit.int .i64 x11.2.1).wf = true) ∧ ((Lit.int .i64 x11.2.2.1).wf = true) ∧ (True) ∧ (True)) ∧ ((Lit.int .i64 a0_10).wf = true)) ∧ (a0_11.length ≤ maxLen ∧ ∀ x12 ∈ a0_11, ((Lit.int .i64 x12.1).wf = true) ∧ ((Lit.int .i64 x12.2.1).wf = true) ∧ ((Lit.int .i64 x12.2.2.1).wf = true) ∧ ((Lit.int .i64 x12.2.2.2.1).wf = true) ∧ ((Lit.int .i64 x12.2.2.2.2).wf = true))) (w1 : (((((Lit.int .i64 a1_0).wf = true) ∧ ((Lit.int .i64 a1_1).wf = true)) ∧ (a1_2.length ≤ maxLen ∧ ∀ x13 ∈ a1_2, (Lit.int .i64 x13).wf = true)) ∧ (((a1_3.length ≤ maxLen ∧ ∀ x14 ∈ a1_3, (Lit.int .i64 x14).wf = true)) ∧ ((a1_4.length ≤ maxLen ∧ ∀ x15 ∈ a1_4, (Lit.int .i64 x15).wf = true))) ∧ (a1_5.length ≤ maxLen ∧ ∀ x16 ∈ a1_5, x16.length ≤ maxLen ∧ ∀ x17 ∈ x16, ((Lit.int .i64 x17.1).wf = true) ∧ ((Lit.int .i64 x17.2.1).wf = true) ∧ ((Lit.int .i64 x17.2.2.1).wf = true) ∧ (True) ∧ (True)) ∧ (a1_6.length ≤ maxLen ∧ ∀ x18 ∈ a1_6, (Lit.int .i64 x18).wf = true) ∧ (a1_7.length ≤ maxLen ∧ ∀ x19 ∈ a1_7, (Lit.int .i64 x19).wf = true) ∧ (a1_8.length ≤ maxLen ∧ ∀ x20 ∈ a1_8, x20.length ≤ maxLen ∧ ∀ x21 ∈ x20, ((Lit.int .i64 x21.1).wf = true) ∧ ((Lit.int .i64 x21.2.1).wf = true) ∧ ((Lit.int .i64 x21.2.2.1).wf = true) ∧ (True) ∧ (True)) ∧ (a1_9.length ≤ maxLen ∧ ∀ x22 ∈ a1_9, x22.length ≤ maxLen ∧ ∀ x23 ∈ x22, ((Lit.int .i64 x23.1).wf = true) ∧ ((Lit.int .i64 x23.2.1).wf = true) ∧ ((Lit.int .i64 x23.2.2.1).wf = true) ∧ (True) ∧ (True)) ∧ ((Lit.int .i64 a1_10).wf = true)) ∧ (a1_11.length ≤ maxLen ∧ ∀ x24 ∈ a1_11, ((Lit.int .i64 x24.1).wf = true) ∧ ((Lit.int .i64 x24.2.1).wf = true) ∧ ((Lit.int .i64 x24.2.2.1).wf = true) ∧ ((Lit.int .i64 x24.2.2.2.1).wf = true) ∧ ((Lit.int .i64 x24.2.2.2.2).wf = true))) :
    vcall C frz 4 [.agg #[.int .i64 a0_0, .int .i64 a0_1, u0_2, u0_3, u0_4, u0_5, u0_6, u0_7, u0_8, u0_9, .int .i64 a0_10, u0_11], .agg #[.int .i64 a1_0, .int .i64 a1_1, u1_2, u1_3, u1_4, u1_5, u1_6, u1_7, u1_8, u1_9, .int .i64 a1_10, u1_11]] H = some (.bool true, H) :=
  (law_FnExactSameChip_w s0_2 s0_3 s0_4 s0_5 s0_6 s0_7 s0_8 s0_9 s0_11 s1_2 s1_3 s1_4 s1_5 s1_6 s1_7 s1_8 s1_9 s1_11 w0 w1).exact (by simp) rfl
end Go.Proofs.Ytcigpclbhfkgaaa.V
