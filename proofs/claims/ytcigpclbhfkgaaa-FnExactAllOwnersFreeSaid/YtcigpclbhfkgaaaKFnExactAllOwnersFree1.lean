/- Texts of a proof, joined. -/
import Derived.Test.YtcigpclbhfkgaaaKM0
import Derived.Test.YtcigpclbhfkgaaaKM1
import Derived.Test.YtcigpclbhfkgaaaKFnExactAllOwnersFree0
/-! Latency without load; requests and replies. -/
set_option linter.all false
namespace Go.Proofs.Ytcigpclbhfkgaaa.V
open Go Go.VM Go.Proofs
set_option maxRecDepth 10000
variable {frz : Nat} {H : Heap}
def classesOk (w h : Int) (b A B : List Int) : Prop := tableOk w h b A ∧ tableOk w h b B
instance (w h : Int) (b A B : List Int) : Decidable (classesOk w h b A B) := inferInstanceAs (Decidable (_ ∧ _))
/-- a packet: its number, whence, whither, class, length -/
abbrev PkD := Int × Int × Int × Int × Int
def packetOk (w h : Int) (p : PkD) : Prop := inR 1 p.1 9999 ∧ isN w h p.2.1 ∧ isN w h p.2.2.1 ∧ p.2.1 ≠ p.2.2.1 ∧ inR 0 p.2.2.2.1 1 ∧ inR 1 p.2.2.2.2 5
instance (w h : Int) (p : PkD) : Decidable (packetOk w h p) := inferInstanceAs (Decidable (_ ∧ _))
def pkV (p : PkD) : Value := .agg #[.int .i64 p.1, .int .i64 p.2.1, .int .i64 p.2.2.1, .int .i64 p.2.2.2.1, .int .i64 p.2.2.2.2]
theorem classesOk_c (w h : Int) (v u1 u2 : Value) (b A B : List Int) (hI : IsI H v b) (h1 : IsI H u1 A) (h2 : IsI H u2 B) (hl : b.length ≤ 1073741824) :
   vcall C frz 80 [.agg #[.int .i64 w, .int .i64 h, v], .agg #[u1, u2]] H = some (.bool (decide (classesOk w h b A B)), H) := by
  rw [vcall_go (fn := Try.f80) Try.func80 rfl (by kernel_rfl) rfl]
  have one := And.intro (And.intro h1.one' h1.cells) (And.intro h2.one' h2.cells)
  simp [hI.one', hI.cells, one, tableOk_c _ _ _ _ _ _ (hI.app _) (h1.app _) hl]
  refine gd_dec _ _ ?_ ?_ <;> intro g <;> simp [g, classesOk, hI.one', hI.cells, one, tableOk_c _ _ _ _ _ _ (hI.app _) (h2.app _) hl]
theorem sClassesOk_c (w h : Int) (v u1 u2 : Value) (b A B : List Int) (hI : IsI H v b) (h1 : IsI H u1 A) (h2 : IsI H u2 B) (hl : b.length ≤ 1073741824) :
   vcall C frz 77 [.agg #[.int .i64 w, .int .i64 h, v], .agg #[u1, u2]] H = some (.bool (decide (classesOk w h b A B)), H) := by
  rw [vcall_go (fn := Try.f77) Try.func77 rfl (by kernel_rfl) rfl]
  have one := And.intro (And.intro h1.one' h1.cells) (And.intro h2.one' h2.cells)
  simp [hI.one', hI.cells, one, sTableOk_c _ _ _ _ _ _ (hI.app _) (h1.app _) hl]
  refine gd_dec _ _ ?_ ?_ <;> intro g <;> simp [g, classesOk, hI.one', hI.cells, one, sTableOk_c _ _ _ _ _ _ (hI.app _) (h2.app _) hl]
theorem packetOk_c (w h : Int) (p : PkD) : vcall C frz 93 [.agg #[.int .i64 w, .int .i64 h], pkV p] H = some (.bool (decide (packetOk w h p)), H) := by
  obtain ⟨i, a, b, c, l⟩ := p
  rw [vcall_go (fn := Try.f93) Try.func93 rfl (by kernel_rfl) rfl]
  by_cases g1 : inR 1 i 9999
  · by_cases g2 : isN w h a
    · by_cases g3 : isN w h b
      · by_cases g4 : a = b
        · simp [pkV, inside_c, isNode_c, g1, g2, g3, g4, packetOk]
        · by_cases g5 : inR 0 c 1
          · by_cases g6 : inR 1 l 5 <;> simp [pkV, inside_c, isNode_c, g1, g2, g3, g4, g5, g6, packetOk]
          · simp [pkV, inside_c, isNode_c, g1, g2, g3, g4, g5, packetOk]
      · simp [pkV, inside_c, isNode_c, g1, g2, g3, packetOk]
    · simp [pkV, inside_c, isNode_c, g1, g2, packetOk]
  · simp [pkV, inside_c, isNode_c, g1, packetOk]
theorem sPacketOk_c (w h : Int) (p : PkD) : vcall C frz 91 [.agg #[.int .i64 w, .int .i64 h], pkV p] H = some (.bool (decide (packetOk w h p)), H) := by
  obtain ⟨i, a, b, c, l⟩ := p
  rw [vcall_go (fn := Try.f91) Try.func91 rfl (by kernel_rfl) rfl]
  by_cases g1 : inR 1 i 9999
  · by_cases g2 : isN w h a
    · by_cases g3 : isN w h b
      · by_cases g4 : a = b
        · simp [pkV, l01In_c, l02Has_c, g1, g2, g3, g4, packetOk]
        · by_cases g5 : inR 0 c 1
          · by_cases g6 : inR 1 l 5 <;> simp [pkV, l01In_c, l02Has_c, g1, g2, g3, g4, g5, g6, packetOk]
          · simp [pkV, l01In_c, l02Has_c, g1, g2, g3, g4, g5, packetOk]
      · simp [pkV, l01In_c, l02Has_c, g1, g2, g3, packetOk]
    · simp [pkV, l01In_c, l02Has_c, g1, g2, packetOk]
  · simp [pkV, l01In_c, l02Has_c, g1, packetOk]
def zeroLoad (w h : Int) (b A B : List Int) (p : PkD) : Int :=
  if classesOk w h b A B ∧ packetOk w h p then ((walk w h b (if p.2.2.2.1 = 1 then B else A) p.2.1 p.2.2.1).length : Int) + p.2.2.2.2 + 1 else -1
theorem zeroLoad_range (w h : Int) (b A B : List Int) (p : PkD) : -1 ≤ zeroLoad w h b A B p ∧ zeroLoad w h b A B p ≤ 100 := by
  unfold zeroLoad; split
  · rename_i g
    have h1 := g.2.2.2.2.2.2
    have := walk_len w h b (if p.2.2.2.1 = 1 then B else A) p.2.1 p.2.2.1
    unfold inR at h1; omega
  · omega
theorem tableFor_w (u1 u2 : Value) (A B : List Int) (c : Int) (h1 : IsI H u1 A) (h2 : IsI H u2 B) :
   wp (vcall C frz 112 [.agg #[u1, u2], .int .i64 c] H) (fun r H' => r = .agg #[if c = 1 then u2 else u1] ∧ ∃ L, H' = H ++ L) := by
  rw [vcall_go (fn := Try.f112) Try.func112 rfl (by kernel_rfl) rfl]
  have one := And.intro (And.intro h1.one' h1.cells) (And.intro h2.one' h2.cells)
  simp [one]
  refine wp_dec ?_ ?_ <;> intro g <;> simp [g, one]
theorem zeroLoad_c (w h : Int) (v u1 u2 : Value) (b A B : List Int) (p : PkD) (hI : IsI H v b) (h1 : IsI H u1 A) (h2 : IsI H u2 B) (hl : b.length ≤ 1073741824) :
   vcall C frz 56 [.agg #[.int .i64 w, .int .i64 h, v], .agg #[u1, u2], pkV p] H = some (.int .i64 (zeroLoad w h b A B p), H) := by
  refine wp.exact (by simp) ?_ rfl
  rw [vcall_go (fn := Try.f56) Try.func56 rfl (by kernel_rfl) rfl]
  have one := And.intro (And.intro h1.one' h1.cells) (And.intro h2.one' h2.cells)
  have onev := And.intro hI.one' hI.cells
  have pk := fun F L => packetOk_c (frz := F) (H := L) w h p
  have hz : zeroLoad w h b A B p = if classesOk w h b A B ∧ packetOk w h p then ((walk w h b (if p.2.2.2.1 = 1 then B else A) p.2.1 p.2.2.1).length : Int) + p.2.2.2.2 + 1 else -1 := rfl
  obtain ⟨i, a, c, k, l⟩ := p
  simp only [pkV] at pk ⊢
  simp [onev, one, classesOk_c _ _ _ _ _ _ _ _ (hI.app _) (h1.app _) (h2.app _) hl]
  by_cases g1 : classesOk w h b A B
  · by_cases g2 : packetOk w h (i, a, c, k, l)
    · simp [g1, g2, pk, onev, one]
      rw [if_pos ⟨g1, g2⟩] at hz
      obtain ⟨k1, k2, k3, k4, k5, k6⟩ := g2
      simp only at k1 k2 k3 k4 k5 k6 hz
      rw [go_draw (h := by kernel_rfl)]
      simp [onev, one]
      refine wp_thn (tableFor_w u1 u2 A B k (h1.app _) (h2.app _)) ?_
      rintro _ H1 ⟨rfl, L, rfl⟩
      have hT : IsI H (if k = 1 then u2 else u1) (if k = 1 then B else A) := by split <;> assumption
      have hok : tableOk w h b (if k = 1 then B else A) := by split; exact g1.2; exact g1.1
      have hwl := walk_len w h b (if k = 1 then B else A) a c
      generalize (if k = 1 then u2 else u1) = uT at *
      generalize (if k = 1 then B else A) = T at *
      have wt := fun F L => walkT_c (frz := F) (H := H ++ L) w h v uT b T a c (hI.app _) (hT.app _) hl hok k2 k3
      simp only [List.append_assoc]
      unfold inR at k6
      have f0 : ∀ [Inhabited Unit], IntKind.i64.wrap l = l := by intro _; exact w64 (by omega) (by omega)
      have f1 : ∀ [Inhabited Unit], IntKind.i64.wrap (l + 1) = l + 1 := by intro _; exact w64 (by omega) (by omega)
      have f2 : ∀ [Inhabited Unit], IntKind.i64.wrap ((walk w h b T a c).length + l) = (walk w h b T a c).length + l := by intro _; exact w64 (by omega) (by omega)
      have f3 : ∀ [Inhabited Unit], IntKind.i64.wrap ((walk w h b T a c).length + l + 1) = (walk w h b T a c).length + l + 1 := by intro _; exact w64 (by omega) (by omega)
      simp [onev, one, hT.one', hT.cells, wt, hz]
      unfold ret
      by_cases h0 : walk w h b T a c = []
      · simp [h0, f0, f1]
      · simp [h0, f2, f3]
    · simp [g1, g2, pk, onev, one, hz]
  · by_cases g2 : packetOk w h (i, a, c, k, l) <;> simp [g1, g2, pk, onev, one, hz]
theorem sL27_c (w h : Int) (v u1 u2 : Value) (b A B : List Int) (i a c k l : Int) (hI : IsI H v b) (h1 : IsI H u1 A) (h2 : IsI H u2 B) (hl : b.length ≤ 1073741824) (g1 : classesOk w h b A B) (k2 : isN w h a) (k3 : isN w h c) (k4 : a ≠ c) (k6 : inR 1 l 5) :
   vcall C frz 110 [.agg #[.int .i64 w, .int .i64 h, v], .agg #[u1, u2], .agg #[.int .i64 i, .int .i64 a, .int .i64 c, .int .i64 k, .int .i64 l]] H = some (.int .i64 (((walk w h b (if k = 1 then B else A) a c).length : Int) + l + 1), H) := by
  refine wp.exact (by simp) ?_ rfl
  rw [vcall_go (fn := Try.f110) Try.func110 rfl (by kernel_rfl) rfl]
  have one := And.intro (And.intro h1.one' h1.cells) (And.intro h2.one' h2.cells)
  have onev := And.intro hI.one' hI.cells
  simp [onev, one]
  have core : ∀ (T : List Int), tableOk w h b T → ∀ [Inhabited Unit], IntKind.i64.wrap ((walk w h b T a c).length + l) = (walk w h b T a c).length + l ∧ IntKind.i64.wrap ((walk w h b T a c).length + l + 1) = (walk w h b T a c).length + l + 1 := fun T hT => by
    intro _
    have hwl := walk_len w h b T a c
    unfold inR at k6
    exact ⟨w64 (by omega) (by omega), w64 (by omega) (by omega)⟩
  refine wp_dec ?_ ?_ <;> intro g
  · simp [g, onev, one]
    have sw := fun F L => sWalk_c (frz := F) (H := H ++ L) w h v u2 b B a c (hI.app _) (h2.app _) hl g1.2.1 k2 k3
    rw [go_draw (h := by kernel_rfl)]
    simp [onev, one, sw, core B g1.2]
  · simp [g, onev, one]
    have sw := fun F L => sWalk_c (frz := F) (H := H ++ L) w h v u1 b A a c (hI.app _) (h1.app _) hl g1.1.1 k2 k3
    rw [go_draw (h := by kernel_rfl)]
    simp [onev, one, sw, core A g1.1]
theorem sZeroLoad_c (w h : Int) (v u1 u2 : Value) (b A B : List Int) (p : PkD) (hI : IsI H v b) (h1 : IsI H u1 A) (h2 : IsI H u2 B) (hl : b.length ≤ 1073741824) :
   vcall C frz 53 [.agg #[.int .i64 w, .int .i64 h, v], .agg #[u1, u2], pkV p] H = some (.int .i64 (zeroLoad w h b A B p), H) := by
  refine wp.exact (by simp) ?_ rfl
  rw [vcall_go (fn := Try.f53) Try.func53 rfl (by kernel_rfl) rfl]
  have one := And.intro (And.intro h1.one' h1.cells) (And.intro h2.one' h2.cells)
  have onev := And.intro hI.one' hI.cells
  have pk := fun F L => sPacketOk_c (frz := F) (H := L) w h p
  have hz : zeroLoad w h b A B p = if classesOk w h b A B ∧ packetOk w h p then ((walk w h b (if p.2.2.2.1 = 1 then B else A) p.2.1 p.2.2.1).length : Int) + p.2.2.2.2 + 1 else -1 := rfl
  obtain ⟨i, a, c, k, l⟩ := p
  simp only [pkV] at pk ⊢
  simp [onev, one, sClassesOk_c _ _ _ _ _ _ _ _ (hI.app _) (h1.app _) (h2.app _) hl]
  by_cases g1 : classesOk w h b A B
  · by_cases g2 : packetOk w h (i, a, c, k, l)
    · simp [g1, g2, pk, onev, one]
      rw [if_pos ⟨g1, g2⟩] at hz
      obtain ⟨k1, k2, k3, k4, k5, k6⟩ := g2
      simp only at k1 k2 k3 k4 k5 k6 hz
      have lz := fun F L => sL27_c (frz := F) (H := H ++ L) w h v u1 u2 b A B i a c k l (hI.app _) (h1.app _) (h2.app _) hl g1 k2 k3 k4 k6
      simp [lz, hz]
    · simp [g1, g2, pk, onev, one, hz]
  · by_cases g2 : packetOk w h (i, a, c, k, l) <;> simp [g1, g2, pk, onev, one, hz]
/-- a request and its reply -/
def replyTime (w h : Int) (b A B : List Int) (p : PkD) (n : Int) : Int :=
  if zeroLoad w h b A B p < 0 ∨ zeroLoad w h b A B (p.1, p.2.2.1, p.2.1, IntKind.i64.wrap (1 - p.2.2.2.1), n) < 0 then -1 else zeroLoad w h b A B p + zeroLoad w h b A B (p.1, p.2.2.1, p.2.1, IntKind.i64.wrap (1 - p.2.2.2.1), n)
theorem zeroLoad_id {w h : Int} {b A B : List Int} {i j a c k l : Int} (h1 : inR 1 i 9999) (h2 : inR 1 j 9999) : zeroLoad w h b A B (i, a, c, k, l) = zeroLoad w h b A B (j, a, c, k, l) := by
  unfold zeroLoad packetOk
  simp only [h1, h2]
theorem replyTime_c (w h : Int) (v u1 u2 : Value) (b A B : List Int) (i a c k l n : Int) (hI : IsI H v b) (h1 : IsI H u1 A) (h2 : IsI H u2 B) (hl : b.length ≤ 1073741824) :
   vcall C frz 17 [.agg #[.int .i64 w, .int .i64 h, v], .agg #[u1, u2], .agg #[.int .i64 i, .int .i64 a, .int .i64 c, .int .i64 k, .int .i64 l], .int .i64 n] H = some (.int .i64 (replyTime w h b A B (i, a, c, k, l) n), H) := by
  refine wp.exact (by simp) ?_ rfl
  rw [vcall_go (fn := Try.f17) Try.func17 rfl (by kernel_rfl) rfl]
  have one := And.intro (And.intro h1.one' h1.cells) (And.intro h2.one' h2.cells)
  have onev := And.intro hI.one' hI.cells
  have z1 := fun F L => zeroLoad_c (frz := F) (H := H ++ L) w h v u1 u2 b A B (i, a, c, k, l) (hI.app _) (h1.app _) (h2.app _) hl
  have z2 := fun F L => zeroLoad_c (frz := F) (H := H ++ L) w h v u1 u2 b A B (i, c, a, IntKind.i64.wrap (1 - k), n) (hI.app _) (h1.app _) (h2.app _) hl
  simp only [pkV] at z1 z2
  have r1 := zeroLoad_range w h b A B (i, a, c, k, l)
  have r2 := zeroLoad_range w h b A B (i, c, a, IntKind.i64.wrap (1 - k), n)
  unfold replyTime
  simp only
  generalize hq : IntKind.i64.wrap (1 - k) = kk at *
  generalize zeroLoad w h b A B (i, a, c, k, l) = Z1 at *
  generalize zeroLoad w h b A B (i, c, a, kk, n) = Z2 at *
  have e1 : ∀ [Inhabited Unit], IntKind.i64.wrap (Z1 + Z2) = Z1 + Z2 := by intro _; exact w64 (by omega) (by omega)
  simp [onev, one, hq]
  rw [go_draw (h := by kernel_rfl)]
  simp [onev, one, z1, z2]
  by_cases g1 : Z1 < 0
  · simp [g1]
  · by_cases g2 : Z2 < 0 <;> simp [g1, g2, e1]
theorem replyTime_d {v : Value} {u : Value × Value} {w h : Int} {b A B : List Int} {i a c k l n : Int} (o1 : dMesh.Ow H v (w, h, b)) (o2 : dClasses.Ow H u (A, B)) :
   vcall C frz 17 [dMesh.val v (w, h, b), dClasses.val u (A, B), .agg #[.int .i64 i, .int .i64 a, .int .i64 c, .int .i64 k, .int .i64 l], .int .i64 n] H = some (.int .i64 (replyTime w h b A B (i, a, c, k, l) n), H) :=
  replyTime_c w h v u.1 u.2 b A B i a c k l n o1.1.rd.isI o2.1.1.rd.isI o2.2.1.rd.isI o1.2
theorem sReplyTime_c (w h : Int) (v u1 u2 : Value) (b A B : List Int) (i a c k l n : Int) (hI : IsI H v b) (h1 : IsI H u1 A) (h2 : IsI H u2 B) (hl : b.length ≤ 1073741824) :
   vcall C frz 13 [.agg #[.int .i64 w, .int .i64 h, v], .agg #[u1, u2], .agg #[.int .i64 i, .int .i64 a, .int .i64 c, .int .i64 k, .int .i64 l], .int .i64 n] H = some (.int .i64 (replyTime w h b A B (i, a, c, k, l) n), H) := by
  refine wp.exact (by simp) ?_ rfl
  rw [vcall_go (fn := Try.f13) Try.func13 rfl (by kernel_rfl) rfl]
  have one := And.intro (And.intro h1.one' h1.cells) (And.intro h2.one' h2.cells)
  have onev := And.intro hI.one' hI.cells
  have z1 := fun F L => sZeroLoad_c (frz := F) (H := H ++ L) w h v u1 u2 b A B (i, a, c, k, l) (hI.app _) (h1.app _) (h2.app _) hl
  have z2 := fun F L => sZeroLoad_c (frz := F) (H := H ++ L) w h v u1 u2 b A B (1, c, a, IntKind.i64.wrap (1 - k), n) (hI.app _) (h1.app _) (h2.app _) hl
  simp only [pkV] at z1 z2
  have r1 := zeroLoad_range w h b A B (i, a, c, k, l)
  have r2 := zeroLoad_range w h b A B (1, c, a, IntKind.i64.wrap (1 - k), n)
  have same : ¬ zeroLoad w h b A B (i, a, c, k, l) < 0 → zeroLoad w h b A B (i, c, a, IntKind.i64.wrap (1 - k), n) = zeroLoad w h b A B (1, c, a, IntKind.i64.wrap (1 - k), n) := fun hz => by
    refine zeroLoad_id ?_ (by decide)
    unfold zeroLoad at hz
    split at hz
    · rename_i g; exact g.2.1
    · omega
  unfold replyTime
  simp only
  generalize hq : IntKind.i64.wrap (1 - k) = kk at *
  generalize zeroLoad w h b A B (i, a, c, k, l) = Z1 at *
  generalize zeroLoad w h b A B (1, c, a, kk, n) = Z2 at *
  generalize zeroLoad w h b A B (i, c, a, kk, n) = Z3 at *
  have e1 : ∀ [Inhabited Unit], IntKind.i64.wrap (Z1 + Z2) = Z1 + Z2 := by intro _; exact w64 (by omega) (by omega)
  simp [onev, one, z1, hq, z2]
  by_cases g1 : Z1 < 0
  · simp [g1]
  · rw [same g1]
    by_cases g2 : Z2 < 0 <;> simp [g1, g2, e1]
theorem sReplyTime_d {v : Value} {u : Value × Value} {w h : Int} {b A B : List Int} {i a c k l n : Int} (o1 : dMesh.Ow H v (w, h, b)) (o2 : dClasses.Ow H u (A, B)) :
   vcall C frz 13 [dMesh.val v (w, h, b), dClasses.val u (A, B), .agg #[.int .i64 i, .int .i64 a, .int .i64 c, .int .i64 k, .int .i64 l], .int .i64 n] H = some (.int .i64 (replyTime w h b A B (i, a, c, k, l) n), H) :=
  sReplyTime_c w h v u.1 u.2 b A B i a c k l n o1.1.rd.isI o2.1.1.rd.isI o2.2.1.rd.isI o1.2
theorem toPacket_c (i a c k l : Int) : vcall C frz 16 [.agg #[.int .i64 i, .int .i64 a, .int .i64 c, .int .i64 k, .int .i64 l]] H = some (.agg #[.int .i64 i, .int .i64 a, .int .i64 c, .int .i64 k, .int .i64 l], H) := by
  rw [vcall_go (fn := Try.f16) Try.func16 rfl (by kernel_rfl) rfl]
  simp
end Go.Proofs.Ytcigpclbhfkgaaa.V
/-! Valid networks. -/
set_option linter.all false
namespace Go.Proofs.Ytcigpclbhfkgaaa.V
open Go Go.VM Go.Proofs
set_option maxRecDepth 10000
variable {frz : Nat} {H : Heap}
def flitOk (w h : Int) (f : FlitD) : Prop := isN w h f.2.1 ∧ inR 0 f.2.2.1 1
instance (w h : Int) (f : FlitD) : Decidable (flitOk w h f) := inferInstanceAs (Decidable (_ ∧ _))
def flitsOk (w h : Int) (l : List FlitD) : Prop := ∀ f ∈ l, flitOk w h f
instance (w h : Int) (l : List FlitD) : Decidable (flitsOk w h l) := inferInstanceAs (Decidable (∀ f ∈ l, flitOk w h f))
def sizesOk (x : NetD) : Prop := (x.2.2.1.length : Int) = 10 * cnt x.1.1 x.1.2.1 ∧ (x.2.2.2.1.length : Int) = 10 * cnt x.1.1 x.1.2.1 ∧ (x.2.2.2.2.1.length : Int) = 5 * cnt x.1.1 x.1.2.1 ∧ (x.2.2.2.2.2.1.length : Int) = cnt x.1.1 x.1.2.1 ∧ (x.2.2.2.2.2.2.1.length : Int) = cnt x.1.1 x.1.2.1
instance (x : NetD) : Decidable (sizesOk x) := inferInstanceAs (Decidable (_ ∧ _))
def bufOk (w h : Int) (l : List FlitD) (c : Int) : Prop := l.length ≤ 3 ∧ (∀ f ∈ l, f.2.2.1 = c) ∧ flitsOk w h l
instance (w h : Int) (l : List FlitD) (c : Int) : Decidable (bufOk w h l c) := inferInstanceAs (Decidable (_ ∧ _))
def srcOk (w h : Int) (l : List FlitD) : Prop := l.length ≤ 60 ∧ flitsOk w h l
instance (w h : Int) (l : List FlitD) : Decidable (srcOk w h l) := inferInstanceAs (Decidable (_ ∧ _))
/-- a valid network -/
def netOk (x : NetD) : Prop := classesOk x.1.1 x.1.2.1 x.1.2.2 x.2.1.1 x.2.1.2 ∧ sizesOk x ∧ (∀ i, i < x.2.2.1.length → bufOk x.1.1 x.1.2.1 (x.2.2.1.getD i []) ((i : Int) % 2)) ∧ (∀ l ∈ x.2.2.2.2.2.1, srcOk x.1.1 x.1.2.1 l) ∧
  (∀ o ∈ x.2.2.2.1, inR (-1) o 4) ∧ (∀ o ∈ x.2.2.2.2.1, inR 0 o 9) ∧ inR 0 x.2.2.2.2.2.2.2 1000000
instance (x : NetD) : Decidable (netOk x) := inferInstanceAs (Decidable (_ ∧ _))
theorem areFlits_c (w h : Int) (v : Value) (xs : List FlitD) (hI : Rd flF H v xs) (hl : xs.length ≤ 1073741824) :
   vcall C frz 107 [.agg #[.int .i64 w, .int .i64 h], v] H = some (.bool (decide (flitsOk w h xs)), H) := by
  refine wp.exact (by simp) ?_ rfl
  rw [vcall_go (fn := Try.f107) Try.func107 rfl (by kernel_rfl) rfl]
  generalize hB : decide (flitsOk w h xs) = B
  simp [hI.app.len (P := Try.prog) (ty := 123) (by simp)]
  refine wp_inv (fun n t H' => ∃ i : Nat, n = xs.length - i ∧ i ≤ xs.length ∧ t 2 = .pointer (some ⟨H.length, 0, some 0⟩) ∧ t 7 = v ∧ t 8 = .int .i64 xs.length ∧ t 9 = .int .i64 i ∧ Chg H H' [] ∧ H'[H.length]? = some ⟨[.int .i64 w, .int .i64 h], 0, 36⟩ ∧ ∀ f ∈ xs.take i, flitOk w h f) ?_ (n := xs.length)
    ⟨0, rfl, by omega, by simp, by simp, by simp, by simp, Chg.app _, by simp, by simp⟩
  rintro n t H' ⟨i, rfl, hi, t2, t7, t8, t9, c, b2, hk⟩ ih
  simp [t2, t7, t8, t9]
  refine wp_dec ?_ ?_ <;> intro g
  · have hi' : i < xs.length := by omega
    have rd := hI.chg c (by simp)
    have q1 := rd.idx (P := Try.prog) (ty := 123) (e := 134) (by simp) (i := (i : Int)) (by omega) (by omega)
    have q2 := rd.load (P := Try.prog) (e := 134) (by simp) hi'
    simp only [Int.toNat_natCast, flF_n] at q1 q2
    have l0 := c.1
    have hF : H.length ≤ H'.length := l0
    have b2' := fun r => box_chg (get_app' b2 [r]) (chg_set H'.length r) (by simp; have := box_lt b2; omega)
    have hlt := box_lt b2
    have hne : H'.length ≠ H.length := by omega
    have key : flitOk w h xs[i] ↔ isN w h xs[i].2.1 ∧ inR 0 xs[i].2.2.1 1 := Iff.rfl
    have hsucc : ∀ f ∈ xs.take (i + 1), f ∈ xs.take i ∨ f = xs[i] := fun f hf => by
      rw [List.take_succ_eq_append_getElem hi'] at hf
      rcases List.mem_append.1 hf with hf | hf
      · exact .inl hf
      · exact .inr (List.mem_singleton.1 hf)
    have hno : ¬ flitOk w h xs[i] → ¬ flitsOk w h xs := fun hh k => hh (k _ (List.getElem_mem hi'))
    simp [t2, t7, t8, t9, q1, q2, hF, flF_f, VM.look, b2, get_app' b2, isNode_c, inside_c]
    by_cases g1 : isN w h xs[i].2.1
    · by_cases g2 : inR 0 xs[i].2.2.1 1
      · simp [t2, t7, t8, t9, g1, g2, inside_c]
        refine ih (xs.length - (i + 1)) _ _ ⟨i + 1, rfl, by omega, by simp [t2], by simp [t7], by simp [t8], ?_, c.trans (Chg.app _), get_app' b2 _, fun f hf => ?_⟩ (by omega)
        · simp; rw [w64 (by omega) (by omega)]
        · rcases hsucc f hf with hf | rfl
          · exact hk f hf
          · exact ⟨g1, g2⟩
      · simp [t2, t7, t8, t9, g1, g2, inside_c]
        rw [← hB]; exact decide_eq_false (hno (fun hh => g2 hh.2))
    · simp [t2, t7, t8, t9, g1]
      rw [← hB]; exact decide_eq_false (hno (fun hh => g1 hh.1))
  · have : i = xs.length := by omega
    subst this
    rw [List.take_length] at hk
    simp [t2, t7, t8, t9]
    rw [← hB]; exact decide_eq_true hk
theorem l15Flits_c (w h : Int) (v : Value) (xs : List FlitD) (hI : Rd flF H v xs) (hl : xs.length ≤ 1073741824) :
   vcall C frz 119 [.agg #[.int .i64 w, .int .i64 h], v] H = some (.bool (decide (flitsOk w h xs)), H) := by
  refine wp.exact (by simp) ?_ rfl
  rw [vcall_go (fn := Try.f119) Try.func119 rfl (by kernel_rfl) rfl]
  generalize hB : decide (flitsOk w h xs) = B
  simp
  have rd : Rd flF (H ++ [⟨[.int .i64 w, .int .i64 h], 0, 36⟩]) v xs := hI.app
  refine wp_inv (fun n t H' => ∃ i : Nat, n = xs.length - i ∧ i ≤ xs.length ∧ t 1 = v ∧ t 2 = .pointer (some ⟨H.length, 0, some 0⟩) ∧ t 5 = .int .i64 i ∧ H' = H ++ [⟨[.int .i64 w, .int .i64 h], 0, 36⟩] ∧ ∀ f ∈ xs.take i, flitOk w h f) ?_ (n := xs.length)
    ⟨0, rfl, by omega, by simp, by simp, by simp, rfl, by simp⟩
  rintro n t H' ⟨i, rfl, hi, t1, t2, t5, rfl, hk⟩ ih
  simp [t1, t2, t5, rd.len (P := Try.prog) (ty := 123) (by simp)]
  refine wp_dec ?_ ?_ <;> intro g
  · have hi' : i < xs.length := by omega
    have q1 := rd.idx (P := Try.prog) (ty := 123) (e := 134) (by simp) (i := (i : Int)) (by omega) (by omega)
    have q2 := rd.cell (P := Try.prog) (e := 3) (by simp) hi' (c := 1) (by decide)
    have q3 := rd.cell (P := Try.prog) (e := 3) (by simp) hi' (c := 2) (by decide)
    have q4 := rd.field (P := Try.prog) (s := 134) (f := 1) (o := 1) (n := 1) (ag := false) (by simp) (j := i * 5) (by omega)
    have q5 := rd.field (P := Try.prog) (s := 134) (f := 2) (o := 2) (n := 1) (ag := false) (by simp) (j := i * 5) (by omega)
    simp only [Int.toNat_natCast, flF_n, flF_f] at q1 q2 q3
    simp at q2 q3
    have hsucc : ∀ f ∈ xs.take (i + 1), f ∈ xs.take i ∨ f = xs[i] := fun f hf => by
      rw [List.take_succ_eq_append_getElem hi'] at hf
      rcases List.mem_append.1 hf with hf | hf
      · exact .inl hf
      · exact .inr (List.mem_singleton.1 hf)
    have hno : ¬ flitOk w h xs[i] → ¬ flitsOk w h xs := fun hh k => hh (k _ (List.getElem_mem hi'))
    simp [t1, t2, t5]
    rw [go_draw (h := by kernel_rfl)]
    simp [-vfieldAddr, vfa_ptr, t1, t2, t5, q1, q2, q3, q4, q5, l02Has_c]
    by_cases g1 : isN w h xs[i].2.1
    · by_cases g2 : inR 0 xs[i].2.2.1 1
      · simp [-vfieldAddr, vfa_ptr, t1, t2, t5, g1, g2, l01In_c, q1, q5, q3]
        refine ih (xs.length - (i + 1)) _ _ ⟨i + 1, rfl, by omega, by simp [t1], by simp [t2], ?_, rfl, fun f hf => ?_⟩ (by omega)
        · simp; rw [w64 (by omega) (by omega)]
        · rcases hsucc f hf with hf | rfl
          · exact hk f hf
          · exact ⟨g1, g2⟩
      · simp [-vfieldAddr, vfa_ptr, t1, t2, t5, g1, g2, l01In_c, q1, q5, q3]
        rw [← hB]; exact decide_eq_false (hno (fun hh => g2 hh.2))
    · simp [t1, t2, t5, g1]
      rw [← hB]; exact decide_eq_false (hno (fun hh => g1 hh.1))
  · have : i = xs.length := by omega
    subst this
    rw [List.take_length] at hk
    simp [t1, t2, t5]
    rw [← hB]; exact decide_eq_true hk
theorem classOnly_w (v : Value) (xs : List FlitD) (c : Int) (hI : Rd flF H v xs) (hl : xs.length ≤ 1073741824) :
   wp (vcall C frz 106 [v, .int .i64 c] H) (fun r H' => Ow flF 134 H' r (xs.filter fun f => f.2.2.1 = c) ∧ (∀ i ∈ ids r, H.length ≤ i) ∧ Chg H H' []) := by
  rw [vcall_go (fn := Try.f106) Try.func106 rfl (by kernel_rfl) rfl]
  simp [hI.app.len (P := Try.prog) (ty := 123) (by simp)]
  refine wp_inv (fun n t H' => ∃ (i : Nat) (r : Value), n = xs.length - i ∧ i ≤ xs.length ∧ t 1 = .int .i64 c ∧ t 5 = r ∧ t 9 = v ∧ t 10 = .int .i64 xs.length ∧ t 11 = .int .i64 i ∧ Chg H H' [] ∧ Ow flF 134 H' r ((xs.take i).filter fun f => f.2.2.1 = c) ∧ (∀ j ∈ ids r, H.length ≤ j)) ?_ (n := xs.length)
    ⟨0, .slice (some ⟨H.length, 0, some 0⟩) 0 0, rfl, by omega, by simp, by simp, by simp, by simp, by simp, Chg.app _, Ow.new0 (D := flF) (xs := []) rfl rfl rfl rfl, by simp⟩
  rintro n t H' ⟨i, r, rfl, hi, t1, t5, t9, t10, t11, ch, o, nr⟩ ih
  simp [t1, t5, t9, t10, t11]
  refine wp_dec ?_ ?_ <;> intro g
  · have hi' : i < xs.length := by omega
    have rd := hI.chg ch (by simp)
    have q1 := rd.idx (P := Try.prog) (ty := 123) (e := 134) (by simp) (i := (i : Int)) (by omega) (by omega)
    have q2 := rd.load (P := Try.prog) (e := 134) (by simp) hi'
    simp only [Int.toNat_natCast, flF_n] at q1 q2
    have hF : H.length ≤ H'.length := ch.1
    have hfl := List.length_filter_le (fun f : FlitD => decide (f.2.2.1 = c)) (xs.take i)
    have htl : (xs.take i).length ≤ i := by simp; omega
    simp [t1, t5, t9, t10, t11, q1, q2, hF, flF_f, VM.look]
    refine wp_dec ?_ ?_ <;> intro g1
    · obtain ⟨r', H2, hap, o2, c2, n2⟩ := (o.app (L := [⟨flF.f xs[i], 0, 134⟩])).push (P := Try.prog) (frz := H.length) (ty := 123) (a := xs[i]) (by simp) rfl (by omega) nr
      simp only [flF_f, List.append_assoc, List.cons_append, List.nil_append, List.length_append, List.length_cons, List.length_nil] at hap
      simp [t1, t5, t9, t10, t11, hap]
      refine ih (xs.length - (i + 1)) _ _ ⟨i + 1, r', rfl, by omega, by simp [t1], by simp, by simp [t9], by simp [t10], ?_, (ch.trans (Chg.app _)).trans' c2 (fun j hj => .inr (nr j hj)), ?_, fun j hj => ?_⟩ (by omega)
      · simp; rw [w64 (by omega) (by omega)]
      · rw [List.take_succ_eq_append_getElem hi', List.filter_append]; simpa [g1] using o2
      · rcases n2 j hj with h1 | h1
        · exact nr j h1
        · simp at h1; omega
    · simp [t1, t5, t9, t10, t11, g1]
      refine ih (xs.length - (i + 1)) _ _ ⟨i + 1, r, rfl, by omega, by simp [t1], by simp [t5], by simp [t9], by simp [t10], ?_, ch.trans (Chg.app _), ?_, nr⟩ (by omega)
      · simp; rw [w64 (by omega) (by omega)]
      · rw [List.take_succ_eq_append_getElem hi', List.filter_append]; simpa [g1] using o.app
  · have : i = xs.length := by omega
    subst this
    rw [List.take_length] at o
    simp [t1, t5, t9, t10, t11]
    exact ⟨o, nr, ch⟩
end Go.Proofs.Ytcigpclbhfkgaaa.V
/-! Valid networks: what the program and the reference say. -/
set_option linter.all false
namespace Go.Proofs.Ytcigpclbhfkgaaa.V
open Go Go.VM Go.Proofs
set_option maxRecDepth 10000
variable {frz : Nat} {H : Heap}
theorem filter_len_all {l : List FlitD} {c : Int} : (l.filter fun f => f.2.2.1 = c).length = l.length ↔ ∀ f ∈ l, f.2.2.1 = c := by
  rw [List.length_filter_eq_length_iff]; simp
theorem tmod2 (i : Nat) : (i : Int).tmod 2 = (i : Int) % 2 := Int.tmod_eq_emod_of_nonneg (by omega)
theorem getD_at {α : Type} {l : List α} {d : α} {i : Nat} (h : i < l.length) : l.getD i d = l[i] := by simp [List.getD_eq_getElem?_getD, h]
theorem mem_take_succ {α : Type} {l : List α} {i : Nat} (h : i < l.length) {x : α} (hx : x ∈ l.take (i + 1)) : x ∈ l.take i ∨ x = l[i] := by
  rw [List.take_succ_eq_append_getElem h] at hx
  rcases List.mem_append.1 hx with hx | hx
  · exact .inl hx
  · exact .inr (List.mem_singleton.1 hx)
theorem netOk_d {v : NetV} {x : NetD} (o : dNet.Ow H v x) : vcall C frz 49 [dNet.val v x] H = some (.bool (decide (netOk x)), H) := by
  have oo := dNet_one o
  obtain ⟨u2, ⟨u3, u4⟩, ⟨u5, h5⟩, u6, u7, ⟨u8, h8⟩, ⟨u9, h9⟩, _⟩ := v
  obtain ⟨⟨w, h, b⟩, ⟨A, B⟩, buf, own, turn, src, arr, tm⟩ := x
  obtain ⟨o2, o3, o5, o6, o7, o8, o9, _⟩ := o
  simp only at o2 o3 o5 o6 o7 o8 o9
  obtain ⟨p2, p3, p4, p5, p6, p7, p8, p9⟩ := oo
  simp only at p2 p3 p4 p5 p6 p7 p8 p9
  rw [dNet_val]
  refine wp.exact (by simp) ?_ rfl
  rw [vcall_go (fn := Try.f49) Try.func49 rfl (by kernel_rfl) rfl]
  generalize hY : decide (netOk ((w, h, b), (A, B), buf, own, turn, src, arr, tm)) = Y
  obtain ⟨N, hN⟩ : ∃ N : Nat, cnt w h = N := ⟨(cnt w h).toNat, by have := cnt_range w h; omega⟩
  have hN2 : N ≤ 16 := by have := cnt_range w h; omega
  have w10 : ∀ [Inhabited Unit], IntKind.i64.wrap (10 * (N : Int)) = 10 * (N : Int) := by intro _; exact w64 (by omega) (by omega)
  have w5 : ∀ [Inhabited Unit], IntKind.i64.wrap (5 * (N : Int)) = 5 * (N : Int) := by intro _; exact w64 (by omega) (by omega)
  have cok := fun F L => classesOk_c (frz := F) (H := H ++ L) w h u2 u3 u4 b A B (Rd.isI o2.1.rd.app) (Rd.isI o3.1.1.rd.app) (Rd.isI o3.2.1.rd.app) o2.2
  have ln5 := fun (L : Heap) => (RdL.app (L := L) o5.1.rd).1.len (P := Try.prog) (ty := 57) (by simp)
  have ln8 := fun (L : Heap) => (RdL.app (L := L) o8.1.rd).1.len (P := Try.prog) (ty := 57) (by simp)
  have ln9 := fun (L : Heap) => (RdL.app (L := L) o9.1.rd).1.len (P := Try.prog) (ty := 57) (by simp)
  have ln6 := fun (L : Heap) => (Rd.app (L := L) o6.1.rd).len (P := Try.prog) (ty := 24) (by simp)
  have ln7 := fun (L : Heap) => (Rd.app (L := L) o7.1.rd).len (P := Try.prog) (ty := 24) (by simp)
  have hl5 := o5.1.rd.2.1
  have hl8 := o8.1.rd.2.1
  have hl9 := o9.1.rd.2.1
  have hb5 := o5.2.1
  have hb8 := o8.2.1
  simp only at ln5 ln8 ln9 ln6 ln7 hl5 hl8 hl9 hb5 hb8
  have no : ¬ netOk ((w, h, b), (A, B), buf, own, turn, src, arr, tm) → false = Y := fun hh => by rw [← hY]; exact (decide_eq_false hh).symm
  have no' : ¬ netOk ((w, h, b), (A, B), buf, own, turn, src, arr, tm) → Y = false := fun hh => (no hh).symm
  have ones := And.intro p2 (And.intro p3 (And.intro p4 (And.intro p5 (And.intro p6 (And.intro p7 (And.intro p8 p9))))))
  simp [ones, nodeCount_c, hN, cok, w10, w5]
  by_cases c1 : classesOk w h b A B
  rotate_left
  · simp [c1]; exact no' (fun k => c1 k.1)
  by_cases c2 : (buf.length : Int) = 10 * N
  rotate_left
  · simp [c1, c2, ones, ln5, hl5, w10]; exact no' (fun k => c2 (by have := k.2.1.1; simp only [hN] at this; exact this))
  by_cases c3 : (own.length : Int) = 10 * N
  rotate_left
  · simp [c1, c2, c3, ones, ln5, hl5, ln6, w10]; exact no' (fun k => c3 (by have := k.2.1.2.1; simp only [hN] at this; exact this))
  by_cases c4 : (turn.length : Int) = 5 * N
  rotate_left
  · simp [c1, c2, c3, c4, ones, ln5, hl5, ln6, ln7, w10, w5]; exact no' (fun k => c4 (by have := k.2.1.2.2.1; simp only [hN] at this; exact this))
  by_cases c5 : (src.length : Int) = N
  rotate_left
  · simp [c1, c2, c3, c4, c5, ones, ln5, hl5, ln6, ln7, ln8, hl8, w10, w5]; exact no' (fun k => c5 (by have := k.2.1.2.2.2.1; simp only [hN] at this; exact this))
  by_cases c6 : (arr.length : Int) = N
  rotate_left
  · simp [c1, c2, c3, c4, c5, c6, ones, ln5, hl5, ln6, ln7, ln8, hl8, ln9, hl9, w10, w5]; exact no' (fun k => c6 (by have := k.2.1.2.2.2.2; simp only [hN] at this; exact this))
  have hsz : sizesOk ((w, h, b), (A, B), buf, own, turn, src, arr, tm) := by unfold sizesOk; simp only [hN]; exact ⟨c2, c3, c4, c5, c6⟩
  simp [c1, c2, c3, c4, c5, c6, ones, ln5, hl5, ln6, ln7, ln8, hl8, ln9, hl9, w10, w5]
  refine wp_inv (fun n t H' => ∃ i : Nat, n = buf.length - i ∧ i ≤ buf.length ∧ t 1 = .pointer (some ⟨H.length, 0, some 0⟩) ∧ t 57 = u5 ∧ t 58 = .int .i64 buf.length ∧ t 59 = .int .i64 i ∧ Chg H H' [] ∧
      H'[H.length]? = some ⟨[.int .i64 w, .int .i64 h, u2, u3, u4, u5, u6, u7, u8, u9, .int .i64 tm], 0, 59⟩ ∧ ∀ j, j < i → bufOk w h (buf.getD j []) ((j : Int) % 2)) ?_ (n := buf.length)
    ⟨0, rfl, by omega, by simp, by simp, by simp [c2], by simp, Chg.app _, by simp, by omega⟩
  rintro n t H' ⟨i, rfl, hi, t1, t57, t58, t59, ch, b0, hk⟩ ih
  simp [t1, t57, t58, t59]
  refine wp_dec ?_ ?_ <;> intro g
  · have hi' : i < buf.length := by omega
    have rl := o5.1.rd.chg ch (by simp)
    obtain ⟨u, _, a2, a3, a4⟩ := RdL_at rl (ty := 57) (e := 123) (by simp) (by simp) hi'
    have hlen := o5.2.2 _ (List.getElem_mem hi')
    simp only at a2 a3 a4 hlen
    have lu := a4.len (P := Try.prog) (ty := 123) (by simp)
    have hbg : buf.getD i [] = buf[i] := getD_at hi'
    have bad : ¬ bufOk w h buf[i] ((i : Int) % 2) → Y = false := fun hh => no' (fun k => hh (by have := k.2.2.1 i hi'; simp only [hbg] at this; exact this))
    obtain ⟨l, hl⟩ : ∃ l, l = buf[i] := ⟨_, rfl⟩
    rw [← hl] at a4 lu hlen bad hbg
    simp [t1, t57, t58, t59, a2, a3, lu]
    by_cases g1 : l.length ≤ 3
    rotate_left
    · have g1' : (3 : Int) < l.length := by omega
      simp [g1']; exact bad (fun k => g1 k.1)
    have g1' : ¬ (3 : Int) < l.length := by omega
    simp [g1', t1, t57, t58, t59, tmod2]
    refine wp_thn (classOnly_w u l ((i : Int) % 2) a4 (by omega)) ?_
    rintro r H2 ⟨orr, nr, cc⟩
    have b0 := box_chg b0 cc (by simp)
    have lr := orr.rd.len (P := Try.prog) (ty := 123) (by simp)
    have lu2 := (a4.chg cc (by simp)).len (P := Try.prog) (ty := 123) (by simp)
    have hfl := filter_len_all (l := l) (c := (i : Int) % 2)
    generalize (l.filter fun f => f.2.2.1 = (i : Int) % 2).length = q at *
    simp [t1, t57, t58, t59, lr, lu2]
    by_cases g2 : q = l.length
    rotate_left
    · have g2' : ¬ (q : Int) = l.length := by omega
      simp [g2']; exact bad (fun k => g2 (hfl.2 k.2.1))
    have af := fun F => areFlits_c (frz := F) (H := H2) w h u l (a4.chg cc (by simp)) (by omega)
    simp [g2, t1, t57, t58, t59, VM.look, b0, af]
    by_cases g3 : flitsOk w h l
    rotate_left
    · simp [g3]; exact bad (fun k => g3 k.2.2)
    simp [g3, t1, t57, t58, t59]
    refine ih (buf.length - (i + 1)) _ _ ⟨i + 1, rfl, by omega, by simp [t1], by simp [t57], by simp [t58], ?_, ch.trans cc, b0, fun j hj => ?_⟩ (by omega)
    · simp; rw [w64 (by omega) (by omega)]
    · by_cases hji : j < i
      · exact hk j hji
      · have : j = i := by omega
        subst this
        rw [hbg]; exact ⟨g1, hfl.1 g2, g3⟩
  · have : i = buf.length := by omega
    subst this
    clear ih
    have l8 := (o8.1.rd.chg ch (by simp)).1.len (P := Try.prog) (ty := 57) (by simp)
    simp only at l8
    simp [t1, t57, t58, t59, VM.look, b0, ones, l8, hl8]
    refine wp_inv (fun n t H2 => ∃ i : Nat, n = src.length - i ∧ i ≤ src.length ∧ t 1 = .pointer (some ⟨H.length, 0, some 0⟩) ∧ t 87 = u8 ∧ t 88 = .int .i64 src.length ∧ t 89 = .int .i64 i ∧ H2 = H' ∧ ∀ l ∈ src.take i, srcOk w h l) ?_ (n := src.length)
      ⟨0, rfl, by omega, by simp [t1], by simp, by simp, by simp, rfl, by simp⟩
    clear t1 t57 t58 t59
    rintro n t H2 ⟨i, rfl, hi, t1, t87, t88, t89, rfl, hk2⟩ ih
    simp [t1, t87, t88, t89]
    refine wp_dec ?_ ?_ <;> intro g
    · have hi' : i < src.length := by omega
      have rl := o8.1.rd.chg ch (by simp)
      obtain ⟨u, _, a2, a3, a4⟩ := RdL_at rl (ty := 57) (e := 123) (by simp) (by simp) hi'
      have hlen := o8.2.2 _ (List.getElem_mem hi')
      simp only at a2 a3 a4 hlen
      have lu := a4.len (P := Try.prog) (ty := 123) (by simp)
      have bad : ¬ srcOk w h src[i] → Y = false := fun hh => no' (fun k => hh (k.2.2.2.1 _ (List.getElem_mem hi')))
      have hst := fun {x} (hx : x ∈ src.take (i + 1)) => mem_take_succ hi' hx
      obtain ⟨l, hl⟩ : ∃ l, l = src[i] := ⟨_, rfl⟩
      rw [← hl] at a4 lu hlen bad hst
      simp [t1, t87, t88, t89, a2, a3, lu]
      by_cases g1 : l.length ≤ 60
      rotate_left
      · have g1' : (60 : Int) < l.length := by omega
        simp [g1']; exact bad (fun k => g1 k.1)
      have g1' : ¬ (60 : Int) < l.length := by omega
      have af := fun F => areFlits_c (frz := F) (H := H2) w h u l a4 (by omega)
      simp [g1', t1, t87, t88, t89, VM.look, b0, af]
      by_cases g3 : flitsOk w h l
      rotate_left
      · simp [g3]; exact bad (fun k => g3 k.2)
      simp [g3, t1, t87, t88, t89]
      refine ih (src.length - (i + 1)) _ _ ⟨i + 1, rfl, by omega, by simp [t1], by simp [t87], by simp [t88], ?_, rfl, fun x hx => ?_⟩ (by omega)
      · simp; rw [w64 (by omega) (by omega)]
      · rcases hst hx with hx | rfl
        · exact hk2 x hx
        · exact ⟨g1, g3⟩
    · have : i = src.length := by omega
      subst this
      rw [List.take_length] at hk2
      have ai := fun F => areInside_c (frz := F) (H := H2) u6 own (-1) 4 (Rd.isI (o6.1.rd.chg ch (by simp))) (by have := o6.2; omega)
      have ai2 := fun F => areInside_c (frz := F) (H := H2) u7 turn 0 9 (Rd.isI (o7.1.rd.chg ch (by simp))) (by have := o7.2; omega)
      have ai3 := fun F => inside_c (frz := F) (H := H2) tm 0 1000000
      have hiff : netOk ((w, h, b), (A, B), buf, own, turn, src, arr, tm) ↔ (∀ x ∈ own, inR (-1) x 4) ∧ (∀ x ∈ turn, inR 0 x 9) ∧ inR 0 tm 1000000 :=
        ⟨fun k => k.2.2.2.2, fun k => ⟨c1, hsz, hk, hk2, k⟩⟩
      have hY2 : Y = (decide (∀ x ∈ own, inR (-1) x 4) && decide (∀ x ∈ turn, inR 0 x 9) && decide (inR 0 tm 1000000)) := by
        rw [← hY, Bool.eq_iff_iff]; simp only [decide_eq_true_eq, Bool.and_eq_true, and_assoc]; exact hiff
      generalize decide (∀ x ∈ own, inR (-1) x 4) = P1 at *
      generalize decide (∀ x ∈ turn, inR 0 x 9) = P2 at *
      generalize decide (inR 0 tm 1000000) = P3 at *
      simp [t1, t87, t88, t89, VM.look, b0, ones, ai, ai2, ai3, hY2]
      cases P1 <;> cases P2 <;> cases P3 <;> simp [t1, VM.look, b0, ones, ai2, ai3]
theorem sNetOk_d {v : NetV} {x : NetD} (o : dNet.Ow H v x) : vcall C frz 66 [dNet.val v x] H = some (.bool (decide (netOk x)), H) := by
  have oo := dNet_one o
  obtain ⟨u2, ⟨u3, u4⟩, ⟨u5, h5⟩, u6, u7, ⟨u8, h8⟩, ⟨u9, h9⟩, _⟩ := v
  obtain ⟨⟨w, h, b⟩, ⟨A, B⟩, buf, own, turn, src, arr, tm⟩ := x
  obtain ⟨o2, o3, o5, o6, o7, o8, o9, _⟩ := o
  simp only at o2 o3 o5 o6 o7 o8 o9
  obtain ⟨p2, p3, p4, p5, p6, p7, p8, p9⟩ := oo
  simp only at p2 p3 p4 p5 p6 p7 p8 p9
  rw [dNet_val]
  refine wp.exact (by simp) ?_ rfl
  rw [vcall_go (fn := Try.f66) Try.func66 rfl (by kernel_rfl) rfl]
  generalize hY : decide (netOk ((w, h, b), (A, B), buf, own, turn, src, arr, tm)) = Y
  obtain ⟨N, hN⟩ : ∃ N : Nat, cnt w h = N := ⟨(cnt w h).toNat, by have := cnt_range w h; omega⟩
  have hN2 : N ≤ 16 := by have := cnt_range w h; omega
  have w10 : ∀ [Inhabited Unit], IntKind.i64.wrap (10 * (N : Int)) = 10 * (N : Int) := by intro _; exact w64 (by omega) (by omega)
  have w5 : ∀ [Inhabited Unit], IntKind.i64.wrap (5 * (N : Int)) = 5 * (N : Int) := by intro _; exact w64 (by omega) (by omega)
  have cok := fun F L => sClassesOk_c (frz := F) (H := H ++ L) w h u2 u3 u4 b A B (Rd.isI o2.1.rd.app) (Rd.isI o3.1.1.rd.app) (Rd.isI o3.2.1.rd.app) o2.2
  have ln5 := fun (L : Heap) => (RdL.app (L := L) o5.1.rd).1.len (P := Try.prog) (ty := 57) (by simp)
  have ln8 := fun (L : Heap) => (RdL.app (L := L) o8.1.rd).1.len (P := Try.prog) (ty := 57) (by simp)
  have ln9 := fun (L : Heap) => (RdL.app (L := L) o9.1.rd).1.len (P := Try.prog) (ty := 57) (by simp)
  have ln6 := fun (L : Heap) => (Rd.app (L := L) o6.1.rd).len (P := Try.prog) (ty := 24) (by simp)
  have ln7 := fun (L : Heap) => (Rd.app (L := L) o7.1.rd).len (P := Try.prog) (ty := 24) (by simp)
  have hl5 := o5.1.rd.2.1
  have hl8 := o8.1.rd.2.1
  have hl9 := o9.1.rd.2.1
  have hb5 := o5.2.1
  have hb8 := o8.2.1
  simp only at ln5 ln8 ln9 ln6 ln7 hl5 hl8 hl9 hb5 hb8
  have no : ¬ netOk ((w, h, b), (A, B), buf, own, turn, src, arr, tm) → false = Y := fun hh => by rw [← hY]; exact (decide_eq_false hh).symm
  have no' : ¬ netOk ((w, h, b), (A, B), buf, own, turn, src, arr, tm) → Y = false := fun hh => (no hh).symm
  have ones := And.intro p2 (And.intro p3 (And.intro p4 (And.intro p5 (And.intro p6 (And.intro p7 (And.intro p8 p9))))))
  simp [ones, sNodeCount_c, hN, cok, w10, w5]
  by_cases c1 : classesOk w h b A B
  rotate_left
  · simp [c1]; exact no' (fun k => c1 k.1)
  by_cases c2 : (buf.length : Int) = 10 * N
  rotate_left
  · simp [c1, c2, ones, ln5, hl5, w10]; exact no' (fun k => c2 (by have := k.2.1.1; simp only [hN] at this; exact this))
  by_cases c3 : (own.length : Int) = 10 * N
  rotate_left
  · simp [c1, c2, c3, ones, ln5, hl5, ln6, w10]; exact no' (fun k => c3 (by have := k.2.1.2.1; simp only [hN] at this; exact this))
  by_cases c4 : (turn.length : Int) = 5 * N
  rotate_left
  · simp [c1, c2, c3, c4, ones, ln5, hl5, ln6, ln7, w10, w5]; exact no' (fun k => c4 (by have := k.2.1.2.2.1; simp only [hN] at this; exact this))
  by_cases c5 : (src.length : Int) = N
  rotate_left
  · simp [c1, c2, c3, c4, c5, ones, ln5, hl5, ln6, ln7, ln8, hl8, w10, w5]; exact no' (fun k => c5 (by have := k.2.1.2.2.2.1; simp only [hN] at this; exact this))
  by_cases c6 : (arr.length : Int) = N
  rotate_left
  · simp [c1, c2, c3, c4, c5, c6, ones, ln5, hl5, ln6, ln7, ln8, hl8, ln9, hl9, w10, w5]; exact no' (fun k => c6 (by have := k.2.1.2.2.2.2; simp only [hN] at this; exact this))
  by_cases c7 : inR 0 tm 1000000
  rotate_left
  · simp [c1, c2, c3, c4, c5, c6, c7, l01In_c, ones, ln5, hl5, ln6, ln7, ln8, hl8, ln9, hl9, w10, w5]; exact no' (fun k => c7 k.2.2.2.2.2.2)
  have hsz : sizesOk ((w, h, b), (A, B), buf, own, turn, src, arr, tm) := by unfold sizesOk; simp only [hN]; exact ⟨c2, c3, c4, c5, c6⟩
  simp [c1, c2, c3, c4, c5, c6, c7, l01In_c, ones, ln5, hl5, ln6, ln7, ln8, hl8, ln9, hl9, w10, w5]
  have hbl : buf.length = 10 * N := by omega
  have hol : own.length = 10 * N := by omega
  have htl : turn.length = 5 * N := by omega
  have hsl : src.length = N := by omega
  obtain ⟨G, hG⟩ : ∃ G, G = H ++ [⟨[.int .i64 w, .int .i64 h, u2, u3, u4, u5, u6, u7, u8, u9, .int .i64 tm], 0, 59⟩] := ⟨_, rfl⟩
  rw [← hG]
  have b0 : G[H.length]? = some ⟨[.int .i64 w, .int .i64 h, u2, u3, u4, u5, u6, u7, u8, u9, .int .i64 tm], 0, 59⟩ := by rw [hG]; simp
  have ch : Chg H G [] := by rw [hG]; exact Chg.app _
  clear hG
  have i6 : IsI G u6 own := Rd.isI (o6.1.rd.chg ch (by simp))
  have i7 : IsI G u7 turn := Rd.isI (o7.1.rd.chg ch (by simp))
  refine wp_inv (fun n t H' => ∃ i : Nat, n = 10 * N - i ∧ i ≤ 10 * N ∧ t 1 = .pointer (some ⟨H.length, 0, some 0⟩) ∧ t 3 = .int .i64 N ∧ t 4 = .int .i64 i ∧ H' = G ∧
      ∀ j, j < i → bufOk w h (buf.getD j []) ((j : Int) % 2) ∧ inR (-1) (own.getD j 0) 4) ?_ (n := 10 * N)
    ⟨0, rfl, by omega, by simp, by simp, by simp, rfl, by omega⟩
  rintro n t H' ⟨i, rfl, hi, t1, t3, t4, rfl, hk⟩ ih
  simp [t1, t3, t4, w10]
  refine wp_dec ?_ ?_ <;> intro g
  · have hi' : i < buf.length := by omega
    have hio : i < own.length := by omega
    have rl := o5.1.rd.chg ch (by simp)
    obtain ⟨u, _, a2, a3, a4⟩ := RdL_at rl (ty := 57) (e := 123) (by simp) (by simp) hi'
    have hlen := o5.2.2 _ (List.getElem_mem hi')
    simp only at a2 a3 a4 hlen
    have lu := a4.len (P := Try.prog) (ty := 123) (by simp)
    have hbg : buf.getD i [] = buf[i] := getD_at hi'
    have bad : ¬ bufOk w h buf[i] ((i : Int) % 2) → Y = false := fun hh => no' (fun k => hh (by have := k.2.2.1 i hi'; simp only [hbg] at this; exact this))
    obtain ⟨l, hl⟩ : ∃ l, l = buf[i] := ⟨_, rfl⟩
    rw [← hl] at a4 lu hlen bad hbg
    have q1 := i6.idx (P := Try.prog) (ty := 24) (e := 3) (by simp) (i := (i : Int)) (by omega) (by omega)
    have q2 := i6.load (P := Try.prog) (e := 3) (by simp) hio
    simp only [Int.toNat_natCast, getD_at hio] at q1 q2
    simp [t1, t3, t4, VM.look, b0, ones, a2, a3, lu]
    by_cases g1 : l.length ≤ 3
    rotate_left
    · have g1' : (3 : Int) < l.length := by omega
      simp [g1']; exact bad (fun k => g1 k.1)
    have g1' : ¬ (3 : Int) < l.length := by omega
    have af := fun F => l15Flits_c (frz := F) (H := H') w h u l a4 (by omega)
    simp [g1', t1, t3, t4, VM.look, b0, ones, af]
    by_cases g3 : flitsOk w h l
    rotate_left
    · simp [g3]; exact bad (fun k => g3 k.2.2)
    simp [g3, t1, t3, t4, VM.look, b0, ones, q1, q2, l01In_c]
    by_cases g4 : inR (-1) own[i] 4
    rotate_left
    · simp [g4]; exact no' (fun k => g4 (k.2.2.2.2.1 _ (List.getElem_mem hio)))
    simp [g4, t1, t3, t4]
    refine wp_inv (fun n t H2 => ∃ c : Nat, n = l.length - c ∧ c ≤ l.length ∧ t 1 = .pointer (some ⟨H.length, 0, some 0⟩) ∧ t 3 = .int .i64 N ∧ t 4 = .int .i64 i ∧ t 5 = u ∧ t 6 = .int .i64 c ∧ H2 = H' ∧ ∀ f ∈ l.take c, f.2.2.1 = (i : Int) % 2) ?_ (n := l.length)
      ⟨0, rfl, by omega, by simp [t1], by simp [t3], by simp [t4], by simp, by simp, rfl, by simp⟩
    clear t1 t3 t4
    rintro n t H2 ⟨c, rfl, hc, t1, t3, t4, t5, t6, rfl, hk3⟩ ih2
    simp [t1, t3, t4, t5, t6, lu]
    refine wp_dec ?_ ?_ <;> intro g5
    · have hc' : c < l.length := by omega
      have r1 := a4.idx (P := Try.prog) (ty := 123) (e := 134) (by simp) (i := (c : Int)) (by omega) (by omega)
      have r2 := a4.cell (P := Try.prog) (e := 3) (by simp) hc' (c := 2) (by decide)
      have r3 := a4.field (P := Try.prog) (s := 134) (f := 2) (o := 2) (n := 1) (ag := false) (by simp) (j := c * 5) (by omega)
      simp only [Int.toNat_natCast, flF_n, flF_f] at r1 r2
      simp at r2
      simp [-vfieldAddr, vfa_ptr, t1, t3, t4, t5, t6, r1, r2, r3, tmod2]
      refine wp_dec ?_ ?_ <;> intro g6
      · simp [t1, t3, t4, t5, t6]
        refine ih2 (l.length - (c + 1)) _ _ ⟨c + 1, rfl, by omega, by simp [t1], by simp [t3], by simp [t4], by simp [t5], ?_, rfl, fun f hf => ?_⟩ (by omega)
        · simp; rw [w64 (by omega) (by omega)]
        · rcases mem_take_succ hc' hf with hf | rfl
          · exact hk3 f hf
          · exact g6
      · simp [t1, t3, t4, t5, t6]
        exact bad (fun k => g6 (k.2.1 _ (List.getElem_mem hc')))
    · have : c = l.length := by omega
      subst this
      rw [List.take_length] at hk3
      simp [t1, t3, t4, t5, t6]
      refine ih (10 * N - (i + 1)) _ _ ⟨i + 1, rfl, by omega, by simp [t1], by simp [t3], ?_, rfl, fun j hj => ?_⟩ (by omega)
      · simp; rw [w64 (by omega) (by omega)]
      · by_cases hji : j < i
        · exact hk j hji
        · have : j = i := by omega
          subst this
          rw [hbg, getD_at hio]; exact ⟨⟨g1, hk3, g3⟩, g4⟩
  · have : i = 10 * N := by omega
    subst this
    clear ih
    simp [t1, t3, t4]
    refine wp_inv (fun n t H2 => ∃ i : Nat, n = 5 * N - i ∧ i ≤ 5 * N ∧ t 1 = .pointer (some ⟨H.length, 0, some 0⟩) ∧ t 3 = .int .i64 N ∧ t 7 = .int .i64 i ∧ H2 = H' ∧ ∀ x ∈ turn.take i, inR 0 x 9) ?_ (n := 5 * N)
      ⟨0, rfl, by omega, by simp [t1], by simp [t3], by simp, rfl, by simp⟩
    clear t1 t3 t4
    rintro n t H2 ⟨i, rfl, hi, t1, t3, t7, rfl, hk2⟩ ih
    simp [t1, t3, t7, w5]
    refine wp_dec ?_ ?_ <;> intro g
    · have hit : i < turn.length := by omega
      have q1 := i7.idx (P := Try.prog) (ty := 24) (e := 3) (by simp) (i := (i : Int)) (by omega) (by omega)
      have q2 := i7.load (P := Try.prog) (e := 3) (by simp) hit
      simp only [Int.toNat_natCast, getD_at hit] at q1 q2
      simp [t1, t3, t7, VM.look, b0, ones, q1, q2, l01In_c]
      by_cases g4 : inR 0 turn[i] 9
      rotate_left
      · simp [g4]; exact no' (fun k => g4 (k.2.2.2.2.2.1 _ (List.getElem_mem hit)))
      simp [g4, t1, t3, t7]
      refine ih (5 * N - (i + 1)) _ _ ⟨i + 1, rfl, by omega, by simp [t1], by simp [t3], ?_, rfl, fun x hx => ?_⟩ (by omega)
      · simp; rw [w64 (by omega) (by omega)]
      · rcases mem_take_succ hit hx with hx | rfl
        · exact hk2 x hx
        · exact g4
    · have : i = 5 * N := by omega
      subst this
      clear ih
      simp [t1, t3, t7]
      refine wp_inv (fun n t H' => ∃ i : Nat, n = N - i ∧ i ≤ N ∧ t 1 = .pointer (some ⟨H.length, 0, some 0⟩) ∧ t 3 = .int .i64 N ∧ t 8 = .int .i64 i ∧ H' = H2 ∧ ∀ l ∈ src.take i, srcOk w h l) ?_ (n := N)
        ⟨0, rfl, by omega, by simp [t1], by simp [t3], by simp, rfl, by simp⟩
      clear t1 t3 t7
      rintro n t H' ⟨i, rfl, hi, t1, t3, t8, rfl, hk4⟩ ih
      simp [t1, t3, t8]
      refine wp_dec ?_ ?_ <;> intro g
      · have hi' : i < src.length := by omega
        have rl := o8.1.rd.chg ch (by simp)
        obtain ⟨u, _, a2, a3, a4⟩ := RdL_at rl (ty := 57) (e := 123) (by simp) (by simp) hi'
        have hlen := o8.2.2 _ (List.getElem_mem hi')
        simp only at a2 a3 a4 hlen
        have lu := a4.len (P := Try.prog) (ty := 123) (by simp)
        have bad : ¬ srcOk w h src[i] → Y = false := fun hh => no' (fun k => hh (k.2.2.2.1 _ (List.getElem_mem hi')))
        have hst := fun {x} (hx : x ∈ src.take (i + 1)) => mem_take_succ hi' hx
        obtain ⟨l, hl⟩ : ∃ l, l = src[i] := ⟨_, rfl⟩
        rw [← hl] at a4 lu hlen bad hst
        simp [t1, t3, t8]
        rw [go_draw (h := by kernel_rfl)]
        simp [t1, t3, t8, VM.look, b0, ones, a2, a3, lu]
        by_cases g1 : l.length ≤ 60
        rotate_left
        · have g1' : (60 : Int) < l.length := by omega
          simp [g1']; exact bad (fun k => g1 k.1)
        have g1' : ¬ (60 : Int) < l.length := by omega
        have af := fun F => l15Flits_c (frz := F) (H := H') w h u l a4 (by omega)
        simp [g1', t1, t3, t8, VM.look, b0, ones, a2, a3, af]
        by_cases g3 : flitsOk w h l
        rotate_left
        · simp [g3]; exact bad (fun k => g3 k.2)
        simp [g3, t1, t3, t8]
        refine ih (N - (i + 1)) _ _ ⟨i + 1, rfl, by omega, by simp [t1], by simp [t3], ?_, rfl, fun x hx => ?_⟩ (by omega)
        · simp; rw [w64 (by omega) (by omega)]
        · rcases hst hx with hx | rfl
          · exact hk4 x hx
          · exact ⟨g1, g3⟩
      · have : i = N := by omega
        subst this
        simp [t1, t3, t8]
        rw [← hsl, List.take_length] at hk4
        rw [← htl, List.take_length] at hk2
        rw [← hY]
        refine (decide_eq_true ⟨c1, hsz, fun j hj => (hk j (by simp only at hj; omega)).1, hk4, fun x hx => ?_, hk2, c7⟩)
        obtain ⟨j, hj, rfl⟩ := List.mem_iff_getElem.1 hx
        have := (hk j (by simp only at hj; omega)).2
        rw [getD_at hj] at this; exact this
end Go.Proofs.Ytcigpclbhfkgaaa.V
/-! Owners that are free. -/
set_option linter.all false
namespace Go.Proofs.Ytcigpclbhfkgaaa.V
open Go Go.VM Go.Proofs
set_option maxRecDepth 10000
variable {frz : Nat} {H : Heap}
def freeOk (x : NetD) : Prop := netOk x ∧ ∀ o ∈ x.2.2.2.1, inR (-1) o (-1)
instance (x : NetD) : Decidable (freeOk x) := inferInstanceAs (Decidable (_ ∧ _))
theorem allFree_d {v : NetV} {x : NetD} (o : dNet.Ow H v x) : vcall C frz 28 [dNet.val v x] H = some (.bool (decide (freeOk x)), H) := by
  have ones := dNet_one o
  have nk := fun F L => netOk_d (frz := F) (H := H ++ L) (v := v) (x := x) (Dt.app (T := dNet) o)
  obtain ⟨_, _, _, o6, _⟩ := o
  have ai := fun F L => areInside_c (frz := F) (H := H ++ L) v.2.2.2.1 x.2.2.2.1 (-1) (-1) (Rd.isI o6.1.rd.app) (by have := o6.2; omega)
  simp only [dNet_val] at nk ⊢
  refine wp.exact (by simp) ?_ rfl
  rw [vcall_go (fn := Try.f28) Try.func28 rfl (by kernel_rfl) rfl]
  have hY : decide (freeOk x) = (decide (netOk x) && decide (∀ o ∈ x.2.2.2.1, inR (-1) o (-1))) := by
    rw [Bool.eq_iff_iff]; simp only [decide_eq_true_eq, Bool.and_eq_true]; exact Iff.rfl
  generalize decide (freeOk x) = Y at *
  generalize decide (netOk x) = P1 at *
  generalize decide (∀ o ∈ x.2.2.2.1, inR (-1) o (-1)) = P2 at *
  simp [ones, nk]
  cases P1 <;> cases P2 <;> simp [ones, ai, hY]
theorem sAllFree_d {v : NetV} {x : NetD} (o : dNet.Ow H v x) : vcall C frz 26 [dNet.val v x] H = some (.bool (decide (freeOk x)), H) := by
  have ones := dNet_one o
  have nk := fun F L => sNetOk_d (frz := F) (H := H ++ L) (v := v) (x := x) (Dt.app (T := dNet) o)
  obtain ⟨_, _, _, o6, _⟩ := o
  have i6 := fun (L : Heap) => Rd.isI (Rd.app (L := L) o6.1.rd)
  have b6 := o6.2
  simp only [dNet_val] at nk ⊢
  refine wp.exact (by simp) ?_ rfl
  rw [vcall_go (fn := Try.f26) Try.func26 rfl (by kernel_rfl) rfl]
  generalize hY : decide (freeOk x) = Y
  simp [ones]
  obtain ⟨G, hG⟩ : ∃ G, G = H ++ [⟨[.int .i64 x.1.1, .int .i64 x.1.2.1, v.1, v.2.1.1, v.2.1.2, v.2.2.1.1, v.2.2.2.1, v.2.2.2.2.1, v.2.2.2.2.2.1.1, v.2.2.2.2.2.2.1.1, .int .i64 x.2.2.2.2.2.2.2], 0, 59⟩] := ⟨_, rfl⟩
  rw [← hG]
  have b0 : G[H.length]? = some ⟨[.int .i64 x.1.1, .int .i64 x.1.2.1, v.1, v.2.1.1, v.2.1.2, v.2.2.1.1, v.2.2.2.1, v.2.2.2.2.1, v.2.2.2.2.2.1.1, v.2.2.2.2.2.2.1.1, .int .i64 x.2.2.2.2.2.2.2], 0, 59⟩ := by rw [hG]; simp
  have nk := fun F => nk F [⟨[.int .i64 x.1.1, .int .i64 x.1.2.1, v.1, v.2.1.1, v.2.1.2, v.2.2.1.1, v.2.2.2.1, v.2.2.2.2.1, v.2.2.2.2.2.1.1, v.2.2.2.2.2.2.1.1, .int .i64 x.2.2.2.2.2.2.2], 0, 59⟩]
  have i6 := i6 [⟨[.int .i64 x.1.1, .int .i64 x.1.2.1, v.1, v.2.1.1, v.2.1.2, v.2.2.1.1, v.2.2.2.1, v.2.2.2.2.1, v.2.2.2.2.2.1.1, v.2.2.2.2.2.2.1.1, .int .i64 x.2.2.2.2.2.2.2], 0, 59⟩]
  rw [← hG] at i6
  rw [← hG] at nk
  clear hG
  have no : ¬ freeOk x → Y = false := fun hh => by rw [← hY]; exact decide_eq_false hh
  refine wp_inv (fun n t H' => ∃ i : Nat, n = x.2.2.2.1.length - i ∧ i ≤ x.2.2.2.1.length ∧ t 1 = .pointer (some ⟨H.length, 0, some 0⟩) ∧ t 3 = .int .i64 i ∧ H' = G ∧ ∀ o ∈ x.2.2.2.1.take i, inR (-1) o (-1)) ?_ (n := x.2.2.2.1.length)
    ⟨0, rfl, by omega, by simp, by simp, rfl, by simp⟩
  rintro n t H' ⟨i, rfl, hi, t1, t3, rfl, hk⟩ ih
  simp [t1, t3, VM.look, b0, ones, i6.len]
  refine wp_dec ?_ ?_ <;> intro g
  · have hi' : i < x.2.2.2.1.length := by omega
    have q1 := i6.idx (P := Try.prog) (ty := 24) (e := 3) (by simp) (i := (i : Int)) (by omega) (by omega)
    have q2 := i6.load (P := Try.prog) (e := 3) (by simp) hi'
    simp only [Int.toNat_natCast, getD_at hi'] at q1 q2
    simp [t1, t3, VM.look, b0, ones, q1, q2]
    refine wp_dec ?_ ?_ <;> intro g4
    · simp [t1, t3]
      refine ih (x.2.2.2.1.length - (i + 1)) _ _ ⟨i + 1, rfl, by omega, by simp [t1], ?_, rfl, fun y hy => ?_⟩ (by omega)
      · simp; rw [w64 (by omega) (by omega)]
      · rcases mem_take_succ hi' hy with hy | rfl
        · exact hk y hy
        · rw [g4]; exact ⟨by omega, by omega⟩
    · simp [t1, t3]
      exact no (fun k => g4 (by have := k.2 _ (List.getElem_mem hi'); unfold inR at this; omega))
  · have : i = x.2.2.2.1.length := by omega
    subst this
    rw [List.take_length] at hk
    simp [t1, t3, VM.look, b0, ones, nk]
    rw [← hY]
    by_cases g5 : netOk x
    · rw [decide_eq_true g5]; exact (decide_eq_true ⟨g5, hk⟩).symm
    · rw [decide_eq_false g5]; exact (decide_eq_false (fun k => g5 k.1)).symm
end Go.Proofs.Ytcigpclbhfkgaaa.V
/-! The law FnExactAllOwnersFree. -/
set_option linter.all false
namespace Go.Proofs.Ytcigpclbhfkgaaa.V
open Go Go.VM Go.Proofs
set_option maxRecDepth 10000
variable {frz : Nat} {H : Heap}
theorem law_FnExactAllOwnersFree_w {a0_0 : Int} {a0_1 : Int} {a0_2 : List (Int)} {u0_2 : Value} {a0_3 : List (Int)} {u0_3 : Value} {a0_4 : List (Int)} {u0_4 : Value} {a0_5 : List (List (Int × Int × Int × Bool × Bool))} {u0_5 : Value} {a0_6 : List (Int)} {u0_6 : Value} {a0_7 : List (Int)} {u0_7 : Value} {a0_8 : List (List (Int × Int × Int × Bool × Bool))} {u0_8 : Value} {a0_9 : List (List (Int × Int × Int × Bool × Bool))} {u0_9 : Value} {a0_10 : Int} (s0_2 : IsS (Kn.int .i64) H u0_2 a0_2) (s0_3 : IsS (Kn.int .i64) H u0_3 a0_3) (s0_4 : IsS (Kn.int .i64) H u0_4 a0_4) (s0_5 : IsS (Kn.slice (Kn.pair (Kn.int .i64) (Kn.pair (Kn.int .i64) (Kn.pair (Kn.int .i64) (Kn.pair Kn.bool Kn.bool))))) H u0_5 a0_5) (s0_6 : IsS (Kn.int .i64) H u0_6 a0_6) (s0_7 : IsS (Kn.int .i64) H u0_7 a0_7) (s0_8 : IsS (Kn.slice (Kn.pair (Kn.int .i64) (Kn.pair (Kn.int .i64) (Kn.pair (Kn.int .i64) (Kn.pair Kn.bool Kn.bool))))) H u0_8 a0_8) (s0_9 : IsS (Kn.slice (Kn.pair (Kn.int .i64) (Kn.pair (Kn.int .i64) (Kn.pair (Kn.int .i64) (Kn.pair Kn.bool Kn.bool))))) H u0_9 a0_9)
    (w0 : ((((Lit.int .i64 a0_0).wf = true) ∧ ((Lit.int .i64 a0_1).wf = true)) ∧ (a0_2.length ≤ maxLen ∧ ∀ x1 ∈ a0_2, (Lit.int .i64 x1).wf = true)) ∧ (((a0_3.length ≤ maxLen ∧ ∀ x2 ∈ a0_3, (Lit.int .i64 x2).wf = true)) ∧ ((a0_4.length ≤ maxLen ∧ ∀ x3 ∈ a0_4, (Lit.int .i64 x3).wf = true))) ∧ (a0_5.length ≤ maxLen ∧ ∀ x4 ∈ a0_5, x4.length ≤ maxLen ∧ ∀ x5 ∈ x4, ((Lit.int .i64 x5.1).wf = true) ∧ ((Lit.int .i64 x5.2.1).wf = true) ∧ ((Lit.int .i64 x5.2.2.1).wf = true) ∧ (True) ∧ (True)) ∧ (a0_6.length ≤ maxLen ∧ ∀ x6 ∈ a0_6, (Lit.int .i64 x6).wf = true) ∧ (a0_7.length ≤ maxLen ∧ ∀ x7 ∈ a0_7, (Lit.int .i64 x7).wf = true) ∧ (a0_8.length ≤ maxLen ∧ ∀ x8 ∈ a0_8, x8.length ≤ maxLen ∧ ∀ x9 ∈ x8, ((Lit.int .i64 x9.1).wf = true) ∧ ((Lit.int .i64 x9.2.1).wf = true) ∧ ((Lit.int .i64 x9.2.2.1).wf = true) ∧ (True) ∧ (True)) ∧ (a0_9.length ≤ maxLen ∧ ∀ x10 ∈ a0_9, x10.length ≤ maxLen ∧ ∀ x11 ∈ x10, ((Lit.int .i64 x11.1).wf = true) ∧ ((Lit.int .i64 x11.2.1).wf = true) ∧ ((Lit.int .i64 x11.2.2.1).wf = true) ∧ (True) ∧ (True)) ∧ ((Lit.int .i64 a0_10).wf = true)) :
    wp (vcall C frz 5 [.agg #[.int .i64 a0_0, .int .i64 a0_1, u0_2, u0_3, u0_4, u0_5, u0_6, u0_7, u0_8, u0_9, .int .i64 a0_10]] H) (fun r _ => r = .bool true) := by
  have r0_2 := s0_2.ints.rd
  have r0_3 := s0_3.ints.rd
  have r0_4 := s0_4.ints.rd
  obtain ⟨h0_5, r0_5⟩ := IsS.rdL_of (fun hh => IsS.rd_of rfl knF_is hh) s0_5
  have r0_6 := s0_6.ints.rd
  have r0_7 := s0_7.ints.rd
  obtain ⟨h0_8, r0_8⟩ := IsS.rdL_of (fun hh => IsS.rd_of rfl knF_is hh) s0_8
  obtain ⟨h0_9, r0_9⟩ := IsS.rdL_of (fun hh => IsS.rd_of rfl knF_is hh) s0_9
  have rl0_2 := fun (L : Heap) => (Rd.app (L := L) r0_2).len (P := Try.prog) (ty := 24) (by simp)
  have rm0_2 := r0_2.len (P := Try.prog) (ty := 24) (by simp)
  have rl0_3 := fun (L : Heap) => (Rd.app (L := L) r0_3).len (P := Try.prog) (ty := 24) (by simp)
  have rm0_3 := r0_3.len (P := Try.prog) (ty := 24) (by simp)
  have rl0_4 := fun (L : Heap) => (Rd.app (L := L) r0_4).len (P := Try.prog) (ty := 24) (by simp)
  have rm0_4 := r0_4.len (P := Try.prog) (ty := 24) (by simp)
  have rl0_6 := fun (L : Heap) => (Rd.app (L := L) r0_6).len (P := Try.prog) (ty := 24) (by simp)
  have rm0_6 := r0_6.len (P := Try.prog) (ty := 24) (by simp)
  have rl0_7 := fun (L : Heap) => (Rd.app (L := L) r0_7).len (P := Try.prog) (ty := 24) (by simp)
  have rm0_7 := r0_7.len (P := Try.prog) (ty := 24) (by simp)
  rw [vcall_go (fn := Try.f5) Try.func5 rfl (by kernel_rfl) rfl]
  have ro0_2 := And.intro r0_2.one' r0_2.cells
  have ro0_3 := And.intro r0_3.one' r0_3.cells
  have ro0_4 := And.intro r0_4.one' r0_4.cells
  have ro0_5 := And.intro r0_5.1.one' r0_5.1.cells
  have ro0_6 := And.intro r0_6.one' r0_6.cells
  have ro0_7 := And.intro r0_7.one' r0_7.cells
  have ro0_8 := And.intro r0_8.1.one' r0_8.1.cells
  have ro0_9 := And.intro r0_9.1.one' r0_9.1.cells
  simp [VM.look, ro0_2, rl0_2, rm0_2, ro0_3, rl0_3, rm0_3, ro0_4, rl0_4, rm0_4, ro0_5, ro0_6, rl0_6, rm0_6, ro0_7, rl0_7, rm0_7, ro0_8, ro0_9]
  have sz0 := fun F (L : Heap) => szNet_c (frz := F) (H := H ++ L) a0_0 a0_1 a0_10 1048576 u0_2 u0_3 u0_4 u0_5 u0_6 u0_7 u0_8 u0_9 h0_5 h0_8 h0_9 a0_2 a0_3 a0_4 a0_6 a0_7 a0_5 a0_8 a0_9 (IsI.rd (Rd.isI (Rd.chg r0_2 ((Chg.refl (H := H) []).trans (Chg.app [])) (by simp)))) (IsI.rd (Rd.isI (Rd.chg r0_3 ((Chg.refl (H := H) []).trans (Chg.app [])) (by simp)))) (IsI.rd (Rd.isI (Rd.chg r0_4 ((Chg.refl (H := H) []).trans (Chg.app [])) (by simp)))) (RdL.chg r0_5 ((Chg.refl (H := H) []).trans (Chg.app [])) (by simp)) (IsI.rd (Rd.isI (Rd.chg r0_6 ((Chg.refl (H := H) []).trans (Chg.app [])) (by simp)))) (IsI.rd (Rd.isI (Rd.chg r0_7 ((Chg.refl (H := H) []).trans (Chg.app [])) (by simp)))) (RdL.chg r0_8 ((Chg.refl (H := H) []).trans (Chg.app [])) (by simp)) (RdL.chg r0_9 ((Chg.refl (H := H) []).trans (Chg.app [])) (by simp)) (by have := w0.1.2.1; simpa [maxLen] using this) (by have := w0.2.1.1.1; simpa [maxLen] using this) (by have := w0.2.1.2.1; simpa [maxLen] using this) (by have := w0.2.2.1.1; simpa [maxLen] using this) (fun x hx => by have := (w0.2.2.1.2 x hx).1; simpa [maxLen] using this) (by have := w0.2.2.2.1.1; simpa [maxLen] using this) (by have := w0.2.2.2.2.1.1; simpa [maxLen] using this) (by have := w0.2.2.2.2.2.1.1; simpa [maxLen] using this) (fun x hx => by have := (w0.2.2.2.2.2.1.2 x hx).1; simpa [maxLen] using this) (by have := w0.2.2.2.2.2.2.1.1; simpa [maxLen] using this) (fun x hx => by have := (w0.2.2.2.2.2.2.1.2 x hx).1; simpa [maxLen] using this) (by omega) (by omega)
  simp [VM.look, ro0_2, rl0_2, rm0_2, ro0_3, rl0_3, rm0_3, ro0_4, rl0_4, rm0_4, ro0_5, ro0_6, rl0_6, rm0_6, ro0_7, rl0_7, rm0_7, ro0_8, ro0_9, sz0]
  refine wp_dec ?_ ?_ <;> intro g1 <;> simp [g1]
  have t0 : (a0_2.length : Int) + ((a0_3.length : Int) + (a0_4.length : Int)) + (tot a0_5 : Int) + (a0_6.length : Int) + (a0_7.length : Int) + (tot a0_8 : Int) + (tot a0_9 : Int) ≤ 1048576 := by split at g1 <;> omega
  have f0 : ¬ (1048576 : Int) < (a0_2.length : Int) + ((a0_3.length : Int) + (a0_4.length : Int)) + (tot a0_5 : Int) + (a0_6.length : Int) + (a0_7.length : Int) + (tot a0_8 : Int) + (tot a0_9 : Int) := by omega
  simp only [if_neg f0]
  try simp [VM.look, ro0_2, rl0_2, rm0_2, ro0_3, rl0_3, rm0_3, ro0_4, rl0_4, rm0_4, ro0_5, ro0_6, rl0_6, rm0_6, ro0_7, rl0_7, rm0_7, ro0_8, ro0_9, f0]
  refine wp_thn (toNet_w a0_0 a0_1 a0_10 u0_2 u0_3 u0_4 u0_5 u0_6 u0_7 u0_8 u0_9 h0_5 h0_8 h0_9 a0_2 a0_3 a0_4 a0_6 a0_7 a0_5 a0_8 a0_9 (IsI.rd (Rd.isI (Rd.chg r0_2 ((Chg.refl (H := H) []).trans (Chg.app [])) (by simp)))) (IsI.rd (Rd.isI (Rd.chg r0_3 ((Chg.refl (H := H) []).trans (Chg.app [])) (by simp)))) (IsI.rd (Rd.isI (Rd.chg r0_4 ((Chg.refl (H := H) []).trans (Chg.app [])) (by simp)))) (RdL.chg r0_5 ((Chg.refl (H := H) []).trans (Chg.app [])) (by simp)) (IsI.rd (Rd.isI (Rd.chg r0_6 ((Chg.refl (H := H) []).trans (Chg.app [])) (by simp)))) (IsI.rd (Rd.isI (Rd.chg r0_7 ((Chg.refl (H := H) []).trans (Chg.app [])) (by simp)))) (RdL.chg r0_8 ((Chg.refl (H := H) []).trans (Chg.app [])) (by simp)) (RdL.chg r0_9 ((Chg.refl (H := H) []).trans (Chg.app [])) (by simp)) (by omega) (by omega) (by omega) (by have := tot_len a0_5; omega) (fun x hx => by have := tot_in a0_5 x hx; omega) (by omega) (by omega) (by have := tot_len a0_8; omega) (fun x hx => by have := tot_in a0_8 x hx; omega) (by have := tot_len a0_9; omega) (fun x hx => by have := tot_in a0_9 x hx; omega)) ?_
  rintro _ H1 ⟨v_x0, rfl, o_x0, c1, n_x0, d_x0⟩
  have l1 := c1.1
  try simp at l1
  have b1_1 := box_chg ((app_get0 _ _).trans rfl) c1 (by simp)
  have cH1 : Chg H H1 [] := ((Chg.refl (H := H) []).trans (Chg.app [])).trans c1
  have h_x0 := dNet.lt o_x0
  try simp at n_x0
  have one_x0 := dNet_one o_x0
  simp [VM.look, b1_1, get_app' b1_1, cH1.1, Nat.le_add_right_of_le cH1.1, one_x0, ro0_2, ro0_3, ro0_4, ro0_5, ro0_6, ro0_7, ro0_8, ro0_9, dNet_val, f0]
  have ex2 := fun F => sAllFree_d (frz := F) o_x0
  try simp only [dNet_val] at ex2
  simp [VM.look, b1_1, get_app' b1_1, cH1.1, Nat.le_add_right_of_le cH1.1, one_x0, ro0_2, ro0_3, ro0_4, ro0_5, ro0_6, ro0_7, ro0_8, ro0_9, dNet_val, ex2, f0]
  refine wp_thn (toNet_w a0_0 a0_1 a0_10 u0_2 u0_3 u0_4 u0_5 u0_6 u0_7 u0_8 u0_9 h0_5 h0_8 h0_9 a0_2 a0_3 a0_4 a0_6 a0_7 a0_5 a0_8 a0_9 (IsI.rd (Rd.isI (Rd.chg r0_2 cH1 (by simp)))) (IsI.rd (Rd.isI (Rd.chg r0_3 cH1 (by simp)))) (IsI.rd (Rd.isI (Rd.chg r0_4 cH1 (by simp)))) (RdL.chg r0_5 cH1 (by simp)) (IsI.rd (Rd.isI (Rd.chg r0_6 cH1 (by simp)))) (IsI.rd (Rd.isI (Rd.chg r0_7 cH1 (by simp)))) (RdL.chg r0_8 cH1 (by simp)) (RdL.chg r0_9 cH1 (by simp)) (by omega) (by omega) (by omega) (by have := tot_len a0_5; omega) (fun x hx => by have := tot_in a0_5 x hx; omega) (by omega) (by omega) (by have := tot_len a0_8; omega) (fun x hx => by have := tot_in a0_8 x hx; omega) (by have := tot_len a0_9; omega) (fun x hx => by have := tot_in a0_9 x hx; omega)) ?_
  rintro _ H3 ⟨v_x1, rfl, o_x1, c3, n_x1, d_x1⟩
  have l3 := c3.1
  try simp at l3
  have b3_1 := box_chg b1_1 c3 (by simp)
  have o3_x0 := Dt.chg0 o_x0 c3
  have cH3 : Chg H H3 [] := (cH1).trans c3
  have h_x1 := dNet.lt o_x1
  try simp at n_x1
  have one_x1 := dNet_one o_x1
  simp [VM.look, b3_1, get_app' b3_1, cH3.1, Nat.le_add_right_of_le cH3.1, one_x0, one_x1, ro0_2, ro0_3, ro0_4, ro0_5, ro0_6, ro0_7, ro0_8, ro0_9, dNet_val, f0]
  have ex4 := fun F (L : Heap) => allFree_d (frz := F) (H := H3 ++ L) (Dt.app o_x1)
  try simp only [dNet_val] at ex4
  simp [VM.look, b3_1, get_app' b3_1, cH3.1, Nat.le_add_right_of_le cH3.1, one_x0, one_x1, ro0_2, ro0_3, ro0_4, ro0_5, ro0_6, ro0_7, ro0_8, ro0_9, dNet_val, ex4, f0]
  rw [go_draw (h := by kernel_rfl)]
  simp [VM.look, b3_1, get_app' b3_1, cH3.1, Nat.le_add_right_of_le cH3.1, one_x0, one_x1, ro0_2, ro0_3, ro0_4, ro0_5, ro0_6, ro0_7, ro0_8, ro0_9, dNet_val, f0]
  refine wp_thn (toNet_w a0_0 a0_1 a0_10 u0_2 u0_3 u0_4 u0_5 u0_6 u0_7 u0_8 u0_9 h0_5 h0_8 h0_9 a0_2 a0_3 a0_4 a0_6 a0_7 a0_5 a0_8 a0_9 (IsI.rd (Rd.isI (Rd.chg r0_2 (cH3.trans (Chg.app [])) (by simp)))) (IsI.rd (Rd.isI (Rd.chg r0_3 (cH3.trans (Chg.app [])) (by simp)))) (IsI.rd (Rd.isI (Rd.chg r0_4 (cH3.trans (Chg.app [])) (by simp)))) (RdL.chg r0_5 (cH3.trans (Chg.app [])) (by simp)) (IsI.rd (Rd.isI (Rd.chg r0_6 (cH3.trans (Chg.app [])) (by simp)))) (IsI.rd (Rd.isI (Rd.chg r0_7 (cH3.trans (Chg.app [])) (by simp)))) (RdL.chg r0_8 (cH3.trans (Chg.app [])) (by simp)) (RdL.chg r0_9 (cH3.trans (Chg.app [])) (by simp)) (by omega) (by omega) (by omega) (by have := tot_len a0_5; omega) (fun x hx => by have := tot_in a0_5 x hx; omega) (by omega) (by omega) (by have := tot_len a0_8; omega) (fun x hx => by have := tot_in a0_8 x hx; omega) (by have := tot_len a0_9; omega) (fun x hx => by have := tot_in a0_9 x hx; omega)) ?_
  rintro _ H5 ⟨v_x2, rfl, o_x2, c5, n_x2, d_x2⟩
  have l5 := c5.1
  try simp at l5
  have b5_5 := box_chg ((app_get0 _ _).trans rfl) c5 (by simp)
  have b5_1 := box_chg (get_app' b3_1 _) c5 (by simp)
  have o5_x0 := Dt.chg0 (Dt.app o3_x0) c5
  have o5_x1 := Dt.chg0 (Dt.app o_x1) c5
  have cH5 : Chg H H5 [] := (cH3.trans (Chg.app [])).trans c5
  have h_x2 := dNet.lt o_x2
  try simp at n_x2
  have one_x2 := dNet_one o_x2
  simp [VM.look, b5_1, b5_5, get_app' b5_1, get_app' b5_5, cH5.1, Nat.le_add_right_of_le cH5.1, one_x0, one_x1, one_x2, ro0_2, ro0_3, ro0_4, ro0_5, ro0_6, ro0_7, ro0_8, ro0_9, dNet_val, f0]
  have eq6 := fun F => eqNet_d (frz := F) o5_x1 o_x2
  try simp only [dNet_val] at eq6
  simp [eq6, VM.look, b5_1, b5_5, get_app' b5_1, get_app' b5_5, cH5.1, Nat.le_add_right_of_le cH5.1, one_x0, one_x1, one_x2, ro0_2, ro0_3, ro0_4, ro0_5, ro0_6, ro0_7, ro0_8, ro0_9, dNet_val, f0]
theorem law_FnExactAllOwnersFree {a0_0 : Int} {a0_1 : Int} {a0_2 : List (Int)} {u0_2 : Value} {a0_3 : List (Int)} {u0_3 : Value} {a0_4 : List (Int)} {u0_4 : Value} {a0_5 : List (List (Int × Int × Int × Bool × Bool))} {u0_5 : Value} {a0_6 : List (Int)} {u0_6 : Value} {a0_7 : List (Int)} {u0_7 : Value} {a0_8 : List (List (Int × Int × Int × Bool × Bool))} {u0_8 : Value} {a0_9 : List (List (Int × Int × Int × Bool × Bool))} {u0_9 : Value} {a0_10 : Int} (s0_2 : IsS (Kn.int .i64) H u0_2 a0_2) (s0_3 : IsS (Kn.int .i64) H u0_3 a0_3) (s0_4 : IsS (Kn.int .i64) H u0_4 a0_4) (s0_5 : IsS (Kn.slice (Kn.pair (Kn.int .i64) (Kn.pair (Kn.int .i64) (Kn.pair (Kn.int .i64) (Kn.pair Kn.bool Kn.bool))))) H u0_5 a0_5) (s0_6 : IsS (Kn.int .i64) H u0_6 a0_6) (s0_7 : IsS (Kn.int .i64) H u0_7 a0_7) (s0_8 : IsS (Kn.slice (Kn.pair (Kn.int .i64) (Kn.pair (Kn.int .i64) (Kn.pair (Kn.int .i64) (Kn.pair Kn.bool Kn.bool))))) H u0_8 a0_8) (s0_9 : IsS (Kn.slice (Kn.pair (Kn.int .i64) (Kn.pair (Kn.int .i64) (Kn.pair (Kn.int .i64) (Kn.pair Kn.bool Kn.bool))))) H u0_9 a0_9)
    (w0 : ((((Lit.int .i64 a0_0).wf = true) ∧ ((Lit.int .i64 a0_1).wf = true)) ∧ (a0_2.length ≤ maxLen ∧ ∀ x1 ∈ a0_2, (Lit.int .i64 x1).wf = true)) ∧ (((a0_3.length ≤ maxLen ∧ ∀ x2 ∈ a0_3, (Lit.int .i64 x2).wf = true)) ∧ ((a0_4.length ≤ maxLen ∧ ∀ x3 ∈ a0_4, (Lit.int .i64 x3).wf = true))) ∧ (a0_5.length ≤ maxLen ∧ ∀ x4 ∈ a0_5, x4.length ≤ maxLen ∧ ∀ x5 ∈ x4, ((Lit.int .i64 x5.1).wf = true) ∧ ((Lit.int .i64 x5.2.1).wf = true) ∧ ((Lit.int .i64 x5.2.2.1).wf = true) ∧ (True) ∧ (True)) ∧ (a0_6.length ≤ maxLen ∧ ∀ x6 ∈ a0_6, (Lit.int .i64 x6).wf = true) ∧ (a0_7.length ≤ maxLen ∧ ∀ x7 ∈ a0_7, (Lit.int .i64 x7).wf = true) ∧ (a0_8.length ≤ maxLen ∧ ∀ x8 ∈ a0_8, x8.length ≤ maxLen ∧ ∀ x9 ∈ x8, ((Lit.int .i64 x9.1).wf = true) ∧ ((Lit.int .i64 x9.2.1).wf = true) ∧ ((Lit.int .i64 x9.2.2.1).wf = true) ∧ (True) ∧ (True)) ∧ (a0_9.length ≤ maxLen ∧ ∀ x10 ∈ a0_9, x10.length ≤ maxLen ∧ ∀ x11 ∈ x10, ((Lit.int .i64 x11.1).wf = true) ∧ ((Lit.int .i64 x11.2.1).wf = true) ∧ ((Lit.int .i64 x11.2.2.1).wf = true) ∧ (True) ∧ (True)) ∧ ((Lit.int .i64 a0_10).wf = true)) :
    vcall C frz 5 [.agg #[.int .i64 a0_0, .int .i64 a0_1, u0_2, u0_3, u0_4, u0_5, u0_6, u0_7, u0_8, u0_9, .int .i64 a0_10]] H = some (.bool true, H) :=
  (law_FnExactAllOwnersFree_w s0_2 s0_3 s0_4 s0_5 s0_6 s0_7 s0_8 s0_9 w0).exact (by simp) rfl
end Go.Proofs.Ytcigpclbhfkgaaa.V
