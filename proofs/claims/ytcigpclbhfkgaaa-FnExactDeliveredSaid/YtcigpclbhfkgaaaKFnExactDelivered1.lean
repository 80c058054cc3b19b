/- Texts of a proof, joined. -/
import Derived.Test.YtcigpclbhfkgaaaKM0
import Derived.Test.YtcigpclbhfkgaaaKM1
import Derived.Test.YtcigpclbhfkgaaaKFnExactDelivered0
/-! Latency without load; requests and replies. -/
set_option linter.all false
namespace Go.Proofs.Ytcigpclbhfkgaaa.V
open Go Go.VM Go.Proofs
set_option maxRecDepth 10000
variable {frz : Nat} {H : Heap}
def classesOk (w h : Int) (b A B : List Int) : Prop := tableOk w h b A ∧ tableOk w h b B
instance (w h : Int) (b A B : List Int) : Decidable (classesOk w h b A B) := inferInstanceAs (Decidable (_ ∧ _))
/-- a packet: its number, whence, whither, class, length -/
abbrev PkD := Int × Int × Int × Int × Int
def packetOk (w h : Int) (p : PkD) : Prop := inR 1 p.1 9999 ∧ isN w h p.2.1 ∧ isN w h p.2.2.1 ∧ p.2.1 ≠ p.2.2.1 ∧ inR 0 p.2.2.2.1 1 ∧ inR 1 p.2.2.2.2 5
instance (w h : Int) (p : PkD) : Decidable (packetOk w h p) := inferInstanceAs (Decidable (_ ∧ _))
def pkV (p : PkD) : Value := .agg #[.int .i64 p.1, .int .i64 p.2.1, .int .i64 p.2.2.1, .int .i64 p.2.2.2.1, .int .i64 p.2.2.2.2]
theorem classesOk_c (w h : Int) (v u1 u2 : Value) (b A B : List Int) (hI : IsI H v b) (h1 : IsI H u1 A) (h2 : IsI H u2 B) (hl : b.length ≤ 1073741824) :
   vcall C frz 80 [.agg #[.int .i64 w, .int .i64 h, v], .agg #[u1, u2]] H = some (.bool (decide (classesOk w h b A B)), H) := by
  rw [vcall_go (fn := Try.f80) Try.func80 rfl (by kernel_rfl) rfl]
  have one := And.intro (And.intro h1.one' h1.cells) (And.intro h2.one' h2.cells)
  simp [hI.one', hI.cells, one, tableOk_c _ _ _ _ _ _ (hI.app _) (h1.app _) hl]
  refine gd_dec _ _ ?_ ?_ <;> intro g <;> simp [g, classesOk, hI.one', hI.cells, one, tableOk_c _ _ _ _ _ _ (hI.app _) (h2.app _) hl]
theorem sClassesOk_c (w h : Int) (v u1 u2 : Value) (b A B : List Int) (hI : IsI H v b) (h1 : IsI H u1 A) (h2 : IsI H u2 B) (hl : b.length ≤ 1073741824) :
   vcall C frz 77 [.agg #[.int .i64 w, .int .i64 h, v], .agg #[u1, u2]] H = some (.bool (decide (classesOk w h b A B)), H) := by
  rw [vcall_go (fn := Try.f77) Try.func77 rfl (by kernel_rfl) rfl]
  have one := And.intro (And.intro h1.one' h1.cells) (And.intro h2.one' h2.cells)
  simp [hI.one', hI.cells, one, sTableOk_c _ _ _ _ _ _ (hI.app _) (h1.app _) hl]
  refine gd_dec _ _ ?_ ?_ <;> intro g <;> simp [g, classesOk, hI.one', hI.cells, one, sTableOk_c _ _ _ _ _ _ (hI.app _) (h2.app _) hl]
theorem packetOk_c (w h : Int) (p : PkD) : vcall C frz 93 [.agg #[.int .i64 w, .int .i64 h], pkV p] H = some (.bool (decide (packetOk w h p)), H) := by
  obtain ⟨i, a, b, c, l⟩ := p
  rw [vcall_go (fn := Try.f93) Try.func93 rfl (by kernel_rfl) rfl]
  by_cases g1 : inR 1 i 9999
  · by_cases g2 : isN w h a
    · by_cases g3 : isN w h b
      · by_cases g4 : a = b
        · simp [pkV, inside_c, isNode_c, g1, g2, g3, g4, packetOk]
        · by_cases g5 : inR 0 c 1
          · by_cases g6 : inR 1 l 5 <;> simp [pkV, inside_c, isNode_c, g1, g2, g3, g4, g5, g6, packetOk]
          · simp [pkV, inside_c, isNode_c, g1, g2, g3, g4, g5, packetOk]
      · simp [pkV, inside_c, isNode_c, g1, g2, g3, packetOk]
    · simp [pkV, inside_c, isNode_c, g1, g2, packetOk]
  · simp [pkV, inside_c, isNode_c, g1, packetOk]
theorem sPacketOk_c (w h : Int) (p : PkD) : vcall C frz 91 [.agg #[.int .i64 w, .int .i64 h], pkV p] H = some (.bool (decide (packetOk w h p)), H) := by
  obtain ⟨i, a, b, c, l⟩ := p
  rw [vcall_go (fn := Try.f91) Try.func91 rfl (by kernel_rfl) rfl]
  by_cases g1 : inR 1 i 9999
  · by_cases g2 : isN w h a
    · by_cases g3 : isN w h b
      · by_cases g4 : a = b
        · simp [pkV, l01In_c, l02Has_c, g1, g2, g3, g4, packetOk]
        · by_cases g5 : inR 0 c 1
          · by_cases g6 : inR 1 l 5 <;> simp [pkV, l01In_c, l02Has_c, g1, g2, g3, g4, g5, g6, packetOk]
          · simp [pkV, l01In_c, l02Has_c, g1, g2, g3, g4, g5, packetOk]
      · simp [pkV, l01In_c, l02Has_c, g1, g2, g3, packetOk]
    · simp [pkV, l01In_c, l02Has_c, g1, g2, packetOk]
  · simp [pkV, l01In_c, l02Has_c, g1, packetOk]
def zeroLoad (w h : Int) (b A B : List Int) (p : PkD) : Int :=
  if classesOk w h b A B ∧ packetOk w h p then ((walk w h b (if p.2.2.2.1 = 1 then B else A) p.2.1 p.2.2.1).length : Int) + p.2.2.2.2 + 1 else -1
theorem zeroLoad_range (w h : Int) (b A B : List Int) (p : PkD) : -1 ≤ zeroLoad w h b A B p ∧ zeroLoad w h b A B p ≤ 100 := by
  unfold zeroLoad; split
  · rename_i g
    have h1 := g.2.2.2.2.2.2
    have := walk_len w h b (if p.2.2.2.1 = 1 then B else A) p.2.1 p.2.2.1
    unfold inR at h1; omega
  · omega
theorem tableFor_w (u1 u2 : Value) (A B : List Int) (c : Int) (h1 : IsI H u1 A) (h2 : IsI H u2 B) :
   wp (vcall C frz 112 [.agg #[u1, u2], .int .i64 c] H) (fun r H' => r = .agg #[if c = 1 then u2 else u1] ∧ ∃ L, H' = H ++ L) := by
  rw [vcall_go (fn := Try.f112) Try.func112 rfl (by kernel_rfl) rfl]
  have one := And.intro (And.intro h1.one' h1.cells) (And.intro h2.one' h2.cells)
  simp [one]
  refine wp_dec ?_ ?_ <;> intro g <;> simp [g, one]
theorem zeroLoad_c (w h : Int) (v u1 u2 : Value) (b A B : List Int) (p : PkD) (hI : IsI H v b) (h1 : IsI H u1 A) (h2 : IsI H u2 B) (hl : b.length ≤ 1073741824) :
   vcall C frz 56 [.agg #[.int .i64 w, .int .i64 h, v], .agg #[u1, u2], pkV p] H = some (.int .i64 (zeroLoad w h b A B p), H) := by
  refine wp.exact (by simp) ?_ rfl
  rw [vcall_go (fn := Try.f56) Try.func56 rfl (by kernel_rfl) rfl]
  have one := And.intro (And.intro h1.one' h1.cells) (And.intro h2.one' h2.cells)
  have onev := And.intro hI.one' hI.cells
  have pk := fun F L => packetOk_c (frz := F) (H := L) w h p
  have hz : zeroLoad w h b A B p = if classesOk w h b A B ∧ packetOk w h p then ((walk w h b (if p.2.2.2.1 = 1 then B else A) p.2.1 p.2.2.1).length : Int) + p.2.2.2.2 + 1 else -1 := rfl
  obtain ⟨i, a, c, k, l⟩ := p
  simp only [pkV] at pk ⊢
  simp [onev, one, classesOk_c _ _ _ _ _ _ _ _ (hI.app _) (h1.app _) (h2.app _) hl]
  by_cases g1 : classesOk w h b A B
  · by_cases g2 : packetOk w h (i, a, c, k, l)
    · simp [g1, g2, pk, onev, one]
      rw [if_pos ⟨g1, g2⟩] at hz
      obtain ⟨k1, k2, k3, k4, k5, k6⟩ := g2
      simp only at k1 k2 k3 k4 k5 k6 hz
      rw [go_draw (h := by kernel_rfl)]
      simp [onev, one]
      refine wp_thn (tableFor_w u1 u2 A B k (h1.app _) (h2.app _)) ?_
      rintro _ H1 ⟨rfl, L, rfl⟩
      have hT : IsI H (if k = 1 then u2 else u1) (if k = 1 then B else A) := by split <;> assumption
      have hok : tableOk w h b (if k = 1 then B else A) := by split; exact g1.2; exact g1.1
      have hwl := walk_len w h b (if k = 1 then B else A) a c
      generalize (if k = 1 then u2 else u1) = uT at *
      generalize (if k = 1 then B else A) = T at *
      have wt := fun F L => walkT_c (frz := F) (H := H ++ L) w h v uT b T a c (hI.app _) (hT.app _) hl hok k2 k3
      simp only [List.append_assoc]
      unfold inR at k6
      have f0 : ∀ [Inhabited Unit], IntKind.i64.wrap l = l := by intro _; exact w64 (by omega) (by omega)
      have f1 : ∀ [Inhabited Unit], IntKind.i64.wrap (l + 1) = l + 1 := by intro _; exact w64 (by omega) (by omega)
      have f2 : ∀ [Inhabited Unit], IntKind.i64.wrap ((walk w h b T a c).length + l) = (walk w h b T a c).length + l := by intro _; exact w64 (by omega) (by omega)
      have f3 : ∀ [Inhabited Unit], IntKind.i64.wrap ((walk w h b T a c).length + l + 1) = (walk w h b T a c).length + l + 1 := by intro _; exact w64 (by omega) (by omega)
      simp [onev, one, hT.one', hT.cells, wt, hz]
      unfold ret
      by_cases h0 : walk w h b T a c = []
      · simp [h0, f0, f1]
      · simp [h0, f2, f3]
    · simp [g1, g2, pk, onev, one, hz]
  · by_cases g2 : packetOk w h (i, a, c, k, l) <;> simp [g1, g2, pk, onev, one, hz]
theorem sL27_c (w h : Int) (v u1 u2 : Value) (b A B : List Int) (i a c k l : Int) (hI : IsI H v b) (h1 : IsI H u1 A) (h2 : IsI H u2 B) (hl : b.length ≤ 1073741824) (g1 : classesOk w h b A B) (k2 : isN w h a) (k3 : isN w h c) (k4 : a ≠ c) (k6 : inR 1 l 5) :
   vcall C frz 110 [.agg #[.int .i64 w, .int .i64 h, v], .agg #[u1, u2], .agg #[.int .i64 i, .int .i64 a, .int .i64 c, .int .i64 k, .int .i64 l]] H = some (.int .i64 (((walk w h b (if k = 1 then B else A) a c).length : Int) + l + 1), H) := by
  refine wp.exact (by simp) ?_ rfl
  rw [vcall_go (fn := Try.f110) Try.func110 rfl (by kernel_rfl) rfl]
  have one := And.intro (And.intro h1.one' h1.cells) (And.intro h2.one' h2.cells)
  have onev := And.intro hI.one' hI.cells
  simp [onev, one]
  have core : ∀ (T : List Int), tableOk w h b T → ∀ [Inhabited Unit], IntKind.i64.wrap ((walk w h b T a c).length + l) = (walk w h b T a c).length + l ∧ IntKind.i64.wrap ((walk w h b T a c).length + l + 1) = (walk w h b T a c).length + l + 1 := fun T hT => by
    intro _
    have hwl := walk_len w h b T a c
    unfold inR at k6
    exact ⟨w64 (by omega) (by omega), w64 (by omega) (by omega)⟩
  refine wp_dec ?_ ?_ <;> intro g
  · simp [g, onev, one]
    have sw := fun F L => sWalk_c (frz := F) (H := H ++ L) w h v u2 b B a c (hI.app _) (h2.app _) hl g1.2.1 k2 k3
    rw [go_draw (h := by kernel_rfl)]
    simp [onev, one, sw, core B g1.2]
  · simp [g, onev, one]
    have sw := fun F L => sWalk_c (frz := F) (H := H ++ L) w h v u1 b A a c (hI.app _) (h1.app _) hl g1.1.1 k2 k3
    rw [go_draw (h := by kernel_rfl)]
    simp [onev, one, sw, core A g1.1]
theorem sZeroLoad_c (w h : Int) (v u1 u2 : Value) (b A B : List Int) (p : PkD) (hI : IsI H v b) (h1 : IsI H u1 A) (h2 : IsI H u2 B) (hl : b.length ≤ 1073741824) :
   vcall C frz 53 [.agg #[.int .i64 w, .int .i64 h, v], .agg #[u1, u2], pkV p] H = some (.int .i64 (zeroLoad w h b A B p), H) := by
  refine wp.exact (by simp) ?_ rfl
  rw [vcall_go (fn := Try.f53) Try.func53 rfl (by kernel_rfl) rfl]
  have one := And.intro (And.intro h1.one' h1.cells) (And.intro h2.one' h2.cells)
  have onev := And.intro hI.one' hI.cells
  have pk := fun F L => sPacketOk_c (frz := F) (H := L) w h p
  have hz : zeroLoad w h b A B p = if classesOk w h b A B ∧ packetOk w h p then ((walk w h b (if p.2.2.2.1 = 1 then B else A) p.2.1 p.2.2.1).length : Int) + p.2.2.2.2 + 1 else -1 := rfl
  obtain ⟨i, a, c, k, l⟩ := p
  simp only [pkV] at pk ⊢
  simp [onev, one, sClassesOk_c _ _ _ _ _ _ _ _ (hI.app _) (h1.app _) (h2.app _) hl]
  by_cases g1 : classesOk w h b A B
  · by_cases g2 : packetOk w h (i, a, c, k, l)
    · simp [g1, g2, pk, onev, one]
      rw [if_pos ⟨g1, g2⟩] at hz
      obtain ⟨k1, k2, k3, k4, k5, k6⟩ := g2
      simp only at k1 k2 k3 k4 k5 k6 hz
      have lz := fun F L => sL27_c (frz := F) (H := H ++ L) w h v u1 u2 b A B i a c k l (hI.app _) (h1.app _) (h2.app _) hl g1 k2 k3 k4 k6
      simp [lz, hz]
    · simp [g1, g2, pk, onev, one, hz]
  · by_cases g2 : packetOk w h (i, a, c, k, l) <;> simp [g1, g2, pk, onev, one, hz]
/-- a request and its reply -/
def replyTime (w h : Int) (b A B : List Int) (p : PkD) (n : Int) : Int :=
  if zeroLoad w h b A B p < 0 ∨ zeroLoad w h b A B (p.1, p.2.2.1, p.2.1, IntKind.i64.wrap (1 - p.2.2.2.1), n) < 0 then -1 else zeroLoad w h b A B p + zeroLoad w h b A B (p.1, p.2.2.1, p.2.1, IntKind.i64.wrap (1 - p.2.2.2.1), n)
theorem zeroLoad_id {w h : Int} {b A B : List Int} {i j a c k l : Int} (h1 : inR 1 i 9999) (h2 : inR 1 j 9999) : zeroLoad w h b A B (i, a, c, k, l) = zeroLoad w h b A B (j, a, c, k, l) := by
  unfold zeroLoad packetOk
  simp only [h1, h2]
theorem replyTime_c (w h : Int) (v u1 u2 : Value) (b A B : List Int) (i a c k l n : Int) (hI : IsI H v b) (h1 : IsI H u1 A) (h2 : IsI H u2 B) (hl : b.length ≤ 1073741824) :
   vcall C frz 17 [.agg #[.int .i64 w, .int .i64 h, v], .agg #[u1, u2], .agg #[.int .i64 i, .int .i64 a, .int .i64 c, .int .i64 k, .int .i64 l], .int .i64 n] H = some (.int .i64 (replyTime w h b A B (i, a, c, k, l) n), H) := by
  refine wp.exact (by simp) ?_ rfl
  rw [vcall_go (fn := Try.f17) Try.func17 rfl (by kernel_rfl) rfl]
  have one := And.intro (And.intro h1.one' h1.cells) (And.intro h2.one' h2.cells)
  have onev := And.intro hI.one' hI.cells
  have z1 := fun F L => zeroLoad_c (frz := F) (H := H ++ L) w h v u1 u2 b A B (i, a, c, k, l) (hI.app _) (h1.app _) (h2.app _) hl
  have z2 := fun F L => zeroLoad_c (frz := F) (H := H ++ L) w h v u1 u2 b A B (i, c, a, IntKind.i64.wrap (1 - k), n) (hI.app _) (h1.app _) (h2.app _) hl
  simp only [pkV] at z1 z2
  have r1 := zeroLoad_range w h b A B (i, a, c, k, l)
  have r2 := zeroLoad_range w h b A B (i, c, a, IntKind.i64.wrap (1 - k), n)
  unfold replyTime
  simp only
  generalize hq : IntKind.i64.wrap (1 - k) = kk at *
  generalize zeroLoad w h b A B (i, a, c, k, l) = Z1 at *
  generalize zeroLoad w h b A B (i, c, a, kk, n) = Z2 at *
  have e1 : ∀ [Inhabited Unit], IntKind.i64.wrap (Z1 + Z2) = Z1 + Z2 := by intro _; exact w64 (by omega) (by omega)
  simp [onev, one, hq]
  rw [go_draw (h := by kernel_rfl)]
  simp [onev, one, z1, z2]
  by_cases g1 : Z1 < 0
  · simp [g1]
  · by_cases g2 : Z2 < 0 <;> simp [g1, g2, e1]
theorem replyTime_d {v : Value} {u : Value × Value} {w h : Int} {b A B : List Int} {i a c k l n : Int} (o1 : dMesh.Ow H v (w, h, b)) (o2 : dClasses.Ow H u (A, B)) :
   vcall C frz 17 [dMesh.val v (w, h, b), dClasses.val u (A, B), .agg #[.int .i64 i, .int .i64 a, .int .i64 c, .int .i64 k, .int .i64 l], .int .i64 n] H = some (.int .i64 (replyTime w h b A B (i, a, c, k, l) n), H) :=
  replyTime_c w h v u.1 u.2 b A B i a c k l n o1.1.rd.isI o2.1.1.rd.isI o2.2.1.rd.isI o1.2
theorem sReplyTime_c (w h : Int) (v u1 u2 : Value) (b A B : List Int) (i a c k l n : Int) (hI : IsI H v b) (h1 : IsI H u1 A) (h2 : IsI H u2 B) (hl : b.length ≤ 1073741824) :
   vcall C frz 13 [.agg #[.int .i64 w, .int .i64 h, v], .agg #[u1, u2], .agg #[.int .i64 i, .int .i64 a, .int .i64 c, .int .i64 k, .int .i64 l], .int .i64 n] H = some (.int .i64 (replyTime w h b A B (i, a, c, k, l) n), H) := by
  refine wp.exact (by simp) ?_ rfl
  rw [vcall_go (fn := Try.f13) Try.func13 rfl (by kernel_rfl) rfl]
  have one := And.intro (And.intro h1.one' h1.cells) (And.intro h2.one' h2.cells)
  have onev := And.intro hI.one' hI.cells
  have z1 := fun F L => sZeroLoad_c (frz := F) (H := H ++ L) w h v u1 u2 b A B (i, a, c, k, l) (hI.app _) (h1.app _) (h2.app _) hl
  have z2 := fun F L => sZeroLoad_c (frz := F) (H := H ++ L) w h v u1 u2 b A B (1, c, a, IntKind.i64.wrap (1 - k), n) (hI.app _) (h1.app _) (h2.app _) hl
  simp only [pkV] at z1 z2
  have r1 := zeroLoad_range w h b A B (i, a, c, k, l)
  have r2 := zeroLoad_range w h b A B (1, c, a, IntKind.i64.wrap (1 - k), n)
  have same : ¬ zeroLoad w h b A B (i, a, c, k, l) < 0 → zeroLoad w h b A B (i, c, a, IntKind.i64.wrap (1 - k), n) = zeroLoad w h b A B (1, c, a, IntKind.i64.wrap (1 - k), n) := fun hz => by
    refine zeroLoad_id ?_ (by decide)
    unfold zeroLoad at hz
    split at hz
    · rename_i g; exact g.2.1
    · omega
  unfold replyTime
  simp only
  generalize hq : IntKind.i64.wrap (1 - k) = kk at *
  generalize zeroLoad w h b A B (i, a, c, k, l) = Z1 at *
  generalize zeroLoad w h b A B (1, c, a, kk, n) = Z2 at *
  generalize zeroLoad w h b A B (i, c, a, kk, n) = Z3 at *
  have e1 : ∀ [Inhabited Unit], IntKind.i64.wrap (Z1 + Z2) = Z1 + Z2 := by intro _; exact w64 (by omega) (by omega)
  simp [onev, one, z1, hq, z2]
  by_cases g1 : Z1 < 0
  · simp [g1]
  · rw [same g1]
    by_cases g2 : Z2 < 0 <;> simp [g1, g2, e1]
theorem sReplyTime_d {v : Value} {u : Value × Value} {w h : Int} {b A B : List Int} {i a c k l n : Int} (o1 : dMesh.Ow H v (w, h, b)) (o2 : dClasses.Ow H u (A, B)) :
   vcall C frz 13 [dMesh.val v (w, h, b), dClasses.val u (A, B), .agg #[.int .i64 i, .int .i64 a, .int .i64 c, .int .i64 k, .int .i64 l], .int .i64 n] H = some (.int .i64 (replyTime w h b A B (i, a, c, k, l) n), H) :=
  sReplyTime_c w h v u.1 u.2 b A B i a c k l n o1.1.rd.isI o2.1.1.rd.isI o2.2.1.rd.isI o1.2
theorem toPacket_c (i a c k l : Int) : vcall C frz 16 [.agg #[.int .i64 i, .int .i64 a, .int .i64 c, .int .i64 k, .int .i64 l]] H = some (.agg #[.int .i64 i, .int .i64 a, .int .i64 c, .int .i64 k, .int .i64 l], H) := by
  rw [vcall_go (fn := Try.f16) Try.func16 rfl (by kernel_rfl) rfl]
  simp
end Go.Proofs.Ytcigpclbhfkgaaa.V
/-! Packets: what the laws' own functions do with slices of them. -/
set_option linter.all false
namespace Go.Proofs.Ytcigpclbhfkgaaa.V
open Go Go.VM Go.Proofs
set_option maxRecDepth 10000
variable {frz : Nat} {H : Heap}
def pkF : Fl PkD := ⟨5, fun a => [.int .i64 a.1, .int .i64 a.2.1, .int .i64 a.2.2.1, .int .i64 a.2.2.2.1, .int .i64 a.2.2.2.2], fun _ => rfl⟩
@[simp] theorem pkF_n : pkF.n = 5 := rfl
theorem pkF_f (a : PkD) : pkF.f a = [.int .i64 a.1, .int .i64 a.2.1, .int .i64 a.2.2.1, .int .i64 a.2.2.2.1, .int .i64 a.2.2.2.2] := rfl
abbrev knP := Kn.pair (Kn.int .i64) (Kn.pair (Kn.int .i64) (Kn.pair (Kn.int .i64) (Kn.pair (Kn.int .i64) (Kn.int .i64))))
theorem knP_is {H : Heap} {x : PkD} {vs : List Value} (h : knP.Is H x vs) : vs = pkF.f x := by
  obtain ⟨v1, v2, rfl, h1, w1, w2, rfl, h2, y1, y2, rfl, h3, z1, z2, rfl, h4, h5⟩ := h
  simp only [Kn.int, Kn.bool] at h1 h2 h3 h4 h5
  rw [h1, h2, h3, h4, h5]; rfl
theorem ones_pkF (xs : List PkD) : ones (cellsOf pkF xs) = true := by
  induction xs with
  | nil => rfl
  | cons a l ih => rw [cellsOf_cons]; simp [ih, pkF_f]
theorem toPacket_p (x : PkD) : vcall C frz 16 [.agg (pkF.f x).toArray] H = some (.agg (pkF.f x).toArray, H) := toPacket_c _ _ _ _ _
theorem toPacketS_w (v : Value) (xs : List PkD) (hI : Rd pkF H v xs) (hb : xs.length ≤ 1073741824) :
   wp (vcall C frz 62 [v] H) (fun r H' => Ow pkF 44 H' r xs ∧ (∀ i ∈ ids r, H.length ≤ i) ∧ Chg H H' []) := by
  rw [vcall_go (fn := Try.f62) Try.func62 rfl (by kernel_rfl) rfl]
  simp [hI.len]
  refine wp_need (by omega) ?_
  refine wp_inv (fun n t H' => ∃ i : Nat, n = xs.length - i ∧ i ≤ xs.length ∧ t 0 = v ∧ t 3 = .slice (some ⟨H.length, 0, some 0⟩) xs.length 0 ∧ t 4 = .int .i64 i ∧
    Ow pkF 44 H' (.slice (some ⟨H.length, 0, some 0⟩) xs.length 0) (xs.take i ++ List.replicate (xs.length - i) (0, 0, 0, 0, 0)) ∧ Chg H H' []) ?_ (n := xs.length)
    ⟨0, by simp, by omega, by simp, by simp, by simp, Ow.new0 rfl (rep_cells (D := pkF) (0, 0, 0, 0, 0) _) (by rw [rep_cells (D := pkF) (0, 0, 0, 0, 0)]; exact ones_pkF _) (by simp), Chg.app _⟩
  rintro n t H' ⟨i, rfl, hi, h0, h3, h4, o, c⟩ ih
  have rd := hI.chg c (by simp)
  simp [h0, h3, h4, rd.len]
  refine wp_dec ?_ ?_ <;> intro h
  · have h' : i < xs.length := by omega
    have q1 := rd.idx (P := Try.prog) (ty := 52) (e := 32) (by simp) (i := (i : Int)) (by omega) (by omega)
    have q2 := rd.load (P := Try.prog) (e := 32) (by simp) h'
    have hl : (xs.take i ++ List.replicate (xs.length - i) ((0, 0, 0, 0, 0) : PkD)).length = xs.length := by simp; omega
    have q3 := o.rd.idx (P := Try.prog) (ty := 60) (e := 44) (by simp) (i := (i : Int)) (by omega) (by omega)
    obtain ⟨H2, s1, o1, c1, l1⟩ := o.store (P := Try.prog) (frz := H.length) (et := 44) (ag := true) (x := .agg (pkF.f xs[i]).toArray) (by simp) (j := i) (y := xs[i]) (by omega) (by simp [Value.cells]) (by simp [pkF_f]) (by simp)
    simp only [Int.toNat_natCast, pkF_n] at q1 q2 q3 s1
    simp [h0, h3, h4, q1, q2, toPacket_p, q3, s1]
    refine ih (xs.length - (i + 1)) _ _ ⟨i + 1, rfl, by omega, by simp [h0], by simp [h3], ?_, ?_, c.trans' c1 (by simp)⟩ (by omega)
    · simp; rw [w64 (by omega) (by omega)]
    · rw [fill_set _ _ h'] at o1; exact o1
  · have : i = xs.length := by omega
    subst this
    simp [h0, h3, h4]
    exact ⟨by simpa using o, c⟩
theorem szPacketS_c (v : Value) (xs : List PkD) (n : Int) (hI : Rd pkF H v xs) (h0 : 0 ≤ n) (h1 : n ≤ 1048576) (h2 : xs.length ≤ 9223372036854775807) :
    vcall C frz 60 [v, .int .i64 n] H = some (.int .i64 (if n < xs.length then -1 else n - xs.length), H) := by
  rw [vcall_go (fn := Try.f60) Try.func60 rfl (by kernel_rfl) rfl]
  simp [hI.len]
  rw [w64 (by omega) (by omega)]
  refine br_dec _ ?_ ?_ <;> intro h <;> simp [h]
  · intro hh; omega
  · intro hh; omega
theorem eqPacket_c (x y : PkD) : vcall C frz 115 [.agg (pkF.f x).toArray, .agg (pkF.f y).toArray] H = some (.bool (decide (x = y)), H) := by
  obtain ⟨p, t, c, h, l⟩ := x
  obtain ⟨p', t', c', h', l'⟩ := y
  rw [vcall_go (fn := Try.f115) Try.func115 rfl (by kernel_rfl) rfl]
  simp [pkF_f]
  by_cases e1 : p = p'
  · by_cases e2 : t = t'
    · by_cases e3 : c = c'
      · by_cases e4 : h = h'
        · by_cases e5 : l = l' <;> simp [e1, e2, e3, e4, e5]
        · simp [e1, e2, e3, e4]
      · simp [e1, e2, e3]
    · simp [e1, e2]
  · simp [e1]
theorem eqPacketS_c (a b : Value) (xs ys : List PkD) (ha : Rd pkF H a xs) (hb : Rd pkF H b ys) (hl : xs.length ≤ 1073741824) :
   vcall C frz 64 [a, b] H = some (.bool (decide (xs = ys)), H) := by
  refine wp.exact (by simp) ?_ rfl
  rw [vcall_go (fn := Try.f64) Try.func64 rfl (by kernel_rfl) rfl]
  simp [ha.len, hb.len]
  refine wp_dec ?_ ?_ <;> intro h0 <;> simp [h0]
  · refine wp_inv (fun n t H' => ∃ i : Nat, n = xs.length - i ∧ i ≤ xs.length ∧ t 0 = a ∧ t 1 = b ∧ t 5 = .int .i64 i ∧ H' = H ∧ xs.take i = ys.take i) ?_ (n := xs.length) ⟨0, rfl, by omega, by simp, by simp, by simp, rfl, by simp⟩
    rintro n t H' ⟨i, rfl, hi, h1, h2, h3, rfl, h4⟩ ih
    simp [h1, h2, h3, ha.len]
    refine wp_dec ?_ ?_ <;> intro h
    · have hx : i < xs.length := by omega
      have hy : i < ys.length := by omega
      have q1 := ha.idx (P := Try.prog) (ty := 60) (e := 44) (by simp) (i := (i : Int)) (by omega) (by omega)
      have q2 := ha.load (P := Try.prog) (e := 44) (by simp) hx
      have q3 := hb.idx (P := Try.prog) (ty := 60) (e := 44) (by simp) (i := (i : Int)) (by omega) (by omega)
      have q4 := hb.load (P := Try.prog) (e := 44) (by simp) hy
      simp only [Int.toNat_natCast, pkF_n] at q1 q2 q3 q4
      simp [h1, h2, h3]
      rw [go_draw (h := by kernel_rfl)]
      simp [h1, h2, h3, q1, q2, q3, q4, eqPacket_c]
      refine wp_dec ?_ ?_ <;> intro h5
      · simp [h1, h2, h3]
        refine ih (xs.length - (i + 1)) _ _ ⟨i + 1, rfl, by omega, by simp [h1], by simp [h2], ?_, rfl, ?_⟩ (by omega)
        · simp; rw [w64 (by omega) (by omega)]
        · rw [List.take_succ_eq_append_getElem hx, List.take_succ_eq_append_getElem hy, h4]; simp [h5]
      · simp [h1, h2, h3]
        intro hh; subst hh; simp at h5
    · have : i = xs.length := by omega
      subst this
      simp [h1, h2, h3]
      rw [List.take_length, List.take_of_length_le (by omega)] at h4
      exact h4
  · intro hh; exact h0 (by rw [hh])
end Go.Proofs.Ytcigpclbhfkgaaa.V
/-! Chips: what the laws' own functions do with them. -/
set_option linter.all false
namespace Go.Proofs.Ytcigpclbhfkgaaa.V
open Go Go.VM Go.Proofs
set_option maxRecDepth 10000
variable {frz : Nat} {H : Heap}
abbrev dPk : Dt Value (List PkD) := dFlat pkF 44 1073741824
abbrev ChipD := NetD × List PkD
abbrev ChipV := NetV × Value
def dChip : Dt ChipV ChipD := { dAnd dNet dPk with val := fun v a => .agg #[.int .i64 a.1.1.1, .int .i64 a.1.1.2.1, v.1.1, v.1.2.1.1, v.1.2.1.2, v.1.2.2.1.1, v.1.2.2.2.1, v.1.2.2.2.2.1, v.1.2.2.2.2.2.1.1, v.1.2.2.2.2.2.2.1.1, .int .i64 a.1.2.2.2.2.2.2.2, v.2] }
theorem dChip_val (v : ChipV) (a : ChipD) : dChip.val v a = .agg #[.int .i64 a.1.1.1, .int .i64 a.1.1.2.1, v.1.1, v.1.2.1.1, v.1.2.1.2, v.1.2.2.1.1, v.1.2.2.2.1, v.1.2.2.2.2.1, v.1.2.2.2.2.2.1.1, v.1.2.2.2.2.2.2.1.1, .int .i64 a.1.2.2.2.2.2.2.2, v.2] := rfl
theorem dChip_one {v : ChipV} {a : ChipD} (h : dChip.Ow H v a) : ((VM.one v.1.1 = true ∧ v.1.1.cells = #[v.1.1]) ∧ (VM.one v.1.2.1.1 = true ∧ v.1.2.1.1.cells = #[v.1.2.1.1]) ∧ (VM.one v.1.2.1.2 = true ∧ v.1.2.1.2.cells = #[v.1.2.1.2]) ∧ (VM.one v.1.2.2.1.1 = true ∧ v.1.2.2.1.1.cells = #[v.1.2.2.1.1]) ∧
    (VM.one v.1.2.2.2.1 = true ∧ v.1.2.2.2.1.cells = #[v.1.2.2.2.1]) ∧ (VM.one v.1.2.2.2.2.1 = true ∧ v.1.2.2.2.2.1.cells = #[v.1.2.2.2.2.1]) ∧ (VM.one v.1.2.2.2.2.2.1.1 = true ∧ v.1.2.2.2.2.2.1.1.cells = #[v.1.2.2.2.2.2.1.1]) ∧ (VM.one v.1.2.2.2.2.2.2.1.1 = true ∧ v.1.2.2.2.2.2.2.1.1.cells = #[v.1.2.2.2.2.2.2.1.1])) ∧ VM.one v.2 = true ∧ v.2.cells = #[v.2] :=
  ⟨dNet_one h.1, h.2.1.rd.one', h.2.1.rd.cells⟩
theorem eqChip_d {a b : ChipV} {x y : ChipD} (ha : dChip.Ow H a x) (hb : dChip.Ow H b y) : vcall C frz 24 [dChip.val a x, dChip.val b y] H = some (.bool (decide (x = y)), H) := by
  have oa := dChip_one ha
  have ob := dChip_one hb
  have e1 := fun F L => eqNet_d (frz := F) (H := H ++ L) (Dt.app (T := dNet) ha.1) (Dt.app (T := dNet) hb.1)
  have e2 := fun F L => eqPacketS_c (frz := F) (H := H ++ L) a.2 b.2 x.2 y.2 ha.2.1.rd.app hb.2.1.rd.app ha.2.2
  simp only [dNet_val] at e1
  rw [dChip_val, dChip_val]
  have hY : decide (x = y) = (decide (x.1 = y.1) && decide (x.2 = y.2)) := by
    obtain ⟨x1, x2⟩ := x; obtain ⟨y1, y2⟩ := y
    rw [Bool.eq_iff_iff]; simp only [decide_eq_true_eq, Bool.and_eq_true, Prod.mk.injEq]
  refine wp.exact (by simp) ?_ rfl
  rw [vcall_go (fn := Try.f24) Try.func24 rfl (by kernel_rfl) rfl]
  generalize decide (x = y) = Y at *
  generalize decide (x.1 = y.1) = P1 at *
  generalize decide (x.2 = y.2) = P2 at *
  simp [oa, ob, e1]
  cases P1
  · simp [hY]
  simp [oa, ob, e2]
  cases P2 <;> simp [hY]
theorem szChip_c (w h tm n : Int) (u2 u3 u4 u5 u6 u7 u8 u9 u10 : Value) (h5 h8 h9 : List Value) (b A B own turn : List Int) (buf src arr : SSD) (sent : List PkD)
    (r2 : Rd Fl.int H u2 b) (r3 : Rd Fl.int H u3 A) (r4 : Rd Fl.int H u4 B) (r5 : RdL flF H u5 h5 buf) (r6 : Rd Fl.int H u6 own) (r7 : Rd Fl.int H u7 turn) (r8 : RdL flF H u8 h8 src) (r9 : RdL flF H u9 h9 arr) (r10 : Rd pkF H u10 sent)
    (l2 : b.length ≤ 9223372036854775807) (l3 : A.length ≤ 9223372036854775807) (l4 : B.length ≤ 9223372036854775807) (l5 : buf.length ≤ 9223372036854775807) (l5' : ∀ x ∈ buf, x.length ≤ 9223372036854775807) (l6 : own.length ≤ 9223372036854775807) (l7 : turn.length ≤ 9223372036854775807)
    (l8 : src.length ≤ 9223372036854775807) (l8' : ∀ x ∈ src, x.length ≤ 9223372036854775807) (l9 : arr.length ≤ 9223372036854775807) (l9' : ∀ x ∈ arr, x.length ≤ 9223372036854775807) (l10 : sent.length ≤ 9223372036854775807) (h0 : 0 ≤ n) (h1 : n ≤ 1048576) :
   vcall C frz 20 [.agg #[.int .i64 w, .int .i64 h, u2, u3, u4, u5, u6, u7, u8, u9, .int .i64 tm, u10], .int .i64 n] H = some (.int .i64 (if n < (b.length : Int) + ((A.length : Int) + (B.length : Int)) + (tot buf : Int) + (own.length : Int) + (turn.length : Int) + (tot src : Int) + (tot arr : Int) + (sent.length : Int) then -1 else n - ((b.length : Int) + ((A.length : Int) + (B.length : Int)) + (tot buf : Int) + (own.length : Int) + (turn.length : Int) + (tot src : Int) + (tot arr : Int) + (sent.length : Int))), H) := by
  refine wp.exact (by simp) ?_ rfl
  rw [vcall_go (fn := Try.f20) Try.func20 rfl (by kernel_rfl) rfl]
  have one2 := And.intro r2.one' r2.cells
  have one3 := And.intro r3.one' r3.cells
  have one4 := And.intro r4.one' r4.cells
  have one5 := And.intro r5.1.one' r5.1.cells
  have one6 := And.intro r6.one' r6.cells
  have one7 := And.intro r7.one' r7.cells
  have one8 := And.intro r8.1.one' r8.1.cells
  have one9 := And.intro r9.1.one' r9.1.cells
  have one10 := And.intro r10.one' r10.cells
  have s1 := fun F L => szNet_c (frz := F) (H := H ++ L) w h tm n u2 u3 u4 u5 u6 u7 u8 u9 h5 h8 h9 b A B own turn buf src arr r2.app r3.app r4.app r5.app r6.app r7.app r8.app r9.app l2 l3 l4 l5 l5' l6 l7 l8 l8' l9 l9' h0 h1
  obtain ⟨S, hS⟩ : ∃ S : Int, S = (b.length : Int) + ((A.length : Int) + (B.length : Int)) + (tot buf : Int) + (own.length : Int) + (turn.length : Int) + (tot src : Int) + (tot arr : Int) := ⟨_, rfl⟩
  have hS0 : 0 ≤ S := by omega
  rw [← hS]
  simp only [← hS] at s1
  clear hS
  simp [one2, one3, one4, one5, one6, one7, one8, one9, one10, s1]
  by_cases g : n < S
  · simp only [if_pos g]; simp; intro hh; omega
  simp only [if_neg g]
  have f : ¬ n - S < 0 := by omega
  have s2 := fun F L => szPacketS_c (frz := F) (H := H ++ L) u10 sent (n - S) r10.app (by omega) (by omega) l10
  simp [f, one2, one3, one4, one5, one6, one7, one8, one9, one10, s2]
  by_cases g2 : n - S < (sent.length : Int)
  · simp only [if_pos g2]; simp; intro hh; omega
  simp only [if_neg g2]
  have f2 : ¬ n - S - (sent.length : Int) < 0 := by omega
  simp [f2]
  rw [if_neg (by omega)]; omega
theorem toChip_w (w h tm : Int) (u2 u3 u4 u5 u6 u7 u8 u9 u10 : Value) (h5 h8 h9 : List Value) (b A B own turn : List Int) (buf src arr : SSD) (sent : List PkD)
    (r2 : Rd Fl.int H u2 b) (r3 : Rd Fl.int H u3 A) (r4 : Rd Fl.int H u4 B) (r5 : RdL flF H u5 h5 buf) (r6 : Rd Fl.int H u6 own) (r7 : Rd Fl.int H u7 turn) (r8 : RdL flF H u8 h8 src) (r9 : RdL flF H u9 h9 arr) (r10 : Rd pkF H u10 sent)
    (l2 : b.length ≤ 1073741824) (l3 : A.length ≤ 1073741824) (l4 : B.length ≤ 1073741824) (l5 : buf.length ≤ 2097152) (l5' : ∀ x ∈ buf, x.length ≤ 67108864) (l6 : own.length ≤ 1073741824) (l7 : turn.length ≤ 1073741824)
    (l8 : src.length ≤ 2097152) (l8' : ∀ x ∈ src, x.length ≤ 67108864) (l9 : arr.length ≤ 2097152) (l9' : ∀ x ∈ arr, x.length ≤ 67108864) (l10 : sent.length ≤ 1073741824) :
   wp (vcall C frz 22 [.agg #[.int .i64 w, .int .i64 h, u2, u3, u4, u5, u6, u7, u8, u9, .int .i64 tm, u10]] H) (dChip.Made H (((w, h, b), (A, B), buf, own, turn, src, arr, tm), sent)) := by
  rw [vcall_go (fn := Try.f22) Try.func22 rfl (by kernel_rfl) rfl]
  have one2 := And.intro r2.one' r2.cells
  have one3 := And.intro r3.one' r3.cells
  have one4 := And.intro r4.one' r4.cells
  have one5 := And.intro r5.1.one' r5.1.cells
  have one6 := And.intro r6.one' r6.cells
  have one7 := And.intro r7.one' r7.cells
  have one8 := And.intro r8.1.one' r8.1.cells
  have one9 := And.intro r9.1.one' r9.1.cells
  have one10 := And.intro r10.one' r10.cells
  have hF : H.length ≤ H.length + 2 := by omega
  have hF1 : H.length ≤ H.length + 1 := by omega
  simp [one2, one3, one4, one5, one6, one7, one8, one9, one10]
  obtain ⟨G0, hG0⟩ : ∃ G, G = H ++ [⟨[.int .i64 w, .int .i64 h, u2, u3, u4, u5, u6, u7, u8, u9, .int .i64 tm, u10], 0, 54⟩, ⟨[.int .i64 0, .int .i64 0, .slice none 0 0, .slice none 0 0, .slice none 0 0, .slice none 0 0, .slice none 0 0, .slice none 0 0, .slice none 0 0, .slice none 0 0, .int .i64 0, .slice none 0 0], 0, 62⟩, ⟨[.int .i64 0, .int .i64 0, .slice none 0 0, .slice none 0 0, .slice none 0 0, .slice none 0 0, .slice none 0 0, .slice none 0 0, .slice none 0 0, .slice none 0 0, .int .i64 0, .slice none 0 0], 0, 62⟩] := ⟨_, rfl⟩
  have b0 : G0[H.length]? = some ⟨[.int .i64 w, .int .i64 h, u2, u3, u4, u5, u6, u7, u8, u9, .int .i64 tm, u10], 0, 54⟩ := by rw [hG0]; simp
  have bR : G0[H.length + 1]? = some ⟨[.int .i64 0, .int .i64 0, .slice none 0 0, .slice none 0 0, .slice none 0 0, .slice none 0 0, .slice none 0 0, .slice none 0 0, .slice none 0 0, .slice none 0 0, .int .i64 0, .slice none 0 0], 0, 62⟩ := by rw [hG0]; simp
  have b1 : G0[H.length + 2]? = some ⟨[.int .i64 0, .int .i64 0, .slice none 0 0, .slice none 0 0, .slice none 0 0, .slice none 0 0, .slice none 0 0, .slice none 0 0, .slice none 0 0, .slice none 0 0, .int .i64 0, .slice none 0 0], 0, 62⟩ := by rw [hG0]; simp
  have cH : Chg H G0 [] := by rw [hG0]; exact Chg.app []
  have lH : H.length + 3 ≤ G0.length := by rw [hG0]; simp
  rw [← hG0]
  clear hG0
  refine wp_thn (toNet_w w h tm u2 u3 u4 u5 u6 u7 u8 u9 h5 h8 h9 b A B own turn buf src arr (r2.chg cH (by simp)) (r3.chg cH (by simp)) (r4.chg cH (by simp)) (r5.chg cH (by simp)) (r6.chg cH (by simp)) (r7.chg cH (by simp)) (r8.chg cH (by simp)) (r9.chg cH (by simp)) l2 l3 l4 l5 l5' l6 l7 l8 l8' l9 l9') ?_
  rintro _ K1 ⟨n, rfl, o1, c1, m1, d1⟩
  have q1 := dNet_one o1
  have lt1 := dNet.lt o1
  have b0 := box_chg b0 c1 (by simp)
  have b1 := box_chg b1 c1 (by simp)
  have bR := box_chg bR c1 (by simp)
  have cH := cH.trans c1
  have lc1 := c1.1
  have e1 : Chg K1 (K1.set (H.length + 2) ⟨[.int .i64 w, .int .i64 h, n.1, n.2.1.1, n.2.1.2, n.2.2.1.1, n.2.2.2.1, n.2.2.2.2.1, n.2.2.2.2.2.1.1, n.2.2.2.2.2.2.1.1, .int .i64 tm, .slice none 0 0], 0, 62⟩) [H.length + 2] := chg_set _ _
  have g1 := set_get (r' := ⟨[.int .i64 w, .int .i64 h, n.1, n.2.1.1, n.2.1.2, n.2.2.1.1, n.2.2.2.1, n.2.2.2.2.1, n.2.2.2.2.2.1.1, n.2.2.2.2.2.2.1.1, .int .i64 tm, .slice none 0 0], 0, 62⟩) b1
  have b0' := box_chg b0 e1 (by simp)
  have bR := box_chg bR e1 (by simp)
  have o1 := Dt.chg (T := dNet) o1 e1 (fun i hi hh => by have := m1 i hi; simp at hh; omega)
  have cH := cH.trans' e1 (fun i hi => .inr (by simp at hi; omega))
  have ls1 : (K1.set (H.length + 2) ⟨[.int .i64 w, .int .i64 h, n.1, n.2.1.1, n.2.1.2, n.2.2.1.1, n.2.2.2.1, n.2.2.2.2.1, n.2.2.2.2.2.1.1, n.2.2.2.2.2.2.1.1, .int .i64 tm, .slice none 0 0], 0, 62⟩).length = K1.length := by simp
  simp [dNet_val, VM.look, b0, b1, one2, one3, one4, one5, one6, one7, one8, one9, one10, q1, hF]
  generalize K1.set (H.length + 2) ⟨[.int .i64 w, .int .i64 h, n.1, n.2.1.1, n.2.1.2, n.2.2.1.1, n.2.2.2.1, n.2.2.2.2.1, n.2.2.2.2.2.1.1, n.2.2.2.2.2.2.1.1, .int .i64 tm, .slice none 0 0], 0, 62⟩ = G1 at *
  clear b0 b1
  try simp [VM.look, b0', one2, one3, one4, one5, one6, one7, one8, one9, one10]
  refine wp_thn (toPacketS_w u10 sent (r10.chg cH (by simp)) l10) ?_
  rintro p K2 ⟨o2, m2, c2⟩
  have q2 := And.intro o2.rd.one' o2.rd.cells
  have b1 := box_chg g1 c2 (by simp)
  have bR := box_chg bR c2 (by simp)
  have o1 := Dt.chg0 (T := dNet) o1 c2
  have cH := cH.trans c2
  have e2 : Chg K2 (K2.set (H.length + 2) ⟨[.int .i64 w, .int .i64 h, n.1, n.2.1.1, n.2.1.2, n.2.2.1.1, n.2.2.2.1, n.2.2.2.2.1, n.2.2.2.2.2.1.1, n.2.2.2.2.2.2.1.1, .int .i64 tm, p], 0, 62⟩) [H.length + 2] := chg_set _ _
  have g2 := set_get (r' := ⟨[.int .i64 w, .int .i64 h, n.1, n.2.1.1, n.2.1.2, n.2.2.1.1, n.2.2.2.1, n.2.2.2.2.1, n.2.2.2.2.2.1.1, n.2.2.2.2.2.2.1.1, .int .i64 tm, p], 0, 62⟩) b1
  have bR := box_chg bR e2 (by simp)
  have o1 := Dt.chg (T := dNet) o1 e2 (fun i hi hh => by have := m1 i hi; simp at hh; omega)
  have o2 := o2.chg e2 (fun i hi hh => by have := m2 i hi; simp at hh; omega)
  have cH := cH.trans' e2 (fun i hi => .inr (by simp at hi; omega))
  simp [VM.look, b1, q1, q2, hF]
  generalize K2.set (H.length + 2) ⟨[.int .i64 w, .int .i64 h, n.1, n.2.1.1, n.2.1.2, n.2.2.1.1, n.2.2.2.1, n.2.2.2.2.1, n.2.2.2.2.2.1.1, n.2.2.2.2.2.2.1.1, .int .i64 tm, p], 0, 62⟩ = G2 at *
  have gR := set_get (r' := ⟨[.int .i64 w, .int .i64 h, n.1, n.2.1.1, n.2.1.2, n.2.2.1.1, n.2.2.2.1, n.2.2.2.2.1, n.2.2.2.2.2.1.1, n.2.2.2.2.2.2.1.1, .int .i64 tm, p], 0, 62⟩) bR
  have eR : Chg G2 (G2.set (H.length + 1) ⟨[.int .i64 w, .int .i64 h, n.1, n.2.1.1, n.2.1.2, n.2.2.1.1, n.2.2.2.1, n.2.2.2.2.1, n.2.2.2.2.2.1.1, n.2.2.2.2.2.2.1.1, .int .i64 tm, p], 0, 62⟩) [H.length + 1] := chg_set _ _
  have o1 := Dt.chg (T := dNet) o1 eR (fun i hi hh => by have := m1 i hi; simp at hh; omega)
  have o2 := o2.chg eR (fun i hi hh => by have := m2 i hi; simp at hh; omega)
  have cH := cH.trans' eR (fun i hi => .inr (by simp at hi; omega))
  try simp [VM.look, g2, bR, gR, hF1, q1, q2]
  refine ⟨(n, p), rfl, ⟨o1, o2, l10⟩, cH, fun i hi => ?_, ?_⟩
  · rcases List.mem_append.1 hi with hi | hi
    · have := m1 i hi; omega
    · have := m2 i hi; omega
  · exact nd_app d1 (ids_nodup p) lt1 (fun i hi => by have := m2 i hi; omega)
end Go.Proofs.Ytcigpclbhfkgaaa.V
/-! Valid networks. -/
set_option linter.all false
namespace Go.Proofs.Ytcigpclbhfkgaaa.V
open Go Go.VM Go.Proofs
set_option maxRecDepth 10000
variable {frz : Nat} {H : Heap}
def flitOk (w h : Int) (f : FlitD) : Prop := isN w h f.2.1 ∧ inR 0 f.2.2.1 1
instance (w h : Int) (f : FlitD) : Decidable (flitOk w h f) := inferInstanceAs (Decidable (_ ∧ _))
def flitsOk (w h : Int) (l : List FlitD) : Prop := ∀ f ∈ l, flitOk w h f
instance (w h : Int) (l : List FlitD) : Decidable (flitsOk w h l) := inferInstanceAs (Decidable (∀ f ∈ l, flitOk w h f))
def sizesOk (x : NetD) : Prop := (x.2.2.1.length : Int) = 10 * cnt x.1.1 x.1.2.1 ∧ (x.2.2.2.1.length : Int) = 10 * cnt x.1.1 x.1.2.1 ∧ (x.2.2.2.2.1.length : Int) = 5 * cnt x.1.1 x.1.2.1 ∧ (x.2.2.2.2.2.1.length : Int) = cnt x.1.1 x.1.2.1 ∧ (x.2.2.2.2.2.2.1.length : Int) = cnt x.1.1 x.1.2.1
instance (x : NetD) : Decidable (sizesOk x) := inferInstanceAs (Decidable (_ ∧ _))
def bufOk (w h : Int) (l : List FlitD) (c : Int) : Prop := l.length ≤ 3 ∧ (∀ f ∈ l, f.2.2.1 = c) ∧ flitsOk w h l
instance (w h : Int) (l : List FlitD) (c : Int) : Decidable (bufOk w h l c) := inferInstanceAs (Decidable (_ ∧ _))
def srcOk (w h : Int) (l : List FlitD) : Prop := l.length ≤ 60 ∧ flitsOk w h l
instance (w h : Int) (l : List FlitD) : Decidable (srcOk w h l) := inferInstanceAs (Decidable (_ ∧ _))
/-- a valid network -/
def netOk (x : NetD) : Prop := classesOk x.1.1 x.1.2.1 x.1.2.2 x.2.1.1 x.2.1.2 ∧ sizesOk x ∧ (∀ i, i < x.2.2.1.length → bufOk x.1.1 x.1.2.1 (x.2.2.1.getD i []) ((i : Int) % 2)) ∧ (∀ l ∈ x.2.2.2.2.2.1, srcOk x.1.1 x.1.2.1 l) ∧
  (∀ o ∈ x.2.2.2.1, inR (-1) o 4) ∧ (∀ o ∈ x.2.2.2.2.1, inR 0 o 9) ∧ inR 0 x.2.2.2.2.2.2.2 1000000
instance (x : NetD) : Decidable (netOk x) := inferInstanceAs (Decidable (_ ∧ _))
theorem areFlits_c (w h : Int) (v : Value) (xs : List FlitD) (hI : Rd flF H v xs) (hl : xs.length ≤ 1073741824) :
   vcall C frz 107 [.agg #[.int .i64 w, .int .i64 h], v] H = some (.bool (decide (flitsOk w h xs)), H) := by
  refine wp.exact (by simp) ?_ rfl
  rw [vcall_go (fn := Try.f107) Try.func107 rfl (by kernel_rfl) rfl]
  generalize hB : decide (flitsOk w h xs) = B
  simp [hI.app.len (P := Try.prog) (ty := 123) (by simp)]
  refine wp_inv (fun n t H' => ∃ i : Nat, n = xs.length - i ∧ i ≤ xs.length ∧ t 2 = .pointer (some ⟨H.length, 0, some 0⟩) ∧ t 7 = v ∧ t 8 = .int .i64 xs.length ∧ t 9 = .int .i64 i ∧ Chg H H' [] ∧ H'[H.length]? = some ⟨[.int .i64 w, .int .i64 h], 0, 36⟩ ∧ ∀ f ∈ xs.take i, flitOk w h f) ?_ (n := xs.length)
    ⟨0, rfl, by omega, by simp, by simp, by simp, by simp, Chg.app _, by simp, by simp⟩
  rintro n t H' ⟨i, rfl, hi, t2, t7, t8, t9, c, b2, hk⟩ ih
  simp [t2, t7, t8, t9]
  refine wp_dec ?_ ?_ <;> intro g
  · have hi' : i < xs.length := by omega
    have rd := hI.chg c (by simp)
    have q1 := rd.idx (P := Try.prog) (ty := 123) (e := 134) (by simp) (i := (i : Int)) (by omega) (by omega)
    have q2 := rd.load (P := Try.prog) (e := 134) (by simp) hi'
    simp only [Int.toNat_natCast, flF_n] at q1 q2
    have l0 := c.1
    have hF : H.length ≤ H'.length := l0
    have b2' := fun r => box_chg (get_app' b2 [r]) (chg_set H'.length r) (by simp; have := box_lt b2; omega)
    have hlt := box_lt b2
    have hne : H'.length ≠ H.length := by omega
    have key : flitOk w h xs[i] ↔ isN w h xs[i].2.1 ∧ inR 0 xs[i].2.2.1 1 := Iff.rfl
    have hsucc : ∀ f ∈ xs.take (i + 1), f ∈ xs.take i ∨ f = xs[i] := fun f hf => by
      rw [List.take_succ_eq_append_getElem hi'] at hf
      rcases List.mem_append.1 hf with hf | hf
      · exact .inl hf
      · exact .inr (List.mem_singleton.1 hf)
    have hno : ¬ flitOk w h xs[i] → ¬ flitsOk w h xs := fun hh k => hh (k _ (List.getElem_mem hi'))
    simp [t2, t7, t8, t9, q1, q2, hF, flF_f, VM.look, b2, get_app' b2, isNode_c, inside_c]
    by_cases g1 : isN w h xs[i].2.1
    · by_cases g2 : inR 0 xs[i].2.2.1 1
      · simp [t2, t7, t8, t9, g1, g2, inside_c]
        refine ih (xs.length - (i + 1)) _ _ ⟨i + 1, rfl, by omega, by simp [t2], by simp [t7], by simp [t8], ?_, c.trans (Chg.app _), get_app' b2 _, fun f hf => ?_⟩ (by omega)
        · simp; rw [w64 (by omega) (by omega)]
        · rcases hsucc f hf with hf | rfl
          · exact hk f hf
          · exact ⟨g1, g2⟩
      · simp [t2, t7, t8, t9, g1, g2, inside_c]
        rw [← hB]; exact decide_eq_false (hno (fun hh => g2 hh.2))
    · simp [t2, t7, t8, t9, g1]
      rw [← hB]; exact decide_eq_false (hno (fun hh => g1 hh.1))
  · have : i = xs.length := by omega
    subst this
    rw [List.take_length] at hk
    simp [t2, t7, t8, t9]
    rw [← hB]; exact decide_eq_true hk
theorem l15Flits_c (w h : Int) (v : Value) (xs : List FlitD) (hI : Rd flF H v xs) (hl : xs.length ≤ 1073741824) :
   vcall C frz 119 [.agg #[.int .i64 w, .int .i64 h], v] H = some (.bool (decide (flitsOk w h xs)), H) := by
  refine wp.exact (by simp) ?_ rfl
  rw [vcall_go (fn := Try.f119) Try.func119 rfl (by kernel_rfl) rfl]
  generalize hB : decide (flitsOk w h xs) = B
  simp
  have rd : Rd flF (H ++ [⟨[.int .i64 w, .int .i64 h], 0, 36⟩]) v xs := hI.app
  refine wp_inv (fun n t H' => ∃ i : Nat, n = xs.length - i ∧ i ≤ xs.length ∧ t 1 = v ∧ t 2 = .pointer (some ⟨H.length, 0, some 0⟩) ∧ t 5 = .int .i64 i ∧ H' = H ++ [⟨[.int .i64 w, .int .i64 h], 0, 36⟩] ∧ ∀ f ∈ xs.take i, flitOk w h f) ?_ (n := xs.length)
    ⟨0, rfl, by omega, by simp, by simp, by simp, rfl, by simp⟩
  rintro n t H' ⟨i, rfl, hi, t1, t2, t5, rfl, hk⟩ ih
  simp [t1, t2, t5, rd.len (P := Try.prog) (ty := 123) (by simp)]
  refine wp_dec ?_ ?_ <;> intro g
  · have hi' : i < xs.length := by omega
    have q1 := rd.idx (P := Try.prog) (ty := 123) (e := 134) (by simp) (i := (i : Int)) (by omega) (by omega)
    have q2 := rd.cell (P := Try.prog) (e := 3) (by simp) hi' (c := 1) (by decide)
    have q3 := rd.cell (P := Try.prog) (e := 3) (by simp) hi' (c := 2) (by decide)
    have q4 := rd.field (P := Try.prog) (s := 134) (f := 1) (o := 1) (n := 1) (ag := false) (by simp) (j := i * 5) (by omega)
    have q5 := rd.field (P := Try.prog) (s := 134) (f := 2) (o := 2) (n := 1) (ag := false) (by simp) (j := i * 5) (by omega)
    simp only [Int.toNat_natCast, flF_n, flF_f] at q1 q2 q3
    simp at q2 q3
    have hsucc : ∀ f ∈ xs.take (i + 1), f ∈ xs.take i ∨ f = xs[i] := fun f hf => by
      rw [List.take_succ_eq_append_getElem hi'] at hf
      rcases List.mem_append.1 hf with hf | hf
      · exact .inl hf
      · exact .inr (List.mem_singleton.1 hf)
    have hno : ¬ flitOk w h xs[i] → ¬ flitsOk w h xs := fun hh k => hh (k _ (List.getElem_mem hi'))
    simp [t1, t2, t5]
    rw [go_draw (h := by kernel_rfl)]
    simp [-vfieldAddr, vfa_ptr, t1, t2, t5, q1, q2, q3, q4, q5, l02Has_c]
    by_cases g1 : isN w h xs[i].2.1
    · by_cases g2 : inR 0 xs[i].2.2.1 1
      · simp [-vfieldAddr, vfa_ptr, t1, t2, t5, g1, g2, l01In_c, q1, q5, q3]
        refine ih (xs.length - (i + 1)) _ _ ⟨i + 1, rfl, by omega, by simp [t1], by simp [t2], ?_, rfl, fun f hf => ?_⟩ (by omega)
        · simp; rw [w64 (by omega) (by omega)]
        · rcases hsucc f hf with hf | rfl
          · exact hk f hf
          · exact ⟨g1, g2⟩
      · simp [-vfieldAddr, vfa_ptr, t1, t2, t5, g1, g2, l01In_c, q1, q5, q3]
        rw [← hB]; exact decide_eq_false (hno (fun hh => g2 hh.2))
    · simp [t1, t2, t5, g1]
      rw [← hB]; exact decide_eq_false (hno (fun hh => g1 hh.1))
  · have : i = xs.length := by omega
    subst this
    rw [List.take_length] at hk
    simp [t1, t2, t5]
    rw [← hB]; exact decide_eq_true hk
theorem classOnly_w (v : Value) (xs : List FlitD) (c : Int) (hI : Rd flF H v xs) (hl : xs.length ≤ 1073741824) :
   wp (vcall C frz 106 [v, .int .i64 c] H) (fun r H' => Ow flF 134 H' r (xs.filter fun f => f.2.2.1 = c) ∧ (∀ i ∈ ids r, H.length ≤ i) ∧ Chg H H' []) := by
  rw [vcall_go (fn := Try.f106) Try.func106 rfl (by kernel_rfl) rfl]
  simp [hI.app.len (P := Try.prog) (ty := 123) (by simp)]
  refine wp_inv (fun n t H' => ∃ (i : Nat) (r : Value), n = xs.length - i ∧ i ≤ xs.length ∧ t 1 = .int .i64 c ∧ t 5 = r ∧ t 9 = v ∧ t 10 = .int .i64 xs.length ∧ t 11 = .int .i64 i ∧ Chg H H' [] ∧ Ow flF 134 H' r ((xs.take i).filter fun f => f.2.2.1 = c) ∧ (∀ j ∈ ids r, H.length ≤ j)) ?_ (n := xs.length)
    ⟨0, .slice (some ⟨H.length, 0, some 0⟩) 0 0, rfl, by omega, by simp, by simp, by simp, by simp, by simp, Chg.app _, Ow.new0 (D := flF) (xs := []) rfl rfl rfl rfl, by simp⟩
  rintro n t H' ⟨i, r, rfl, hi, t1, t5, t9, t10, t11, ch, o, nr⟩ ih
  simp [t1, t5, t9, t10, t11]
  refine wp_dec ?_ ?_ <;> intro g
  · have hi' : i < xs.length := by omega
    have rd := hI.chg ch (by simp)
    have q1 := rd.idx (P := Try.prog) (ty := 123) (e := 134) (by simp) (i := (i : Int)) (by omega) (by omega)
    have q2 := rd.load (P := Try.prog) (e := 134) (by simp) hi'
    simp only [Int.toNat_natCast, flF_n] at q1 q2
    have hF : H.length ≤ H'.length := ch.1
    have hfl := List.length_filter_le (fun f : FlitD => decide (f.2.2.1 = c)) (xs.take i)
    have htl : (xs.take i).length ≤ i := by simp; omega
    simp [t1, t5, t9, t10, t11, q1, q2, hF, flF_f, VM.look]
    refine wp_dec ?_ ?_ <;> intro g1
    · obtain ⟨r', H2, hap, o2, c2, n2⟩ := (o.app (L := [⟨flF.f xs[i], 0, 134⟩])).push (P := Try.prog) (frz := H.length) (ty := 123) (a := xs[i]) (by simp) rfl (by omega) nr
      simp only [flF_f, List.append_assoc, List.cons_append, List.nil_append, List.length_append, List.length_cons, List.length_nil] at hap
      simp [t1, t5, t9, t10, t11, hap]
      refine ih (xs.length - (i + 1)) _ _ ⟨i + 1, r', rfl, by omega, by simp [t1], by simp, by simp [t9], by simp [t10], ?_, (ch.trans (Chg.app _)).trans' c2 (fun j hj => .inr (nr j hj)), ?_, fun j hj => ?_⟩ (by omega)
      · simp; rw [w64 (by omega) (by omega)]
      · rw [List.take_succ_eq_append_getElem hi', List.filter_append]; simpa [g1] using o2
      · rcases n2 j hj with h1 | h1
        · exact nr j h1
        · simp at h1; omega
    · simp [t1, t5, t9, t10, t11, g1]
      refine ih (xs.length - (i + 1)) _ _ ⟨i + 1, r, rfl, by omega, by simp [t1], by simp [t5], by simp [t9], by simp [t10], ?_, ch.trans (Chg.app _), ?_, nr⟩ (by omega)
      · simp; rw [w64 (by omega) (by omega)]
      · rw [List.take_succ_eq_append_getElem hi', List.filter_append]; simpa [g1] using o.app
  · have : i = xs.length := by omega
    subst this
    rw [List.take_length] at o
    simp [t1, t5, t9, t10, t11]
    exact ⟨o, nr, ch⟩
end Go.Proofs.Ytcigpclbhfkgaaa.V
/-! Valid networks: what the program and the reference say. -/
set_option linter.all false
namespace Go.Proofs.Ytcigpclbhfkgaaa.V
open Go Go.VM Go.Proofs
set_option maxRecDepth 10000
variable {frz : Nat} {H : Heap}
theorem filter_len_all {l : List FlitD} {c : Int} : (l.filter fun f => f.2.2.1 = c).length = l.length ↔ ∀ f ∈ l, f.2.2.1 = c := by
  rw [List.length_filter_eq_length_iff]; simp
theorem tmod2 (i : Nat) : (i : Int).tmod 2 = (i : Int) % 2 := Int.tmod_eq_emod_of_nonneg (by omega)
theorem getD_at {α : Type} {l : List α} {d : α} {i : Nat} (h : i < l.length) : l.getD i d = l[i] := by simp [List.getD_eq_getElem?_getD, h]
theorem mem_take_succ {α : Type} {l : List α} {i : Nat} (h : i < l.length) {x : α} (hx : x ∈ l.take (i + 1)) : x ∈ l.take i ∨ x = l[i] := by
  rw [List.take_succ_eq_append_getElem h] at hx
  rcases List.mem_append.1 hx with hx | hx
  · exact .inl hx
  · exact .inr (List.mem_singleton.1 hx)
theorem netOk_d {v : NetV} {x : NetD} (o : dNet.Ow H v x) : vcall C frz 49 [dNet.val v x] H = some (.bool (decide (netOk x)), H) := by
  have oo := dNet_one o
  obtain ⟨u2, ⟨u3, u4⟩, ⟨u5, h5⟩, u6, u7, ⟨u8, h8⟩, ⟨u9, h9⟩, _⟩ := v
  obtain ⟨⟨w, h, b⟩, ⟨A, B⟩, buf, own, turn, src, arr, tm⟩ := x
  obtain ⟨o2, o3, o5, o6, o7, o8, o9, _⟩ := o
  simp only at o2 o3 o5 o6 o7 o8 o9
  obtain ⟨p2, p3, p4, p5, p6, p7, p8, p9⟩ := oo
  simp only at p2 p3 p4 p5 p6 p7 p8 p9
  rw [dNet_val]
  refine wp.exact (by simp) ?_ rfl
  rw [vcall_go (fn := Try.f49) Try.func49 rfl (by kernel_rfl) rfl]
  generalize hY : decide (netOk ((w, h, b), (A, B), buf, own, turn, src, arr, tm)) = Y
  obtain ⟨N, hN⟩ : ∃ N : Nat, cnt w h = N := ⟨(cnt w h).toNat, by have := cnt_range w h; omega⟩
  have hN2 : N ≤ 16 := by have := cnt_range w h; omega
  have w10 : ∀ [Inhabited Unit], IntKind.i64.wrap (10 * (N : Int)) = 10 * (N : Int) := by intro _; exact w64 (by omega) (by omega)
  have w5 : ∀ [Inhabited Unit], IntKind.i64.wrap (5 * (N : Int)) = 5 * (N : Int) := by intro _; exact w64 (by omega) (by omega)
  have cok := fun F L => classesOk_c (frz := F) (H := H ++ L) w h u2 u3 u4 b A B (Rd.isI o2.1.rd.app) (Rd.isI o3.1.1.rd.app) (Rd.isI o3.2.1.rd.app) o2.2
  have ln5 := fun (L : Heap) => (RdL.app (L := L) o5.1.rd).1.len (P := Try.prog) (ty := 57) (by simp)
  have ln8 := fun (L : Heap) => (RdL.app (L := L) o8.1.rd).1.len (P := Try.prog) (ty := 57) (by simp)
  have ln9 := fun (L : Heap) => (RdL.app (L := L) o9.1.rd).1.len (P := Try.prog) (ty := 57) (by simp)
  have ln6 := fun (L : Heap) => (Rd.app (L := L) o6.1.rd).len (P := Try.prog) (ty := 24) (by simp)
  have ln7 := fun (L : Heap) => (Rd.app (L := L) o7.1.rd).len (P := Try.prog) (ty := 24) (by simp)
  have hl5 := o5.1.rd.2.1
  have hl8 := o8.1.rd.2.1
  have hl9 := o9.1.rd.2.1
  have hb5 := o5.2.1
  have hb8 := o8.2.1
  simp only at ln5 ln8 ln9 ln6 ln7 hl5 hl8 hl9 hb5 hb8
  have no : ¬ netOk ((w, h, b), (A, B), buf, own, turn, src, arr, tm) → false = Y := fun hh => by rw [← hY]; exact (decide_eq_false hh).symm
  have no' : ¬ netOk ((w, h, b), (A, B), buf, own, turn, src, arr, tm) → Y = false := fun hh => (no hh).symm
  have ones := And.intro p2 (And.intro p3 (And.intro p4 (And.intro p5 (And.intro p6 (And.intro p7 (And.intro p8 p9))))))
  simp [ones, nodeCount_c, hN, cok, w10, w5]
  by_cases c1 : classesOk w h b A B
  rotate_left
  · simp [c1]; exact no' (fun k => c1 k.1)
  by_cases c2 : (buf.length : Int) = 10 * N
  rotate_left
  · simp [c1, c2, ones, ln5, hl5, w10]; exact no' (fun k => c2 (by have := k.2.1.1; simp only [hN] at this; exact this))
  by_cases c3 : (own.length : Int) = 10 * N
  rotate_left
  · simp [c1, c2, c3, ones, ln5, hl5, ln6, w10]; exact no' (fun k => c3 (by have := k.2.1.2.1; simp only [hN] at this; exact this))
  by_cases c4 : (turn.length : Int) = 5 * N
  rotate_left
  · simp [c1, c2, c3, c4, ones, ln5, hl5, ln6, ln7, w10, w5]; exact no' (fun k => c4 (by have := k.2.1.2.2.1; simp only [hN] at this; exact this))
  by_cases c5 : (src.length : Int) = N
  rotate_left
  · simp [c1, c2, c3, c4, c5, ones, ln5, hl5, ln6, ln7, ln8, hl8, w10, w5]; exact no' (fun k => c5 (by have := k.2.1.2.2.2.1; simp only [hN] at this; exact this))
  by_cases c6 : (arr.length : Int) = N
  rotate_left
  · simp [c1, c2, c3, c4, c5, c6, ones, ln5, hl5, ln6, ln7, ln8, hl8, ln9, hl9, w10, w5]; exact no' (fun k => c6 (by have := k.2.1.2.2.2.2; simp only [hN] at this; exact this))
  have hsz : sizesOk ((w, h, b), (A, B), buf, own, turn, src, arr, tm) := by unfold sizesOk; simp only [hN]; exact ⟨c2, c3, c4, c5, c6⟩
  simp [c1, c2, c3, c4, c5, c6, ones, ln5, hl5, ln6, ln7, ln8, hl8, ln9, hl9, w10, w5]
  refine wp_inv (fun n t H' => ∃ i : Nat, n = buf.length - i ∧ i ≤ buf.length ∧ t 1 = .pointer (some ⟨H.length, 0, some 0⟩) ∧ t 57 = u5 ∧ t 58 = .int .i64 buf.length ∧ t 59 = .int .i64 i ∧ Chg H H' [] ∧
      H'[H.length]? = some ⟨[.int .i64 w, .int .i64 h, u2, u3, u4, u5, u6, u7, u8, u9, .int .i64 tm], 0, 59⟩ ∧ ∀ j, j < i → bufOk w h (buf.getD j []) ((j : Int) % 2)) ?_ (n := buf.length)
    ⟨0, rfl, by omega, by simp, by simp, by simp [c2], by simp, Chg.app _, by simp, by omega⟩
  rintro n t H' ⟨i, rfl, hi, t1, t57, t58, t59, ch, b0, hk⟩ ih
  simp [t1, t57, t58, t59]
  refine wp_dec ?_ ?_ <;> intro g
  · have hi' : i < buf.length := by omega
    have rl := o5.1.rd.chg ch (by simp)
    obtain ⟨u, _, a2, a3, a4⟩ := RdL_at rl (ty := 57) (e := 123) (by simp) (by simp) hi'
    have hlen := o5.2.2 _ (List.getElem_mem hi')
    simp only at a2 a3 a4 hlen
    have lu := a4.len (P := Try.prog) (ty := 123) (by simp)
    have hbg : buf.getD i [] = buf[i] := getD_at hi'
    have bad : ¬ bufOk w h buf[i] ((i : Int) % 2) → Y = false := fun hh => no' (fun k => hh (by have := k.2.2.1 i hi'; simp only [hbg] at this; exact this))
    obtain ⟨l, hl⟩ : ∃ l, l = buf[i] := ⟨_, rfl⟩
    rw [← hl] at a4 lu hlen bad hbg
    simp [t1, t57, t58, t59, a2, a3, lu]
    by_cases g1 : l.length ≤ 3
    rotate_left
    · have g1' : (3 : Int) < l.length := by omega
      simp [g1']; exact bad (fun k => g1 k.1)
    have g1' : ¬ (3 : Int) < l.length := by omega
    simp [g1', t1, t57, t58, t59, tmod2]
    refine wp_thn (classOnly_w u l ((i : Int) % 2) a4 (by omega)) ?_
    rintro r H2 ⟨orr, nr, cc⟩
    have b0 := box_chg b0 cc (by simp)
    have lr := orr.rd.len (P := Try.prog) (ty := 123) (by simp)
    have lu2 := (a4.chg cc (by simp)).len (P := Try.prog) (ty := 123) (by simp)
    have hfl := filter_len_all (l := l) (c := (i : Int) % 2)
    generalize (l.filter fun f => f.2.2.1 = (i : Int) % 2).length = q at *
    simp [t1, t57, t58, t59, lr, lu2]
    by_cases g2 : q = l.length
    rotate_left
    · have g2' : ¬ (q : Int) = l.length := by omega
      simp [g2']; exact bad (fun k => g2 (hfl.2 k.2.1))
    have af := fun F => areFlits_c (frz := F) (H := H2) w h u l (a4.chg cc (by simp)) (by omega)
    simp [g2, t1, t57, t58, t59, VM.look, b0, af]
    by_cases g3 : flitsOk w h l
    rotate_left
    · simp [g3]; exact bad (fun k => g3 k.2.2)
    simp [g3, t1, t57, t58, t59]
    refine ih (buf.length - (i + 1)) _ _ ⟨i + 1, rfl, by omega, by simp [t1], by simp [t57], by simp [t58], ?_, ch.trans cc, b0, fun j hj => ?_⟩ (by omega)
    · simp; rw [w64 (by omega) (by omega)]
    · by_cases hji : j < i
      · exact hk j hji
      · have : j = i := by omega
        subst this
        rw [hbg]; exact ⟨g1, hfl.1 g2, g3⟩
  · have : i = buf.length := by omega
    subst this
    clear ih
    have l8 := (o8.1.rd.chg ch (by simp)).1.len (P := Try.prog) (ty := 57) (by simp)
    simp only at l8
    simp [t1, t57, t58, t59, VM.look, b0, ones, l8, hl8]
    refine wp_inv (fun n t H2 => ∃ i : Nat, n = src.length - i ∧ i ≤ src.length ∧ t 1 = .pointer (some ⟨H.length, 0, some 0⟩) ∧ t 87 = u8 ∧ t 88 = .int .i64 src.length ∧ t 89 = .int .i64 i ∧ H2 = H' ∧ ∀ l ∈ src.take i, srcOk w h l) ?_ (n := src.length)
      ⟨0, rfl, by omega, by simp [t1], by simp, by simp, by simp, rfl, by simp⟩
    clear t1 t57 t58 t59
    rintro n t H2 ⟨i, rfl, hi, t1, t87, t88, t89, rfl, hk2⟩ ih
    simp [t1, t87, t88, t89]
    refine wp_dec ?_ ?_ <;> intro g
    · have hi' : i < src.length := by omega
      have rl := o8.1.rd.chg ch (by simp)
      obtain ⟨u, _, a2, a3, a4⟩ := RdL_at rl (ty := 57) (e := 123) (by simp) (by simp) hi'
      have hlen := o8.2.2 _ (List.getElem_mem hi')
      simp only at a2 a3 a4 hlen
      have lu := a4.len (P := Try.prog) (ty := 123) (by simp)
      have bad : ¬ srcOk w h src[i] → Y = false := fun hh => no' (fun k => hh (k.2.2.2.1 _ (List.getElem_mem hi')))
      have hst := fun {x} (hx : x ∈ src.take (i + 1)) => mem_take_succ hi' hx
      obtain ⟨l, hl⟩ : ∃ l, l = src[i] := ⟨_, rfl⟩
      rw [← hl] at a4 lu hlen bad hst
      simp [t1, t87, t88, t89, a2, a3, lu]
      by_cases g1 : l.length ≤ 60
      rotate_left
      · have g1' : (60 : Int) < l.length := by omega
        simp [g1']; exact bad (fun k => g1 k.1)
      have g1' : ¬ (60 : Int) < l.length := by omega
      have af := fun F => areFlits_c (frz := F) (H := H2) w h u l a4 (by omega)
      simp [g1', t1, t87, t88, t89, VM.look, b0, af]
      by_cases g3 : flitsOk w h l
      rotate_left
      · simp [g3]; exact bad (fun k => g3 k.2)
      simp [g3, t1, t87, t88, t89]
      refine ih (src.length - (i + 1)) _ _ ⟨i + 1, rfl, by omega, by simp [t1], by simp [t87], by simp [t88], ?_, rfl, fun x hx => ?_⟩ (by omega)
      · simp; rw [w64 (by omega) (by omega)]
      · rcases hst hx with hx | rfl
        · exact hk2 x hx
        · exact ⟨g1, g3⟩
    · have : i = src.length := by omega
      subst this
      rw [List.take_length] at hk2
      have ai := fun F => areInside_c (frz := F) (H := H2) u6 own (-1) 4 (Rd.isI (o6.1.rd.chg ch (by simp))) (by have := o6.2; omega)
      have ai2 := fun F => areInside_c (frz := F) (H := H2) u7 turn 0 9 (Rd.isI (o7.1.rd.chg ch (by simp))) (by have := o7.2; omega)
      have ai3 := fun F => inside_c (frz := F) (H := H2) tm 0 1000000
      have hiff : netOk ((w, h, b), (A, B), buf, own, turn, src, arr, tm) ↔ (∀ x ∈ own, inR (-1) x 4) ∧ (∀ x ∈ turn, inR 0 x 9) ∧ inR 0 tm 1000000 :=
        ⟨fun k => k.2.2.2.2, fun k => ⟨c1, hsz, hk, hk2, k⟩⟩
      have hY2 : Y = (decide (∀ x ∈ own, inR (-1) x 4) && decide (∀ x ∈ turn, inR 0 x 9) && decide (inR 0 tm 1000000)) := by
        rw [← hY, Bool.eq_iff_iff]; simp only [decide_eq_true_eq, Bool.and_eq_true, and_assoc]; exact hiff
      generalize decide (∀ x ∈ own, inR (-1) x 4) = P1 at *
      generalize decide (∀ x ∈ turn, inR 0 x 9) = P2 at *
      generalize decide (inR 0 tm 1000000) = P3 at *
      simp [t1, t87, t88, t89, VM.look, b0, ones, ai, ai2, ai3, hY2]
      cases P1 <;> cases P2 <;> cases P3 <;> simp [t1, VM.look, b0, ones, ai2, ai3]
theorem sNetOk_d {v : NetV} {x : NetD} (o : dNet.Ow H v x) : vcall C frz 66 [dNet.val v x] H = some (.bool (decide (netOk x)), H) := by
  have oo := dNet_one o
  obtain ⟨u2, ⟨u3, u4⟩, ⟨u5, h5⟩, u6, u7, ⟨u8, h8⟩, ⟨u9, h9⟩, _⟩ := v
  obtain ⟨⟨w, h, b⟩, ⟨A, B⟩, buf, own, turn, src, arr, tm⟩ := x
  obtain ⟨o2, o3, o5, o6, o7, o8, o9, _⟩ := o
  simp only at o2 o3 o5 o6 o7 o8 o9
  obtain ⟨p2, p3, p4, p5, p6, p7, p8, p9⟩ := oo
  simp only at p2 p3 p4 p5 p6 p7 p8 p9
  rw [dNet_val]
  refine wp.exact (by simp) ?_ rfl
  rw [vcall_go (fn := Try.f66) Try.func66 rfl (by kernel_rfl) rfl]
  generalize hY : decide (netOk ((w, h, b), (A, B), buf, own, turn, src, arr, tm)) = Y
  obtain ⟨N, hN⟩ : ∃ N : Nat, cnt w h = N := ⟨(cnt w h).toNat, by have := cnt_range w h; omega⟩
  have hN2 : N ≤ 16 := by have := cnt_range w h; omega
  have w10 : ∀ [Inhabited Unit], IntKind.i64.wrap (10 * (N : Int)) = 10 * (N : Int) := by intro _; exact w64 (by omega) (by omega)
  have w5 : ∀ [Inhabited Unit], IntKind.i64.wrap (5 * (N : Int)) = 5 * (N : Int) := by intro _; exact w64 (by omega) (by omega)
  have cok := fun F L => sClassesOk_c (frz := F) (H := H ++ L) w h u2 u3 u4 b A B (Rd.isI o2.1.rd.app) (Rd.isI o3.1.1.rd.app) (Rd.isI o3.2.1.rd.app) o2.2
  have ln5 := fun (L : Heap) => (RdL.app (L := L) o5.1.rd).1.len (P := Try.prog) (ty := 57) (by simp)
  have ln8 := fun (L : Heap) => (RdL.app (L := L) o8.1.rd).1.len (P := Try.prog) (ty := 57) (by simp)
  have ln9 := fun (L : Heap) => (RdL.app (L := L) o9.1.rd).1.len (P := Try.prog) (ty := 57) (by simp)
  have ln6 := fun (L : Heap) => (Rd.app (L := L) o6.1.rd).len (P := Try.prog) (ty := 24) (by simp)
  have ln7 := fun (L : Heap) => (Rd.app (L := L) o7.1.rd).len (P := Try.prog) (ty := 24) (by simp)
  have hl5 := o5.1.rd.2.1
  have hl8 := o8.1.rd.2.1
  have hl9 := o9.1.rd.2.1
  have hb5 := o5.2.1
  have hb8 := o8.2.1
  simp only at ln5 ln8 ln9 ln6 ln7 hl5 hl8 hl9 hb5 hb8
  have no : ¬ netOk ((w, h, b), (A, B), buf, own, turn, src, arr, tm) → false = Y := fun hh => by rw [← hY]; exact (decide_eq_false hh).symm
  have no' : ¬ netOk ((w, h, b), (A, B), buf, own, turn, src, arr, tm) → Y = false := fun hh => (no hh).symm
  have ones := And.intro p2 (And.intro p3 (And.intro p4 (And.intro p5 (And.intro p6 (And.intro p7 (And.intro p8 p9))))))
  simp [ones, sNodeCount_c, hN, cok, w10, w5]
  by_cases c1 : classesOk w h b A B
  rotate_left
  · simp [c1]; exact no' (fun k => c1 k.1)
  by_cases c2 : (buf.length : Int) = 10 * N
  rotate_left
  · simp [c1, c2, ones, ln5, hl5, w10]; exact no' (fun k => c2 (by have := k.2.1.1; simp only [hN] at this; exact this))
  by_cases c3 : (own.length : Int) = 10 * N
  rotate_left
  · simp [c1, c2, c3, ones, ln5, hl5, ln6, w10]; exact no' (fun k => c3 (by have := k.2.1.2.1; simp only [hN] at this; exact this))
  by_cases c4 : (turn.length : Int) = 5 * N
  rotate_left
  · simp [c1, c2, c3, c4, ones, ln5, hl5, ln6, ln7, w10, w5]; exact no' (fun k => c4 (by have := k.2.1.2.2.1; simp only [hN] at this; exact this))
  by_cases c5 : (src.length : Int) = N
  rotate_left
  · simp [c1, c2, c3, c4, c5, ones, ln5, hl5, ln6, ln7, ln8, hl8, w10, w5]; exact no' (fun k => c5 (by have := k.2.1.2.2.2.1; simp only [hN] at this; exact this))
  by_cases c6 : (arr.length : Int) = N
  rotate_left
  · simp [c1, c2, c3, c4, c5, c6, ones, ln5, hl5, ln6, ln7, ln8, hl8, ln9, hl9, w10, w5]; exact no' (fun k => c6 (by have := k.2.1.2.2.2.2; simp only [hN] at this; exact this))
  by_cases c7 : inR 0 tm 1000000
  rotate_left
  · simp [c1, c2, c3, c4, c5, c6, c7, l01In_c, ones, ln5, hl5, ln6, ln7, ln8, hl8, ln9, hl9, w10, w5]; exact no' (fun k => c7 k.2.2.2.2.2.2)
  have hsz : sizesOk ((w, h, b), (A, B), buf, own, turn, src, arr, tm) := by unfold sizesOk; simp only [hN]; exact ⟨c2, c3, c4, c5, c6⟩
  simp [c1, c2, c3, c4, c5, c6, c7, l01In_c, ones, ln5, hl5, ln6, ln7, ln8, hl8, ln9, hl9, w10, w5]
  have hbl : buf.length = 10 * N := by omega
  have hol : own.length = 10 * N := by omega
  have htl : turn.length = 5 * N := by omega
  have hsl : src.length = N := by omega
  obtain ⟨G, hG⟩ : ∃ G, G = H ++ [⟨[.int .i64 w, .int .i64 h, u2, u3, u4, u5, u6, u7, u8, u9, .int .i64 tm], 0, 59⟩] := ⟨_, rfl⟩
  rw [← hG]
  have b0 : G[H.length]? = some ⟨[.int .i64 w, .int .i64 h, u2, u3, u4, u5, u6, u7, u8, u9, .int .i64 tm], 0, 59⟩ := by rw [hG]; simp
  have ch : Chg H G [] := by rw [hG]; exact Chg.app _
  clear hG
  have i6 : IsI G u6 own := Rd.isI (o6.1.rd.chg ch (by simp))
  have i7 : IsI G u7 turn := Rd.isI (o7.1.rd.chg ch (by simp))
  refine wp_inv (fun n t H' => ∃ i : Nat, n = 10 * N - i ∧ i ≤ 10 * N ∧ t 1 = .pointer (some ⟨H.length, 0, some 0⟩) ∧ t 3 = .int .i64 N ∧ t 4 = .int .i64 i ∧ H' = G ∧
      ∀ j, j < i → bufOk w h (buf.getD j []) ((j : Int) % 2) ∧ inR (-1) (own.getD j 0) 4) ?_ (n := 10 * N)
    ⟨0, rfl, by omega, by simp, by simp, by simp, rfl, by omega⟩
  rintro n t H' ⟨i, rfl, hi, t1, t3, t4, rfl, hk⟩ ih
  simp [t1, t3, t4, w10]
  refine wp_dec ?_ ?_ <;> intro g
  · have hi' : i < buf.length := by omega
    have hio : i < own.length := by omega
    have rl := o5.1.rd.chg ch (by simp)
    obtain ⟨u, _, a2, a3, a4⟩ := RdL_at rl (ty := 57) (e := 123) (by simp) (by simp) hi'
    have hlen := o5.2.2 _ (List.getElem_mem hi')
    simp only at a2 a3 a4 hlen
    have lu := a4.len (P := Try.prog) (ty := 123) (by simp)
    have hbg : buf.getD i [] = buf[i] := getD_at hi'
    have bad : ¬ bufOk w h buf[i] ((i : Int) % 2) → Y = false := fun hh => no' (fun k => hh (by have := k.2.2.1 i hi'; simp only [hbg] at this; exact this))
    obtain ⟨l, hl⟩ : ∃ l, l = buf[i] := ⟨_, rfl⟩
    rw [← hl] at a4 lu hlen bad hbg
    have q1 := i6.idx (P := Try.prog) (ty := 24) (e := 3) (by simp) (i := (i : Int)) (by omega) (by omega)
    have q2 := i6.load (P := Try.prog) (e := 3) (by simp) hio
    simp only [Int.toNat_natCast, getD_at hio] at q1 q2
    simp [t1, t3, t4, VM.look, b0, ones, a2, a3, lu]
    by_cases g1 : l.length ≤ 3
    rotate_left
    · have g1' : (3 : Int) < l.length := by omega
      simp [g1']; exact bad (fun k => g1 k.1)
    have g1' : ¬ (3 : Int) < l.length := by omega
    have af := fun F => l15Flits_c (frz := F) (H := H') w h u l a4 (by omega)
    simp [g1', t1, t3, t4, VM.look, b0, ones, af]
    by_cases g3 : flitsOk w h l
    rotate_left
    · simp [g3]; exact bad (fun k => g3 k.2.2)
    simp [g3, t1, t3, t4, VM.look, b0, ones, q1, q2, l01In_c]
    by_cases g4 : inR (-1) own[i] 4
    rotate_left
    · simp [g4]; exact no' (fun k => g4 (k.2.2.2.2.1 _ (List.getElem_mem hio)))
    simp [g4, t1, t3, t4]
    refine wp_inv (fun n t H2 => ∃ c : Nat, n = l.length - c ∧ c ≤ l.length ∧ t 1 = .pointer (some ⟨H.length, 0, some 0⟩) ∧ t 3 = .int .i64 N ∧ t 4 = .int .i64 i ∧ t 5 = u ∧ t 6 = .int .i64 c ∧ H2 = H' ∧ ∀ f ∈ l.take c, f.2.2.1 = (i : Int) % 2) ?_ (n := l.length)
      ⟨0, rfl, by omega, by simp [t1], by simp [t3], by simp [t4], by simp, by simp, rfl, by simp⟩
    clear t1 t3 t4
    rintro n t H2 ⟨c, rfl, hc, t1, t3, t4, t5, t6, rfl, hk3⟩ ih2
    simp [t1, t3, t4, t5, t6, lu]
    refine wp_dec ?_ ?_ <;> intro g5
    · have hc' : c < l.length := by omega
      have r1 := a4.idx (P := Try.prog) (ty := 123) (e := 134) (by simp) (i := (c : Int)) (by omega) (by omega)
      have r2 := a4.cell (P := Try.prog) (e := 3) (by simp) hc' (c := 2) (by decide)
      have r3 := a4.field (P := Try.prog) (s := 134) (f := 2) (o := 2) (n := 1) (ag := false) (by simp) (j := c * 5) (by omega)
      simp only [Int.toNat_natCast, flF_n, flF_f] at r1 r2
      simp at r2
      simp [-vfieldAddr, vfa_ptr, t1, t3, t4, t5, t6, r1, r2, r3, tmod2]
      refine wp_dec ?_ ?_ <;> intro g6
      · simp [t1, t3, t4, t5, t6]
        refine ih2 (l.length - (c + 1)) _ _ ⟨c + 1, rfl, by omega, by simp [t1], by simp [t3], by simp [t4], by simp [t5], ?_, rfl, fun f hf => ?_⟩ (by omega)
        · simp; rw [w64 (by omega) (by omega)]
        · rcases mem_take_succ hc' hf with hf | rfl
          · exact hk3 f hf
          · exact g6
      · simp [t1, t3, t4, t5, t6]
        exact bad (fun k => g6 (k.2.1 _ (List.getElem_mem hc')))
    · have : c = l.length := by omega
      subst this
      rw [List.take_length] at hk3
      simp [t1, t3, t4, t5, t6]
      refine ih (10 * N - (i + 1)) _ _ ⟨i + 1, rfl, by omega, by simp [t1], by simp [t3], ?_, rfl, fun j hj => ?_⟩ (by omega)
      · simp; rw [w64 (by omega) (by omega)]
      · by_cases hji : j < i
        · exact hk j hji
        · have : j = i := by omega
          subst this
          rw [hbg, getD_at hio]; exact ⟨⟨g1, hk3, g3⟩, g4⟩
  · have : i = 10 * N := by omega
    subst this
    clear ih
    simp [t1, t3, t4]
    refine wp_inv (fun n t H2 => ∃ i : Nat, n = 5 * N - i ∧ i ≤ 5 * N ∧ t 1 = .pointer (some ⟨H.length, 0, some 0⟩) ∧ t 3 = .int .i64 N ∧ t 7 = .int .i64 i ∧ H2 = H' ∧ ∀ x ∈ turn.take i, inR 0 x 9) ?_ (n := 5 * N)
      ⟨0, rfl, by omega, by simp [t1], by simp [t3], by simp, rfl, by simp⟩
    clear t1 t3 t4
    rintro n t H2 ⟨i, rfl, hi, t1, t3, t7, rfl, hk2⟩ ih
    simp [t1, t3, t7, w5]
    refine wp_dec ?_ ?_ <;> intro g
    · have hit : i < turn.length := by omega
      have q1 := i7.idx (P := Try.prog) (ty := 24) (e := 3) (by simp) (i := (i : Int)) (by omega) (by omega)
      have q2 := i7.load (P := Try.prog) (e := 3) (by simp) hit
      simp only [Int.toNat_natCast, getD_at hit] at q1 q2
      simp [t1, t3, t7, VM.look, b0, ones, q1, q2, l01In_c]
      by_cases g4 : inR 0 turn[i] 9
      rotate_left
      · simp [g4]; exact no' (fun k => g4 (k.2.2.2.2.2.1 _ (List.getElem_mem hit)))
      simp [g4, t1, t3, t7]
      refine ih (5 * N - (i + 1)) _ _ ⟨i + 1, rfl, by omega, by simp [t1], by simp [t3], ?_, rfl, fun x hx => ?_⟩ (by omega)
      · simp; rw [w64 (by omega) (by omega)]
      · rcases mem_take_succ hit hx with hx | rfl
        · exact hk2 x hx
        · exact g4
    · have : i = 5 * N := by omega
      subst this
      clear ih
      simp [t1, t3, t7]
      refine wp_inv (fun n t H' => ∃ i : Nat, n = N - i ∧ i ≤ N ∧ t 1 = .pointer (some ⟨H.length, 0, some 0⟩) ∧ t 3 = .int .i64 N ∧ t 8 = .int .i64 i ∧ H' = H2 ∧ ∀ l ∈ src.take i, srcOk w h l) ?_ (n := N)
        ⟨0, rfl, by omega, by simp [t1], by simp [t3], by simp, rfl, by simp⟩
      clear t1 t3 t7
      rintro n t H' ⟨i, rfl, hi, t1, t3, t8, rfl, hk4⟩ ih
      simp [t1, t3, t8]
      refine wp_dec ?_ ?_ <;> intro g
      · have hi' : i < src.length := by omega
        have rl := o8.1.rd.chg ch (by simp)
        obtain ⟨u, _, a2, a3, a4⟩ := RdL_at rl (ty := 57) (e := 123) (by simp) (by simp) hi'
        have hlen := o8.2.2 _ (List.getElem_mem hi')
        simp only at a2 a3 a4 hlen
        have lu := a4.len (P := Try.prog) (ty := 123) (by simp)
        have bad : ¬ srcOk w h src[i] → Y = false := fun hh => no' (fun k => hh (k.2.2.2.1 _ (List.getElem_mem hi')))
        have hst := fun {x} (hx : x ∈ src.take (i + 1)) => mem_take_succ hi' hx
        obtain ⟨l, hl⟩ : ∃ l, l = src[i] := ⟨_, rfl⟩
        rw [← hl] at a4 lu hlen bad hst
        simp [t1, t3, t8]
        rw [go_draw (h := by kernel_rfl)]
        simp [t1, t3, t8, VM.look, b0, ones, a2, a3, lu]
        by_cases g1 : l.length ≤ 60
        rotate_left
        · have g1' : (60 : Int) < l.length := by omega
          simp [g1']; exact bad (fun k => g1 k.1)
        have g1' : ¬ (60 : Int) < l.length := by omega
        have af := fun F => l15Flits_c (frz := F) (H := H') w h u l a4 (by omega)
        simp [g1', t1, t3, t8, VM.look, b0, ones, a2, a3, af]
        by_cases g3 : flitsOk w h l
        rotate_left
        · simp [g3]; exact bad (fun k => g3 k.2)
        simp [g3, t1, t3, t8]
        refine ih (N - (i + 1)) _ _ ⟨i + 1, rfl, by omega, by simp [t1], by simp [t3], ?_, rfl, fun x hx => ?_⟩ (by omega)
        · simp; rw [w64 (by omega) (by omega)]
        · rcases hst hx with hx | rfl
          · exact hk4 x hx
          · exact ⟨g1, g3⟩
      · have : i = N := by omega
        subst this
        simp [t1, t3, t8]
        rw [← hsl, List.take_length] at hk4
        rw [← htl, List.take_length] at hk2
        rw [← hY]
        refine (decide_eq_true ⟨c1, hsz, fun j hj => (hk j (by simp only at hj; omega)).1, hk4, fun x hx => ?_, hk2, c7⟩)
        obtain ⟨j, hj, rfl⟩ := List.mem_iff_getElem.1 hx
        have := (hk j (by simp only at hj; omega)).2
        rw [getD_at hj] at this; exact this
end Go.Proofs.Ytcigpclbhfkgaaa.V
/-! Slices compared. -/
set_option linter.all false
namespace Go.Proofs.Ytcigpclbhfkgaaa.V
open Go Go.VM Go.Proofs
set_option maxRecDepth 10000
variable {frz : Nat} {H : Heap}
theorem cseq_flF (x y : FlitD) : cseq [0, 0, 0, 1, 1] (flF.f x) (flF.f y) = some (decide (x = y)) := by
  obtain ⟨p, t, c, h, l⟩ := x
  obtain ⟨p', t', c', h', l'⟩ := y
  simp only [flF_f, cseq, ceq, if_true]
  congr 1
  rw [Bool.eq_iff_iff]; simp [and_assoc]
theorem cseq_pkF (x y : PkD) : cseq [0, 0, 0, 0, 0] (pkF.f x) (pkF.f y) = some (decide (x = y)) := by
  obtain ⟨p, t, c, h, l⟩ := x
  obtain ⟨p', t', c', h', l'⟩ := y
  simp only [pkF_f, cseq, ceq, if_true]
  congr 1
  rw [Bool.eq_iff_iff]; simp [and_assoc]
theorem equalI_c (a b : Value) (xs ys : List Int) (ha : Rd Fl.int H a xs) (hb : Rd Fl.int H b ys) (hl : xs.length ≤ 1073741824) :
   vcall C frz 104 [a, b] H = some (.bool (decide (xs = ys)), H) := by
  refine wp.exact (by simp) ?_ rfl
  rw [vcall_go (fn := Try.f104) Try.func104 rfl (by kernel_rfl) rfl]
  generalize hY : decide (xs = ys) = Y
  have la := ha.len (P := Try.prog) (ty := 24) (by simp)
  have lb := hb.len (P := Try.prog) (ty := 24) (by simp)
  have no : ¬ xs = ys → Y = false := fun hh => by rw [← hY]; exact decide_eq_false hh
  simp [la, lb]
  refine wp_dec ?_ ?_ <;> intro h0
  · have h0' : xs.length = ys.length := by omega
    simp [la]
    refine wp_inv (fun n t H' => ∃ i : Nat, n = xs.length - i ∧ i ≤ xs.length ∧ t 0 = a ∧ t 1 = b ∧ t 12 = .int .i64 xs.length ∧ t 13 = .int .i64 i ∧ H' = H ∧ xs.take i = ys.take i) ?_ (n := xs.length) ⟨0, rfl, by omega, by simp, by simp, by simp, by simp, rfl, by simp⟩
    rintro n t H' ⟨i, rfl, hi, t0, t1, t12, t13, rfl, h4⟩ ih
    simp [t0, t1, t12, t13, la]
    refine wp_dec ?_ ?_ <;> intro h
    · have hx : i < xs.length := by omega
      have hy : i < ys.length := by omega
      have q1 := ha.idx (P := Try.prog) (ty := 24) (e := 3) (by simp) (i := (i : Int)) (by omega) (by omega)
      have q2 := ha.cell1 (P := Try.prog) (e := 3) rfl (by simp) hx
      have q3 := hb.idx (P := Try.prog) (ty := 24) (e := 3) (by simp) (i := (i : Int)) (by omega) (by omega)
      have q4 := hb.cell1 (P := Try.prog) (e := 3) rfl (by simp) hy
      simp only [Int.toNat_natCast, Fl.int_n, Nat.mul_one] at q1 q2 q3 q4
      simp at q2 q4
      simp [t0, t1, t12, t13]
      rw [go_draw (h := by kernel_rfl)]
      simp [t0, t1, t12, t13, q1, q2, q3, q4]
      refine wp_dec ?_ ?_ <;> intro h5
      · simp [t0, t1, t12, t13]
        refine ih (xs.length - (i + 1)) _ _ ⟨i + 1, rfl, by omega, by simp [t0], by simp [t1], by simp [t12], ?_, rfl, ?_⟩ (by omega)
        · simp; rw [w64 (by omega) (by omega)]
        · rw [List.take_succ_eq_append_getElem hx, List.take_succ_eq_append_getElem hy, h4, h5]
      · simp [t0, t1, t12, t13]
        exact no (fun hh => h5 (by subst hh; rfl))
    · have : i = xs.length := by omega
      subst this
      rw [List.take_length, List.take_of_length_le (by omega)] at h4
      simp [t0, t1, t12, t13]
      rw [← hY]; exact decide_eq_true h4
  · simp
    exact no (fun hh => h0 (by rw [hh]))
theorem equalF_c (a b : Value) (xs ys : List FlitD) (ha : Rd flF H a xs) (hb : Rd flF H b ys) (hl : xs.length ≤ 1073741824) :
   vcall C frz 188 [a, b] H = some (.bool (decide (xs = ys)), H) := by
  refine wp.exact (by simp) ?_ rfl
  rw [vcall_go (fn := Try.f188) Try.func188 rfl (by kernel_rfl) rfl]
  generalize hY : decide (xs = ys) = Y
  have la := ha.len (P := Try.prog) (ty := 123) (by simp)
  have lb := hb.len (P := Try.prog) (ty := 123) (by simp)
  have no : ¬ xs = ys → Y = false := fun hh => by rw [← hY]; exact decide_eq_false hh
  simp [la, lb]
  refine wp_dec ?_ ?_ <;> intro h0
  · have h0' : xs.length = ys.length := by omega
    simp [la]
    refine wp_inv (fun n t H' => ∃ i : Nat, n = xs.length - i ∧ i ≤ xs.length ∧ t 0 = a ∧ t 1 = b ∧ t 12 = .int .i64 xs.length ∧ t 13 = .int .i64 i ∧ H' = H ∧ xs.take i = ys.take i) ?_ (n := xs.length) ⟨0, rfl, by omega, by simp, by simp, by simp, by simp, rfl, by simp⟩
    rintro n t H' ⟨i, rfl, hi, t0, t1, t12, t13, rfl, h4⟩ ih
    simp [t0, t1, t12, t13, la]
    refine wp_dec ?_ ?_ <;> intro h
    · have hx : i < xs.length := by omega
      have hy : i < ys.length := by omega
      have q1 := ha.idx (P := Try.prog) (ty := 123) (e := 134) (by simp) (i := (i : Int)) (by omega) (by omega)
      have q2 := ha.load (P := Try.prog) (e := 134) (by simp) hx
      have q3 := hb.idx (P := Try.prog) (ty := 123) (e := 134) (by simp) (i := (i : Int)) (by omega) (by omega)
      have q4 := hb.load (P := Try.prog) (e := 134) (by simp) hy
      simp only [Int.toNat_natCast, flF_n] at q1 q2 q3 q4
      simp [t0, t1, t12, t13]
      rw [go_draw (h := by kernel_rfl)]
      simp [t0, t1, t12, t13, q1, q2, q3, q4, cseq_flF, -cseq]
      refine wp_dec ?_ ?_ <;> intro h5
      · simp [t0, t1, t12, t13]
        refine ih (xs.length - (i + 1)) _ _ ⟨i + 1, rfl, by omega, by simp [t0], by simp [t1], by simp [t12], ?_, rfl, ?_⟩ (by omega)
        · simp; rw [w64 (by omega) (by omega)]
        · rw [List.take_succ_eq_append_getElem hx, List.take_succ_eq_append_getElem hy, h4, h5]
      · simp [t0, t1, t12, t13]
        exact no (fun hh => h5 (by subst hh; rfl))
    · have : i = xs.length := by omega
      subst this
      rw [List.take_length, List.take_of_length_le (by omega)] at h4
      simp [t0, t1, t12, t13]
      rw [← hY]; exact decide_eq_true h4
  · simp
    exact no (fun hh => h0 (by rw [hh]))
theorem equalP_c (a b : Value) (xs ys : List PkD) (ha : Rd pkF H a xs) (hb : Rd pkF H b ys) (hl : xs.length ≤ 1073741824) :
   vcall C frz 63 [a, b] H = some (.bool (decide (xs = ys)), H) := by
  refine wp.exact (by simp) ?_ rfl
  rw [vcall_go (fn := Try.f63) Try.func63 rfl (by kernel_rfl) rfl]
  generalize hY : decide (xs = ys) = Y
  have la := ha.len (P := Try.prog) (ty := 60) (by simp)
  have lb := hb.len (P := Try.prog) (ty := 60) (by simp)
  have no : ¬ xs = ys → Y = false := fun hh => by rw [← hY]; exact decide_eq_false hh
  simp [la, lb]
  refine wp_dec ?_ ?_ <;> intro h0
  · have h0' : xs.length = ys.length := by omega
    simp [la]
    refine wp_inv (fun n t H' => ∃ i : Nat, n = xs.length - i ∧ i ≤ xs.length ∧ t 0 = a ∧ t 1 = b ∧ t 12 = .int .i64 xs.length ∧ t 13 = .int .i64 i ∧ H' = H ∧ xs.take i = ys.take i) ?_ (n := xs.length) ⟨0, rfl, by omega, by simp, by simp, by simp, by simp, rfl, by simp⟩
    rintro n t H' ⟨i, rfl, hi, t0, t1, t12, t13, rfl, h4⟩ ih
    simp [t0, t1, t12, t13, la]
    refine wp_dec ?_ ?_ <;> intro h
    · have hx : i < xs.length := by omega
      have hy : i < ys.length := by omega
      have q1 := ha.idx (P := Try.prog) (ty := 60) (e := 44) (by simp) (i := (i : Int)) (by omega) (by omega)
      have q2 := ha.load (P := Try.prog) (e := 44) (by simp) hx
      have q3 := hb.idx (P := Try.prog) (ty := 60) (e := 44) (by simp) (i := (i : Int)) (by omega) (by omega)
      have q4 := hb.load (P := Try.prog) (e := 44) (by simp) hy
      simp only [Int.toNat_natCast, pkF_n] at q1 q2 q3 q4
      simp [t0, t1, t12, t13]
      rw [go_draw (h := by kernel_rfl)]
      simp [t0, t1, t12, t13, q1, q2, q3, q4, cseq_pkF, -cseq]
      refine wp_dec ?_ ?_ <;> intro h5
      · simp [t0, t1, t12, t13]
        refine ih (xs.length - (i + 1)) _ _ ⟨i + 1, rfl, by omega, by simp [t0], by simp [t1], by simp [t12], ?_, rfl, ?_⟩ (by omega)
        · simp; rw [w64 (by omega) (by omega)]
        · rw [List.take_succ_eq_append_getElem hx, List.take_succ_eq_append_getElem hy, h4, h5]
      · simp [t0, t1, t12, t13]
        exact no (fun hh => h5 (by subst hh; rfl))
    · have : i = xs.length := by omega
      subst this
      rw [List.take_length, List.take_of_length_le (by omega)] at h4
      simp [t0, t1, t12, t13]
      rw [← hY]; exact decide_eq_true h4
  · simp
    exact no (fun hh => h0 (by rw [hh]))
theorem sIntsEq_c (a b : Value) (xs ys : List Int) (ha : Rd Fl.int H a xs) (hb : Rd Fl.int H b ys) (hl : xs.length ≤ 1073741824) :
   vcall C frz 113 [a, b] H = some (.bool (decide (xs = ys)), H) := by
  refine wp.exact (by simp) ?_ rfl
  rw [vcall_go (fn := Try.f113) Try.func113 rfl (by kernel_rfl) rfl]
  generalize hY : decide (xs = ys) = Y
  have la := ha.len (P := Try.prog) (ty := 24) (by simp)
  have lb := hb.len (P := Try.prog) (ty := 24) (by simp)
  have no : ¬ xs = ys → Y = false := fun hh => by rw [← hY]; exact decide_eq_false hh
  simp [la, lb]
  refine wp_dec ?_ ?_ <;> intro h0
  · have h0' : xs.length = ys.length := by omega
    simp [la]
    refine wp_inv (fun n t H' => ∃ i : Nat, n = xs.length - i ∧ i ≤ xs.length ∧ t 0 = a ∧ t 1 = b ∧ t 5 = .int .i64 i ∧ H' = H ∧ xs.take i = ys.take i) ?_ (n := xs.length) ⟨0, rfl, by omega, by simp, by simp, by simp, rfl, by simp⟩
    rintro n t H' ⟨i, rfl, hi, t0, t1, t5, rfl, h4⟩ ih
    simp [t0, t1, t5, la]
    refine wp_dec ?_ ?_ <;> intro h
    · have hx : i < xs.length := by omega
      have hy : i < ys.length := by omega
      have q1 := ha.idx (P := Try.prog) (ty := 24) (e := 3) (by simp) (i := (i : Int)) (by omega) (by omega)
      have q2 := ha.cell1 (P := Try.prog) (e := 3) rfl (by simp) hx
      have q3 := hb.idx (P := Try.prog) (ty := 24) (e := 3) (by simp) (i := (i : Int)) (by omega) (by omega)
      have q4 := hb.cell1 (P := Try.prog) (e := 3) rfl (by simp) hy
      simp only [Int.toNat_natCast, Fl.int_n, Nat.mul_one] at q1 q2 q3 q4
      simp at q2 q4
      simp [t0, t1, t5]
      rw [go_draw (h := by kernel_rfl)]
      simp [t0, t1, t5, q1, q2, q3, q4]
      refine wp_dec ?_ ?_ <;> intro h5
      · simp [t0, t1, t5]
        refine ih (xs.length - (i + 1)) _ _ ⟨i + 1, rfl, by omega, by simp [t0], by simp [t1], ?_, rfl, ?_⟩ (by omega)
        · simp; rw [w64 (by omega) (by omega)]
        · rw [List.take_succ_eq_append_getElem hx, List.take_succ_eq_append_getElem hy, h4, h5]
      · simp [t0, t1, t5]
        exact no (fun hh => h5 (by subst hh; rfl))
    · have : i = xs.length := by omega
      subst this
      rw [List.take_length, List.take_of_length_le (by omega)] at h4
      simp [t0, t1, t5]
      rw [← hY]; exact decide_eq_true h4
  · simp
    exact no (fun hh => h0 (by rw [hh]))
theorem sFlitsEq_c (a b : Value) (xs ys : List FlitD) (ha : Rd flF H a xs) (hb : Rd flF H b ys) (hl : xs.length ≤ 1073741824) :
   vcall C frz 165 [a, b] H = some (.bool (decide (xs = ys)), H) := by
  refine wp.exact (by simp) ?_ rfl
  rw [vcall_go (fn := Try.f165) Try.func165 rfl (by kernel_rfl) rfl]
  generalize hY : decide (xs = ys) = Y
  have la := ha.len (P := Try.prog) (ty := 123) (by simp)
  have lb := hb.len (P := Try.prog) (ty := 123) (by simp)
  have no : ¬ xs = ys → Y = false := fun hh => by rw [← hY]; exact decide_eq_false hh
  simp [la, lb]
  refine wp_dec ?_ ?_ <;> intro h0
  · have h0' : xs.length = ys.length := by omega
    simp [la]
    refine wp_inv (fun n t H' => ∃ i : Nat, n = xs.length - i ∧ i ≤ xs.length ∧ t 0 = a ∧ t 1 = b ∧ t 5 = .int .i64 i ∧ H' = H ∧ xs.take i = ys.take i) ?_ (n := xs.length) ⟨0, rfl, by omega, by simp, by simp, by simp, rfl, by simp⟩
    rintro n t H' ⟨i, rfl, hi, t0, t1, t5, rfl, h4⟩ ih
    simp [t0, t1, t5, la]
    refine wp_dec ?_ ?_ <;> intro h
    · have hx : i < xs.length := by omega
      have hy : i < ys.length := by omega
      have q1 := ha.idx (P := Try.prog) (ty := 123) (e := 134) (by simp) (i := (i : Int)) (by omega) (by omega)
      have q2 := ha.load (P := Try.prog) (e := 134) (by simp) hx
      have q3 := hb.idx (P := Try.prog) (ty := 123) (e := 134) (by simp) (i := (i : Int)) (by omega) (by omega)
      have q4 := hb.load (P := Try.prog) (e := 134) (by simp) hy
      simp only [Int.toNat_natCast, flF_n] at q1 q2 q3 q4
      simp [t0, t1, t5]
      rw [go_draw (h := by kernel_rfl)]
      simp [t0, t1, t5, q1, q2, q3, q4, cseq_flF, -cseq]
      refine wp_dec ?_ ?_ <;> intro h5
      · simp [t0, t1, t5]
        refine ih (xs.length - (i + 1)) _ _ ⟨i + 1, rfl, by omega, by simp [t0], by simp [t1], ?_, rfl, ?_⟩ (by omega)
        · simp; rw [w64 (by omega) (by omega)]
        · rw [List.take_succ_eq_append_getElem hx, List.take_succ_eq_append_getElem hy, h4, h5]
      · simp [t0, t1, t5]
        exact no (fun hh => h5 (by subst hh; rfl))
    · have : i = xs.length := by omega
      subst this
      rw [List.take_length, List.take_of_length_le (by omega)] at h4
      simp [t0, t1, t5]
      rw [← hY]; exact decide_eq_true h4
  · simp
    exact no (fun hh => h0 (by rw [hh]))
end Go.Proofs.Ytcigpclbhfkgaaa.V
/-! Whole packets of flits. -/
set_option linter.all false
namespace Go.Proofs.Ytcigpclbhfkgaaa.V
open Go Go.VM Go.Proofs
set_option maxRecDepth 10000
variable {frz : Nat} {H : Heap}
def flit0 : FlitD := (0, 0, 0, false, false)
/-- flit i of a packet whose first flit is known -/
def wholeAt (l : List FlitD) (i : Nat) : FlitD := ((l.getD 0 flit0).1, (l.getD 0 flit0).2.1, (l.getD 0 flit0).2.2.1, decide ((i : Int) = 0), decide ((i : Int) = (l.length : Int) - 1))
def whole (l : List FlitD) : Prop := (∀ i, i < l.length → l.getD i flit0 = wholeAt l i) ∧ 0 < l.length
instance (l : List FlitD) : Decidable (whole l) := inferInstanceAs (Decidable (_ ∧ _))
theorem cseq_flit (a b c a' b' c' : Int) (d e d' e' : Bool) : cseq [0, 0, 0, 1, 1] [.int .i64 a, .int .i64 b, .int .i64 c, .bool d, .bool e] [.int .i64 a', .int .i64 b', .int .i64 c', .bool d', .bool e'] = some (decide (((a, b, c, d, e) : FlitD) = (a', b', c', d', e'))) :=
  cseq_flF (a, b, c, d, e) (a', b', c', d', e')
theorem isWhole_c (v : Value) (xs : List FlitD) (hI : Rd flF H v xs) (hl : xs.length ≤ 1073741824) :
   vcall C frz 199 [v] H = some (.bool (decide (whole xs)), H) := by
  refine wp.exact (by simp) ?_ rfl
  rw [vcall_go (fn := Try.f199) Try.func199 rfl (by kernel_rfl) rfl]
  generalize hY : decide (whole xs) = Y
  have no : ¬ whole xs → Y = false := fun hh => by rw [← hY]; exact decide_eq_false hh
  simp [hI.len (P := Try.prog) (ty := 123) (by simp)]
  refine wp_inv (fun n t H' => ∃ i : Nat, n = xs.length - i ∧ i ≤ xs.length ∧ t 0 = v ∧ t 5 = v ∧ t 6 = .int .i64 xs.length ∧ t 7 = .int .i64 i ∧ Chg H H' [] ∧ ∀ j, j < i → xs.getD j flit0 = wholeAt xs j) ?_ (n := xs.length)
    ⟨0, rfl, by omega, by simp, by simp, by simp, by simp, Chg.refl _, by omega⟩
  rintro n t H' ⟨i, rfl, hi, t0, t5, t6, t7, c, hk⟩ ih
  simp [t0, t5, t6, t7]
  refine wp_dec ?_ ?_ <;> intro g
  · have hi' : i < xs.length := by omega
    have h0 : 0 < xs.length := by omega
    have rd := hI.chg c (by simp)
    have q1 := rd.idx (P := Try.prog) (ty := 123) (e := 134) (by simp) (i := (i : Int)) (by omega) (by omega)
    have q2 := rd.load (P := Try.prog) (e := 134) (by simp) hi'
    have rd2 := fun (r : Row) => (rd.app (L := [r]))
    have z0 := fun (r : Row) => (rd2 r).idx (P := Try.prog) (ty := 123) (e := 134) (by simp) (i := 0) (by omega) (by omega)
    have zl := fun (r : Row) => (rd2 r).len (P := Try.prog) (ty := 123) (by simp)
    have f0 := fun (r : Row) => (rd2 r).field (P := Try.prog) (s := 134) (f := 0) (o := 0) (n := 1) (ag := false) (by simp) (j := 0) h0
    have f1 := fun (r : Row) => (rd2 r).field (P := Try.prog) (s := 134) (f := 1) (o := 1) (n := 1) (ag := false) (by simp) (j := 0) h0
    have f2 := fun (r : Row) => (rd2 r).field (P := Try.prog) (s := 134) (f := 2) (o := 2) (n := 1) (ag := false) (by simp) (j := 0) h0
    have c0 := fun (r : Row) => (rd2 r).cell (P := Try.prog) (e := 3) (by simp) h0 (c := 0) (by decide)
    have c1 := fun (r : Row) => (rd2 r).cell (P := Try.prog) (e := 3) (by simp) h0 (c := 1) (by decide)
    have c2 := fun (r : Row) => (rd2 r).cell (P := Try.prog) (e := 3) (by simp) h0 (c := 2) (by decide)
    simp only [Int.toNat_natCast, flF_n, Int.toNat_zero, Nat.zero_mul, Nat.zero_add, Nat.add_zero] at q1 q2 z0 f0 f1 f2 c0 c1 c2
    simp only [flF_f] at c0 c1 c2
    simp at c0 c1 c2
    have hw : ∀ [Inhabited Unit], IntKind.i64.wrap ((xs.length : Int) - 1) = (xs.length : Int) - 1 := by intro _; exact w64 (by omega) (by omega)
    have hF : H.length ≤ H'.length := c.1
    have hg0 : xs.getD 0 flit0 = xs[0] := by simp [List.getD_eq_getElem?_getD, h0]
    have hgi : xs.getD i flit0 = xs[i] := by simp [List.getD_eq_getElem?_getD, hi']
    have hwt : wholeAt xs i = (xs[0].1, xs[0].2.1, xs[0].2.2.1, decide ((i : Int) = 0), decide ((i : Int) = (xs.length : Int) - 1)) := by unfold wholeAt; rw [hg0]
    obtain ⟨p, hp⟩ : ∃ p, p = xs[i] := ⟨_, rfl⟩
    obtain ⟨z, hz⟩ : ∃ z, z = xs[0] := ⟨_, rfl⟩
    rw [← hp] at q2 hgi
    rw [← hz] at c0 c1 c2 hwt
    obtain ⟨B1, hB1⟩ : ∃ B, B = decide ((i : Int) = 0) := ⟨_, rfl⟩
    obtain ⟨B2, hB2⟩ : ∃ B, B = decide ((i : Int) = (xs.length : Int) - 1) := ⟨_, rfl⟩
    rw [← hB1, ← hB2] at hwt
    have e1 : ∀ [Inhabited Unit], decide ((i : Int) = 0) = B1 := by intro _; exact hB1.symm
    have e1' : ∀ [Inhabited Unit], decide (i = 0) = B1 := by intro _; rw [hB1]; congr 1; simp
    have e2 : ∀ [Inhabited Unit], decide ((i : Int) = (xs.length : Int) - 1) = B2 := by intro _; exact hB2.symm
    simp [t0, t5, t6, t7, q1, q2, flF_f, hF]
    rw [go_draw (h := by kernel_rfl)]
    simp [-vfieldAddr, vfa_ptr, VM.look, t0, t5, t6, t7, z0, zl, f0, f1, f2, c0, c1, c2, hw, e1, e1', e2, cseq_flit, -cseq, -Prod.mk.injEq]
    have hdec : (((p.1, p.2.1, p.2.2.1, p.2.2.2.1, p.2.2.2.2) : FlitD) = (z.1, z.2.1, z.2.2.1, B1, B2)) ↔ xs.getD i flit0 = wholeAt xs i := by rw [hgi, hwt]
    by_cases g2 : xs.getD i flit0 = wholeAt xs i
    · have g3 := hdec.2 g2
      rw [decide_eq_true g3]
      simp [t0, t5, t6, t7]
      refine ih (xs.length - (i + 1)) _ _ ⟨i + 1, rfl, by omega, by simp [t0], by simp [t5], by simp [t6], ?_, c.trans (Chg.app _), fun j hj => ?_⟩ (by omega)
      · simp; rw [w64 (by omega) (by omega)]
      · by_cases hji : j < i
        · exact hk j hji
        · have : j = i := by omega
          subst this; exact g2
    · have g3 : ¬ ((p.1, p.2.1, p.2.2.1, p.2.2.2.1, p.2.2.2.2) : FlitD) = (z.1, z.2.1, z.2.2.1, B1, B2) := fun hh => g2 (hdec.1 hh)
      rw [decide_eq_false g3]
      simp [t0, t5, t6, t7]
      exact no (fun hh => g2 (hh.1 i hi'))
  · have : i = xs.length := by omega
    subst this
    have ll := (hI.chg c (by simp)).len (P := Try.prog) (ty := 123) (by simp)
    simp [t0, t5, t6, t7, ll]
    rw [← hY]; exact decide_eq_decide.2 ⟨fun h0 => ⟨hk, h0⟩, fun k => k.2⟩
end Go.Proofs.Ytcigpclbhfkgaaa.V
/-! Whole packets: the reference. -/
set_option linter.all false
namespace Go.Proofs.Ytcigpclbhfkgaaa.V
open Go Go.VM Go.Proofs
set_option maxRecDepth 10000
variable {frz : Nat} {H : Heap}
theorem sIsWhole_c (v : Value) (xs : List FlitD) (hI : Rd flF H v xs) (hl : xs.length ≤ 1073741824) :
   vcall C frz 198 [v] H = some (.bool (decide (whole xs)), H) := by
  refine wp.exact (by simp) ?_ rfl
  rw [vcall_go (fn := Try.f198) Try.func198 rfl (by kernel_rfl) rfl]
  generalize hY : decide (whole xs) = Y
  have no : ¬ whole xs → Y = false := fun hh => by rw [← hY]; exact decide_eq_false hh
  simp
  refine wp_inv (fun n t H' => ∃ i : Nat, n = xs.length - i ∧ i ≤ xs.length ∧ t 0 = v ∧ t 3 = .int .i64 i ∧ Chg H H' [] ∧ ∀ j, j < i → xs.getD j flit0 = wholeAt xs j) ?_ (n := xs.length)
    ⟨0, rfl, by omega, by simp, by simp, Chg.refl _, by omega⟩
  rintro n t H' ⟨i, rfl, hi, t0, t3, c, hk⟩ ih
  have ll := (hI.chg c (by simp)).len (P := Try.prog) (ty := 123) (by simp)
  simp [t0, t3, ll]
  refine wp_dec ?_ ?_ <;> intro g
  · have hi' : i < xs.length := by omega
    have h0 : 0 < xs.length := by omega
    have rd := hI.chg c (by simp)
    have q1 := rd.idx (P := Try.prog) (ty := 123) (e := 134) (by simp) (i := (i : Int)) (by omega) (by omega)
    have q2 := rd.load (P := Try.prog) (e := 134) (by simp) hi'
    have rd2 := fun (r : Row) => (rd.app (L := [r]))
    have z0 := fun (r : Row) => (rd2 r).idx (P := Try.prog) (ty := 123) (e := 134) (by simp) (i := 0) (by omega) (by omega)
    have zl := fun (r : Row) => (rd2 r).len (P := Try.prog) (ty := 123) (by simp)
    have f0 := fun (r : Row) => (rd2 r).field (P := Try.prog) (s := 134) (f := 0) (o := 0) (n := 1) (ag := false) (by simp) (j := 0) h0
    have f1 := fun (r : Row) => (rd2 r).field (P := Try.prog) (s := 134) (f := 1) (o := 1) (n := 1) (ag := false) (by simp) (j := 0) h0
    have f2 := fun (r : Row) => (rd2 r).field (P := Try.prog) (s := 134) (f := 2) (o := 2) (n := 1) (ag := false) (by simp) (j := 0) h0
    have c0 := fun (r : Row) => (rd2 r).cell (P := Try.prog) (e := 3) (by simp) h0 (c := 0) (by decide)
    have c1 := fun (r : Row) => (rd2 r).cell (P := Try.prog) (e := 3) (by simp) h0 (c := 1) (by decide)
    have c2 := fun (r : Row) => (rd2 r).cell (P := Try.prog) (e := 3) (by simp) h0 (c := 2) (by decide)
    simp only [Int.toNat_natCast, flF_n, Int.toNat_zero, Nat.zero_mul, Nat.zero_add, Nat.add_zero] at q1 q2 z0 f0 f1 f2 c0 c1 c2
    simp only [flF_f] at c0 c1 c2
    simp at c0 c1 c2
    have hw : ∀ [Inhabited Unit], IntKind.i64.wrap ((xs.length : Int) - 1) = (xs.length : Int) - 1 := by intro _; exact w64 (by omega) (by omega)
    have hF : H.length ≤ H'.length := c.1
    have hg0 : xs.getD 0 flit0 = xs[0] := by simp [List.getD_eq_getElem?_getD, h0]
    have hgi : xs.getD i flit0 = xs[i] := by simp [List.getD_eq_getElem?_getD, hi']
    have hwt : wholeAt xs i = (xs[0].1, xs[0].2.1, xs[0].2.2.1, decide ((i : Int) = 0), decide ((i : Int) = (xs.length : Int) - 1)) := by unfold wholeAt; rw [hg0]
    obtain ⟨p, hp⟩ : ∃ p, p = xs[i] := ⟨_, rfl⟩
    obtain ⟨z, hz⟩ : ∃ z, z = xs[0] := ⟨_, rfl⟩
    rw [← hp] at q2 hgi
    rw [← hz] at c0 c1 c2 hwt
    obtain ⟨B1, hB1⟩ : ∃ B, B = decide ((i : Int) = 0) := ⟨_, rfl⟩
    obtain ⟨B2, hB2⟩ : ∃ B, B = decide ((i : Int) = (xs.length : Int) - 1) := ⟨_, rfl⟩
    rw [← hB1, ← hB2] at hwt
    have e1 : ∀ [Inhabited Unit], decide ((i : Int) = 0) = B1 := by intro _; exact hB1.symm
    have e1' : ∀ [Inhabited Unit], decide (i = 0) = B1 := by intro _; rw [hB1]; congr 1; simp
    have e2 : ∀ [Inhabited Unit], decide ((i : Int) = (xs.length : Int) - 1) = B2 := by intro _; exact hB2.symm
    simp [t0, t3, q1, q2, flF_f, hF]
    rw [go_draw (h := by kernel_rfl)]
    have hcmp : xs.getD i flit0 = wholeAt xs i ↔ p.1 = z.1 ∧ p.2.1 = z.2.1 ∧ p.2.2.1 = z.2.2.1 ∧ p.2.2.2.1 = B1 ∧ p.2.2.2.2 = B2 := by
      rw [hgi, hwt]; obtain ⟨_, _, _, _, _⟩ := p; simp
    have bad : ¬ (p.1 = z.1 ∧ p.2.1 = z.2.1 ∧ p.2.2.1 = z.2.2.1 ∧ p.2.2.2.1 = B1 ∧ p.2.2.2.2 = B2) → Y = false := fun hh => no (fun k => hh (hcmp.1 (k.1 i hi')))
    obtain ⟨p1, p2, p3, p4, p5⟩ := p
    simp only at hcmp bad
    simp [-vfieldAddr, vfa_ptr, VM.look, t0, t3, z0, zl, f0, f1, f2, c0, c1, c2, hw, e1, e1', e2]
    by_cases g1 : p1 = z.1
    rotate_left
    · simp [t0, t3, g1]; exact bad (fun k => g1 k.1)
    simp [-vfieldAddr, vfa_ptr, VM.look, t0, t3, z0, zl, f0, f1, f2, c0, c1, c2, hw, e1, e1', e2, g1]
    by_cases g2 : p2 = z.2.1
    rotate_left
    · simp [t0, t3, g2]; exact bad (fun k => g2 k.2.1)
    simp [-vfieldAddr, vfa_ptr, VM.look, t0, t3, z0, zl, f0, f1, f2, c0, c1, c2, hw, e1, e1', e2, g1, g2]
    by_cases g3 : p3 = z.2.2.1
    rotate_left
    · simp [t0, t3, g3]; exact bad (fun k => g3 k.2.2.1)
    simp [-vfieldAddr, vfa_ptr, VM.look, t0, t3, z0, zl, f0, f1, f2, c0, c1, c2, hw, e1, e1', e2, g1, g2, g3]
    by_cases g4 : p4 = B1
    rotate_left
    · have g4' : (p4 != B1) = true := bne_iff_ne.2 g4
      simp [t0, t3, g4']; exact bad (fun k => g4 k.2.2.2.1)
    simp [-vfieldAddr, vfa_ptr, VM.look, t0, t3, z0, zl, f0, f1, f2, c0, c1, c2, hw, e1, e1', e2, g1, g2, g3, g4]
    by_cases g5 : p5 = B2
    rotate_left
    · have g5' : (p5 != B2) = true := bne_iff_ne.2 g5
      simp [t0, t3, g5']; exact bad (fun k => g5 k.2.2.2.2)
    have g6 := hcmp.2 ⟨g1, g2, g3, g4, g5⟩
    simp [t0, t3, g5]
    refine ih (xs.length - (i + 1)) _ _ ⟨i + 1, rfl, by omega, by simp [t0], ?_, c.trans (Chg.app _), fun j hj => ?_⟩ (by omega)
    · simp; rw [w64 (by omega) (by omega)]
    · by_cases hji : j < i
      · exact hk j hji
      · have : j = i := by omega
        subst this; exact g6
  · have : i = xs.length := by omega
    subst this
    simp [t0, t3, ll]
    rw [← hY]; exact decide_eq_decide.2 ⟨fun h0 => ⟨hk, h0⟩, fun k => k.2⟩
end Go.Proofs.Ytcigpclbhfkgaaa.V
/-! Whole packets one behind the other. -/
set_option linter.all false
namespace Go.Proofs.Ytcigpclbhfkgaaa.V
open Go Go.VM Go.Proofs
set_option maxRecDepth 10000
variable {frz : Nat} {H : Heap}
def part (l : List FlitD) (f i : Nat) : List FlitD := (l.drop f).take (i + 1 - f)
/-- the packets in the first flits, and where the next begins -/
def wpk (l : List FlitD) : Nat → List Int × Nat
  | 0 => ([], 0)
  | i + 1 => if whole (part l (wpk l i).2 i) then ((wpk l i).1 ++ [(l.getD (wpk l i).2 flit0).1], i + 1) else wpk l i
def wholePk (l : List FlitD) : List Int := if (wpk l l.length).2 < l.length then [] else (wpk l l.length).1
theorem wpk_le (l : List FlitD) : ∀ i, (wpk l i).2 ≤ i ∧ (wpk l i).1.length ≤ i
  | 0 => by simp [wpk]
  | i + 1 => by
    have := wpk_le l i
    simp only [wpk]; split
    · simp; omega
    · omega
theorem part_get {l : List FlitD} {f i : Nat} (hf : f ≤ i) (hi : i < l.length) {j : Nat} (hj : j + f ≤ i) : (part l f i).getD j flit0 = l.getD (f + j) flit0 := by
  unfold part
  simp only [List.getD_eq_getElem?_getD]
  rw [List.getElem?_take, if_pos (by omega), List.getElem?_drop]
theorem part_len {l : List FlitD} {f i : Nat} (hf : f ≤ i) (hi : i < l.length) : (part l f i).length = i + 1 - f := by unfold part; simp; omega
theorem whole_same {l : List FlitD} {f i : Nat} (hf : f ≤ i) (hi : i < l.length) (h : whole (part l f i)) : (l.getD i flit0).1 = (l.getD f flit0).1 := by
  have h1 := h.1 (i - f) (by rw [part_len hf hi]; omega)
  rw [part_get hf hi (by omega)] at h1
  rw [show f + (i - f) = i by omega] at h1
  rw [h1]
  unfold wholeAt
  rw [part_get hf hi (by omega)]; rfl
/-- numbers in new rows, and a flag -/
def IntsOk (H : Heap) (xs : List Int) (r : Value) (H' : Heap) : Prop := ∃ u ok, r = .tuple #[u, .bool ok] ∧ Ow Fl.int 3 H' u xs ∧ (∀ i ∈ ids u, H.length ≤ i) ∧ Chg H H' []
theorem wholePackets_w (v : Value) (l : List FlitD) (o : Ow flF 134 H v l) (hl : l.length ≤ 67108864) :
   wp (vcall C frz 178 [v] H) (IntsOk H (wholePk l)) := by
  rw [vcall_go (fn := Try.f178) Try.func178 rfl (by kernel_rfl) rfl]
  simp
  refine wp_inv (fun n t H' => ∃ (i : Nat) (out : Value), n = l.length - i ∧ i ≤ l.length ∧ t 0 = v ∧ t 4 = out ∧ t 5 = .int .i64 (wpk l i).2 ∧ t 6 = .int .i64 ((i : Int) + 1) ∧ Chg H H' [] ∧ Ow Fl.int 3 H' out (wpk l i).1 ∧ (∀ j ∈ ids out, H.length ≤ j)) ?_ (n := l.length)
    ⟨0, .slice (some ⟨H.length, 0, some 0⟩) 0 0, rfl, by omega, by simp, by simp, by simp [wpk], by simp, Chg.app _, Ow.new0 (D := Fl.int) (xs := []) rfl rfl rfl rfl, by simp⟩
  rintro n t H' ⟨i, out, rfl, hi, t0, t4, t5, t6, c, oo, no⟩ ih
  have ov := o.chg c (by simp)
  have ll := ov.rd.len (P := Try.prog) (ty := 123) (by simp)
  obtain ⟨wle, wll⟩ := wpk_le l i
  have hF : H.length ≤ H'.length := c.1
  simp [t0, t4, t5, t6, ll]
  refine wp_dec ?_ ?_ <;> intro g
  · have hi' : i < l.length := by omega
    obtain ⟨f, hf⟩ : ∃ f, f = (wpk l i).2 := ⟨_, rfl⟩
    have hwp : wpk l (i + 1) = if whole (part l f i) then ((wpk l i).1 ++ [(l.getD f flit0).1], i + 1) else wpk l i := by rw [hf]; rfl
    rw [← hf] at t5 wle
    have e1 : ∀ [Inhabited Unit], IntKind.i64.wrap ((i : Int) + 1) = (i : Int) + 1 := by intro _; exact w64 (by omega) (by omega)
    have e2 : ∀ [Inhabited Unit], IntKind.i64.wrap ((i : Int) + 1 + 1) = ((i + 1 : Nat) : Int) + 1 := by intro _; rw [w64 (by omega) (by omega)]; omega
    obtain ⟨s, hs, os, ids_s⟩ := ov.slice (P := Try.prog) (ty := 123) (by simp) (lo := some (.int .i64 (f : Int))) (hi := some (.int .i64 ((i : Int) + 1))) (l := f) (u := i + 1) rfl rfl (by omega) (by omega)
    have iw := fun F => isWhole_c (frz := F) (H := H') s (part l f i) os.rd (by rw [part_len wle hi']; omega)
    have hfl : f < l.length := by omega
    have q1 := ov.rd.idx (P := Try.prog) (ty := 123) (e := 134) (by simp) (i := (f : Int)) (by omega) (by omega)
    have q2 := ov.rd.field (P := Try.prog) (s := 134) (f := 0) (o := 0) (n := 1) (ag := false) (by simp) (j := f * 5) (by omega)
    have q3 := ov.rd.cell (P := Try.prog) (e := 3) (by simp) hfl (c := 0) (by decide)
    simp only [Int.toNat_natCast, flF_n, Nat.add_zero] at q1 q2 q3
    simp only [flF_f] at q3
    simp at q3
    simp [t0, t4, t5, t6, e1, hs, iw]
    refine wp_dec ?_ ?_ <;> intro g2
    · obtain ⟨out', H2, hap, o2, c2, n2⟩ := oo.push (P := Try.prog) (frz := H.length) (ty := 24) (a := l[f].1) (by simp) rfl (by omega) no
      simp only [Fl.int_f] at hap
      have l2 := c2.1
      have hsame := whole_same wle hi' g2
      have hgf : l.getD f flit0 = l[f] := by simp [List.getD_eq_getElem?_getD, hfl]
      have hgi : l.getD i flit0 = l[i] := by simp [List.getD_eq_getElem?_getD, hi']
      rw [hgf, hgi] at hsame
      rw [if_pos g2, hgf] at hwp
      simp [-vfieldAddr, vfa_ptr, t0, t4, t5, t6, q1, q2, q3, hap, e1]
      refine ih (l.length - (i + 1)) _ _ ⟨i + 1, out', rfl, by omega, by simp [t0], by simp, by simp [hwp], by simp [e2], c.trans' c2 (fun j hj => .inr (no j hj)), ?_, fun j hj => ?_⟩ (by omega)
      · rw [hwp]; exact o2
      · rcases n2 j hj with h1 | h1
        · exact no j h1
        · omega
    · rw [if_neg g2] at hwp
      simp [t0, t4, t5, t6]
      refine ih (l.length - (i + 1)) _ _ ⟨i + 1, out, rfl, by omega, by simp [t0], by simp [t4], by rw [hwp, ← hf]; simp [t5], by simp [e2], c, by rw [hwp]; exact oo, no⟩ (by omega)
  · have : i = l.length := by omega
    subst this
    simp [t0, t4, t5, t6, ll]
    refine wp_dec ?_ ?_ <;> intro g2
    · have hz : wholePk l = [] := if_pos (by omega)
      simp [t0, t4, t5, t6]
      exact ⟨.slice none 0 0, false, rfl, by rw [hz]; exact .inl ⟨rfl, rfl⟩, by simp, c⟩
    · have hz : wholePk l = (wpk l l.length).1 := if_neg (by omega)
      simp [t0, t4, t5, t6]
      exact ⟨out, true, rfl, by rw [hz]; exact oo, no, c⟩
theorem sWholePackets_w (v : Value) (l : List FlitD) (o : Ow flF 134 H v l) (hl : l.length ≤ 67108864) :
   wp (vcall C frz 177 [v] H) (IntsOk H (wholePk l)) := by
  rw [vcall_go (fn := Try.f177) Try.func177 rfl (by kernel_rfl) rfl]
  simp
  refine wp_inv (fun n t H' => ∃ (i : Nat) (out : Value), n = l.length - i ∧ i ≤ l.length ∧ t 0 = v ∧ t 4 = out ∧ t 5 = .int .i64 (wpk l i).2 ∧ t 6 = .int .i64 i ∧ Chg H H' [] ∧ Ow Fl.int 3 H' out (wpk l i).1 ∧ (∀ j ∈ ids out, H.length ≤ j)) ?_ (n := l.length)
    ⟨0, .slice (some ⟨H.length, 0, some 0⟩) 0 0, rfl, by omega, by simp, by simp, by simp [wpk], by simp, Chg.app _, Ow.new0 (D := Fl.int) (xs := []) rfl rfl rfl rfl, by simp⟩
  rintro n t H' ⟨i, out, rfl, hi, t0, t4, t5, t6, c, oo, no⟩ ih
  have ov := o.chg c (by simp)
  have ll := ov.rd.len (P := Try.prog) (ty := 123) (by simp)
  obtain ⟨wle, wll⟩ := wpk_le l i
  have hF : H.length ≤ H'.length := c.1
  simp [t0, t4, t5, t6, ll]
  refine wp_dec ?_ ?_ <;> intro g
  · have hi' : i < l.length := by omega
    obtain ⟨f, hf⟩ : ∃ f, f = (wpk l i).2 := ⟨_, rfl⟩
    have hwp : wpk l (i + 1) = if whole (part l f i) then ((wpk l i).1 ++ [(l.getD f flit0).1], i + 1) else wpk l i := by rw [hf]; rfl
    rw [← hf] at t5 wle
    have e1 : ∀ [Inhabited Unit], IntKind.i64.wrap ((i : Int) + 1) = (i : Int) + 1 := by intro _; exact w64 (by omega) (by omega)
    have e2 : ∀ [Inhabited Unit], IntKind.i64.wrap ((i : Int) + 1 + 1) = ((i + 1 : Nat) : Int) + 1 := by intro _; rw [w64 (by omega) (by omega)]; omega
    obtain ⟨s, hs, os, ids_s⟩ := ov.slice (P := Try.prog) (ty := 123) (by simp) (lo := some (.int .i64 (f : Int))) (hi := some (.int .i64 ((i : Int) + 1))) (l := f) (u := i + 1) rfl rfl (by omega) (by omega)
    have iw := fun F => sIsWhole_c (frz := F) (H := H') s (part l f i) os.rd (by rw [part_len wle hi']; omega)
    have hfl : f < l.length := by omega
    have q1 := ov.rd.idx (P := Try.prog) (ty := 123) (e := 134) (by simp) (i := (i : Int)) (by omega) (by omega)
    have q2 := ov.rd.field (P := Try.prog) (s := 134) (f := 0) (o := 0) (n := 1) (ag := false) (by simp) (j := i * 5) (by omega)
    have q3 := ov.rd.cell (P := Try.prog) (e := 3) (by simp) hi' (c := 0) (by decide)
    simp only [Int.toNat_natCast, flF_n, Nat.add_zero] at q1 q2 q3
    simp only [flF_f] at q3
    simp at q3
    simp [t0, t4, t5, t6, e1, hs, iw]
    refine wp_dec ?_ ?_ <;> intro g2
    · obtain ⟨out', H2, hap, o2, c2, n2⟩ := oo.push (P := Try.prog) (frz := H.length) (ty := 24) (a := l[i].1) (by simp) rfl (by omega) no
      simp only [Fl.int_f] at hap
      have l2 := c2.1
      have hsame := whole_same wle hi' g2
      have hgf : l.getD f flit0 = l[f] := by simp [List.getD_eq_getElem?_getD, hfl]
      have hgi : l.getD i flit0 = l[i] := by simp [List.getD_eq_getElem?_getD, hi']
      rw [hgf, hgi] at hsame
      rw [if_pos g2, hgf] at hwp
      simp [-vfieldAddr, vfa_ptr, t0, t4, t5, t6, q1, q2, q3, hap, e1]
      refine ih (l.length - (i + 1)) _ _ ⟨i + 1, out', rfl, by omega, by simp [t0], by simp, by simp [hwp], by simp, c.trans' c2 (fun j hj => .inr (no j hj)), ?_, fun j hj => ?_⟩ (by omega)
      · rw [hwp]; rw [hsame] at o2; exact o2
      · rcases n2 j hj with h1 | h1
        · exact no j h1
        · omega
    · rw [if_neg g2] at hwp
      simp [t0, t4, t5, t6]
      refine ih (l.length - (i + 1)) _ _ ⟨i + 1, out, rfl, by omega, by simp [t0], by simp [t4], by rw [hwp, ← hf]; simp [t5], by simp [e1], c, by rw [hwp]; exact oo, no⟩ (by omega)
  · have : i = l.length := by omega
    subst this
    simp [t0, t4, t5, t6, ll]
    refine wp_dec ?_ ?_ <;> intro g2
    · have hz : wholePk l = [] := if_pos (by omega)
      simp [t0, t4, t5, t6]
      exact ⟨.slice (some ⟨H'.length, 0, some 0⟩) 0 0, false, rfl, by rw [hz]; exact Ow.new0 (D := Fl.int) (xs := []) rfl rfl rfl rfl, by simp; omega, c.trans (Chg.app _)⟩
    · have hz : wholePk l = (wpk l l.length).1 := if_neg (by omega)
      simp [t0, t4, t5, t6]
      exact ⟨out, true, rfl, by rw [hz]; exact oo, no, c⟩
end Go.Proofs.Ytcigpclbhfkgaaa.V
/-! What has arrived at a node. -/
set_option linter.all false
namespace Go.Proofs.Ytcigpclbhfkgaaa.V
open Go Go.VM Go.Proofs
set_option maxRecDepth 10000
variable {frz : Nat} {H : Heap}
/-- without the flits behind the last tail -/
def trim (l : List FlitD) : List FlitD := (l.reverse.dropWhile fun f => !f.2.2.2.2).reverse
theorem trim_nil : trim [] = [] := rfl
theorem trim_snoc (l : List FlitD) (f : FlitD) : trim (l ++ [f]) = if f.2.2.2.2 = true then l ++ [f] else trim l := by
  unfold trim
  rw [List.reverse_append, List.reverse_singleton, List.singleton_append, List.dropWhile_cons]
  cases h : f.2.2.2.2 <;> simp
def arrIds (arr : SSD) (node : Nat) (c : Int) : List Int := wholePk (trim ((arr.getD node []).filter fun f => f.2.2.1 = c))
theorem sClassOnly_w (v : Value) (xs : List FlitD) (c : Int) (hI : Rd flF H v xs) (hl : xs.length ≤ 1073741824) :
   wp (vcall C frz 176 [v, .int .i64 c] H) (fun r H' => Ow flF 134 H' r (xs.filter fun f => f.2.2.1 = c) ∧ (∀ i ∈ ids r, H.length ≤ i) ∧ Chg H H' []) := by
  rw [vcall_go (fn := Try.f176) Try.func176 rfl (by kernel_rfl) rfl]
  simp
  refine wp_inv (fun n t H' => ∃ (i : Nat) (r : Value), n = xs.length - i ∧ i ≤ xs.length ∧ t 0 = v ∧ t 1 = .int .i64 c ∧ t 5 = r ∧ t 6 = .int .i64 i ∧ Chg H H' [] ∧ Ow flF 134 H' r ((xs.take i).filter fun f => f.2.2.1 = c) ∧ (∀ j ∈ ids r, H.length ≤ j)) ?_ (n := xs.length)
    ⟨0, .slice (some ⟨H.length, 0, some 0⟩) 0 0, rfl, by omega, by simp, by simp, by simp, by simp, Chg.app _, Ow.new0 (D := flF) (xs := []) rfl rfl rfl rfl, by simp⟩
  rintro n t H' ⟨i, r, rfl, hi, t0, t1, t5, t6, ch, o, nr⟩ ih
  have rd := hI.chg ch (by simp)
  simp [t0, t1, t5, t6, rd.len (P := Try.prog) (ty := 123) (by simp)]
  refine wp_dec ?_ ?_ <;> intro g
  · have hi' : i < xs.length := by omega
    have q1 := rd.idx (P := Try.prog) (ty := 123) (e := 134) (by simp) (i := (i : Int)) (by omega) (by omega)
    have q2 := rd.load (P := Try.prog) (e := 134) (by simp) hi'
    have q3 := rd.field (P := Try.prog) (s := 134) (f := 2) (o := 2) (n := 1) (ag := false) (by simp) (j := i * 5) (by omega)
    have q4 := rd.cell (P := Try.prog) (e := 3) (by simp) hi' (c := 2) (by decide)
    simp only [Int.toNat_natCast, flF_n] at q1 q2 q4
    simp only [flF_f] at q4
    simp at q4
    have hF : H.length ≤ H'.length := ch.1
    have hfl := List.length_filter_le (fun f : FlitD => decide (f.2.2.1 = c)) (xs.take i)
    have htl : (xs.take i).length ≤ i := by simp; omega
    simp [-vfieldAddr, vfa_ptr, t0, t1, t5, t6, q1, q3, q4]
    refine wp_dec ?_ ?_ <;> intro g1
    · obtain ⟨r', H2, hap, o2, c2, n2⟩ := o.push (P := Try.prog) (frz := H.length) (ty := 123) (a := xs[i]) (by simp) rfl (by omega) nr
      simp only [flF_f] at hap
      simp [t0, t1, t5, t6, q1, q2, flF_f, hap]
      refine ih (xs.length - (i + 1)) _ _ ⟨i + 1, r', rfl, by omega, by simp [t0], by simp [t1], by simp, ?_, ch.trans' c2 (fun j hj => .inr (nr j hj)), ?_, fun j hj => ?_⟩ (by omega)
      · simp; rw [w64 (by omega) (by omega)]
      · rw [List.take_succ_eq_append_getElem hi', List.filter_append]; simpa [g1] using o2
      · rcases n2 j hj with h1 | h1
        · exact nr j h1
        · omega
    · simp [t0, t1, t5, t6, g1]
      refine ih (xs.length - (i + 1)) _ _ ⟨i + 1, r, rfl, by omega, by simp [t0], by simp [t1], by simp [t5], ?_, ch, ?_, nr⟩ (by omega)
      · simp; rw [w64 (by omega) (by omega)]
      · rw [List.take_succ_eq_append_getElem hi', List.filter_append]; simpa [g1] using o
  · have : i = xs.length := by omega
    subst this
    rw [List.take_length] at o
    simp [t0, t1, t5, t6]
    exact ⟨o, nr, ch⟩
theorem arrived_w {id : Nat} {w h tm : Int} {u2 u3 u4 u5 u6 u7 u8 : Value} {v9 : SSV} {arr : SSD} {node : Nat} {k : Int} (hr : H[id]? = some ⟨[.int .i64 w, .int .i64 h, u2, u3, u4, u5, u6, u7, u8, v9.1, .int .i64 tm], 0, 59⟩) (h9 : dSS.Ow H v9 arr) (hn : node < arr.length) :
   wp (vcall C frz 143 [.pointer (some ⟨id, 0, some 0⟩), .int .i64 node, .int .i64 k] H) (IntsOk H (arrIds arr node k)) := by
  rw [vcall_go (fn := Try.f143) Try.func143 rfl (by kernel_rfl) rfl]
  have rl := h9.1.rd
  obtain ⟨u, _, a2, a3, a4⟩ := RdL_at rl (ty := 57) (e := 123) (by simp) (by simp) hn
  have hm := h9.2.2 _ (List.getElem_mem hn)
  have hg : arr.getD node [] = arr[node] := by simp [List.getD_eq_getElem?_getD, hn]
  simp [VM.vnil, VM.look, hr, a2, a3]
  refine wp_thn (classOnly_w u arr[node] k a4 (by omega)) ?_
  rintro s G1 ⟨os, ns, c1⟩
  have cH : Chg H G1 [] := c1
  have ns' : ∀ i ∈ ids s, H.length ≤ i := fun i hi => by have := ns i hi; omega
  have hfl := List.length_filter_le (fun f : FlitD => decide (f.2.2.1 = k)) arr[node]
  unfold arrIds
  rw [hg]
  generalize (arr[node].filter fun f => f.2.2.1 = k) = l0 at *
  simp
  refine wp_inv (fun n t H' => ∃ (s : Value) (l : List FlitD), n = l.length ∧ t 8 = s ∧ H' = G1 ∧ Ow flF 134 G1 s l ∧ trim l = trim l0 ∧ l.length ≤ l0.length) ?_ (n := l0.length)
    ⟨s, l0, rfl, by simp, rfl, os, rfl, Nat.le_refl _⟩
  rintro n t H' ⟨s, l, rfl, t8, rfl, o, ht, hle⟩ ih
  have ll := o.rd.len (P := Try.prog) (ty := 123) (by simp)
  simp [t8, ll]
  have fin : trim l0 = l → wp (vcall C H.length 178 [s] H') (fun r H2 => IntsOk H (wholePk (trim l0)) r H2) := fun e => by
    rw [e]
    refine (wholePackets_w s l o (by omega)).mono ?_
    rintro r H2 ⟨u', ok, rfl, o2, n2, c2⟩
    exact ⟨u', ok, rfl, o2, fun i hi => by have := n2 i hi; have := cH.1; omega, cH.trans c2⟩
  by_cases h0 : l = []
  · have hz : trim l0 = l := by rw [← ht, h0]; rfl
    have hl0 : l.length = 0 := by rw [h0]; rfl
    simp [hl0, t8]
    refine wp_thn (fin hz) ?_
    rintro _ H2 ⟨u', ok, rfl, o2, n2, c2⟩
    simp
    exact ⟨u', ok, rfl, o2, n2, c2⟩
  · have hpos : 0 < l.length := List.length_pos_iff.2 h0
    obtain ⟨m, hm1⟩ : ∃ m, l.length = m + 1 := ⟨l.length - 1, by omega⟩
    have hml : m < l.length := by omega
    have hsn : l = l.take m ++ [l[m]] := by
      have := List.take_succ_eq_append_getElem hml
      rw [← this, List.take_of_length_le (by omega)]
    have e1 : ∀ [Inhabited Unit], IntKind.i64.wrap ((m : Int) + 1 - 1) = (m : Int) := by intro _; rw [w64 (by omega) (by omega)]; omega
    have e1' : ∀ [Inhabited Unit], IntKind.i64.wrap (m : Int) = (m : Int) := by intro _; rw [w64 (by omega) (by omega)]
    have q1 := o.rd.idx (P := Try.prog) (ty := 123) (e := 134) (by simp) (i := (m : Int)) (by omega) (by omega)
    have q3 := o.rd.field (P := Try.prog) (s := 134) (f := 4) (o := 4) (n := 1) (ag := false) (by simp) (j := m * 5) (by omega)
    have q4 := o.rd.cell (P := Try.prog) (e := 4) (by simp) hml (c := 4) (by decide)
    simp only [Int.toNat_natCast, flF_n] at q1 q4
    simp only [flF_f] at q4
    simp at q4
    have hgt : (0 : Int) < (m : Int) + 1 := by omega
    have hts := trim_snoc (l.take m) l[m]
    rw [← hsn] at hts
    obtain ⟨f, hf⟩ : ∃ f, f = l[m] := ⟨_, rfl⟩
    rw [← hf] at hts q4
    simp [-vfieldAddr, vfa_ptr, t8, ll, hm1, hgt, e1, e1', q1, q3, q4]
    cases hb : f.2.2.2.2
    · rw [if_neg (by rw [hb]; simp)] at hts
      obtain ⟨s', hs', os', ids_s⟩ := o.slice (P := Try.prog) (ty := 123) (by simp) (lo := none) (hi := some (.int .i64 (m : Int))) (l := 0) (u := m) rfl rfl (by omega) (by omega)
      simp only [List.drop_zero, Nat.sub_zero] at os'
      simp [t8, ll, hm1, e1, e1', hs']
      refine ih (l.take m).length _ _ ⟨s', l.take m, rfl, by simp, rfl, os', by rw [← hts, ht], by simp; omega⟩ (by simp; omega)
    · rw [if_pos hb] at hts
      have hz : trim l0 = l := by rw [← ht, hts]
      simp [t8]
      refine wp_thn (fin hz) ?_
      rintro _ H2 ⟨u', ok, rfl, o2, n2, c2⟩
      simp
      exact ⟨u', ok, rfl, o2, n2, c2⟩
theorem sArrived_w {v : NetV} {x : NetD} {node : Nat} {k : Int} (o : dNet.Ow H v x) (hn : node < x.2.2.2.2.2.2.1.length) :
   wp (vcall C frz 138 [dNet.val v x, .int .i64 node, .int .i64 k] H) (IntsOk H (arrIds x.2.2.2.2.2.2.1 node k)) := by
  have ones := dNet_one o
  obtain ⟨_, _, _, _, _, _, h9, _⟩ := o
  rw [dNet_val, vcall_go (fn := Try.f138) Try.func138 rfl (by kernel_rfl) rfl]
  have rl := h9.1.rd
  obtain ⟨arr, harr⟩ : ∃ a, a = x.2.2.2.2.2.2.1 := ⟨_, rfl⟩
  simp only [← harr] at hn h9 rl ⊢
  have rl' := fun (L : Heap) => rl.app (L := L)
  have hm := h9.2.2 _ (List.getElem_mem hn)
  have hg : arr.getD node [] = arr[node] := by simp [List.getD_eq_getElem?_getD, hn]
  obtain ⟨u, hu, _, _, a4'⟩ := RdL_at rl (ty := 57) (e := 123) (by simp) (by simp) hn
  have aa : ∀ (L : Heap), vindexAddr Try.prog (H ++ L) 57 v.2.2.2.2.2.2.1.1 (.int .i64 node) = some (elp v.2.2.2.2.2.2.1.1 node) ∧ vload Try.prog (H ++ L) 123 (elp v.2.2.2.2.2.2.1.1 node) = some u := fun L => by
    obtain ⟨u', hu', b2, b3, b4⟩ := RdL_at (rl' L) (ty := 57) (e := 123) (by simp) (by simp) hn
    rw [hu] at hu'; cases hu'
    exact ⟨b2, b3⟩
  have a2 := fun L => (aa L).1
  have a3 := fun L => (aa L).2
  simp [ones, a2, a3]
  refine wp_thn (sClassOnly_w u arr[node] k a4'.app (by omega)) ?_
  rintro s G1 ⟨os, ns, c1⟩
  have cH : Chg H G1 [] := (Chg.app []).trans c1
  have ns' : ∀ i ∈ ids s, H.length ≤ i := fun i hi => by have := ns i hi; simp at this; omega
  have hfl := List.length_filter_le (fun f : FlitD => decide (f.2.2.1 = k)) arr[node]
  unfold arrIds
  rw [hg]
  generalize (arr[node].filter fun f => f.2.2.1 = k) = l0 at *
  simp
  refine wp_inv (fun n t H' => ∃ (s : Value) (l : List FlitD), n = l.length ∧ t 8 = s ∧ H' = G1 ∧ Ow flF 134 G1 s l ∧ trim l = trim l0 ∧ l.length ≤ l0.length) ?_ (n := l0.length)
    ⟨s, l0, rfl, by simp, rfl, os, rfl, Nat.le_refl _⟩
  rintro n t H' ⟨s, l, rfl, t8, rfl, o, ht, hle⟩ ih
  have ll := o.rd.len (P := Try.prog) (ty := 123) (by simp)
  simp [t8, ll]
  have fin : trim l0 = l → wp (vcall C H.length 177 [s] H') (fun r H2 => IntsOk H (wholePk (trim l0)) r H2) := fun e => by
    rw [e]
    refine (sWholePackets_w s l o (by omega)).mono ?_
    rintro r H2 ⟨u', ok, rfl, o2, n2, c2⟩
    exact ⟨u', ok, rfl, o2, fun i hi => by have := n2 i hi; have := cH.1; omega, cH.trans c2⟩
  by_cases h0 : l = []
  · have hz : trim l0 = l := by rw [← ht, h0]; rfl
    have hl0 : l.length = 0 := by rw [h0]; rfl
    simp [hl0, t8]
    refine wp_thn (fin hz) ?_
    rintro _ H2 ⟨u', ok, rfl, o2, n2, c2⟩
    simp
    exact ⟨u', ok, rfl, o2, n2, c2⟩
  · have hpos : 0 < l.length := List.length_pos_iff.2 h0
    obtain ⟨m, hm1⟩ : ∃ m, l.length = m + 1 := ⟨l.length - 1, by omega⟩
    have hml : m < l.length := by omega
    have hsn : l = l.take m ++ [l[m]] := by
      have := List.take_succ_eq_append_getElem hml
      rw [← this, List.take_of_length_le (by omega)]
    have e1 : ∀ [Inhabited Unit], IntKind.i64.wrap ((m : Int) + 1 - 1) = (m : Int) := by intro _; rw [w64 (by omega) (by omega)]; omega
    have e1' : ∀ [Inhabited Unit], IntKind.i64.wrap (m : Int) = (m : Int) := by intro _; rw [w64 (by omega) (by omega)]
    have q1 := o.rd.idx (P := Try.prog) (ty := 123) (e := 134) (by simp) (i := (m : Int)) (by omega) (by omega)
    have q3 := o.rd.field (P := Try.prog) (s := 134) (f := 4) (o := 4) (n := 1) (ag := false) (by simp) (j := m * 5) (by omega)
    have q4 := o.rd.cell (P := Try.prog) (e := 4) (by simp) hml (c := 4) (by decide)
    simp only [Int.toNat_natCast, flF_n] at q1 q4
    simp only [flF_f] at q4
    simp at q4
    have hgt : (0 : Int) < (m : Int) + 1 := by omega
    have hts := trim_snoc (l.take m) l[m]
    rw [← hsn] at hts
    obtain ⟨f, hf⟩ : ∃ f, f = l[m] := ⟨_, rfl⟩
    rw [← hf] at hts q4
    simp [-vfieldAddr, vfa_ptr, t8, ll, hm1, hgt, e1, e1', q1, q3, q4]
    cases hb : f.2.2.2.2
    · rw [if_neg (by rw [hb]; simp)] at hts
      obtain ⟨s', hs', os', ids_s⟩ := o.slice (P := Try.prog) (ty := 123) (by simp) (lo := none) (hi := some (.int .i64 (m : Int))) (l := 0) (u := m) rfl rfl (by omega) (by omega)
      simp only [List.drop_zero, Nat.sub_zero] at os'
      simp [t8, ll, hm1, e1, e1', hs']
      refine ih (l.take m).length _ _ ⟨s', l.take m, rfl, by simp, rfl, os', by rw [← hts, ht], by simp; omega⟩ (by simp; omega)
    · rw [if_pos hb] at hts
      have hz : trim l0 = l := by rw [← ht, hts]
      simp [t8]
      refine wp_thn (fin hz) ?_
      rintro _ H2 ⟨u', ok, rfl, o2, n2, c2⟩
      simp
      exact ⟨u', ok, rfl, o2, n2, c2⟩
end Go.Proofs.Ytcigpclbhfkgaaa.V
/-! Packets of a flow. -/
set_option linter.all false
namespace Go.Proofs.Ytcigpclbhfkgaaa.V
open Go Go.VM Go.Proofs
set_option maxRecDepth 10000
variable {frz : Nat} {H : Heap}
def isFlow (a b c : Int) (p : PkD) : Prop := p.2.1 = a ∧ p.2.2.1 = b ∧ p.2.2.2.1 = c
instance (a b c : Int) (p : PkD) : Decidable (isFlow a b c p) := inferInstanceAs (Decidable (_ ∧ _))
def sentP (list : List PkD) (id a b c : Int) : Prop := ∃ p ∈ list, p.1 = id ∧ isFlow a b c p
instance (list : List PkD) (id a b c : Int) : Decidable (sentP list id a b c) := inferInstanceAs (Decidable (∃ p ∈ list, _))
/-- the numbers of the packets of a flow -/
def sentIds (list : List PkD) (a b c : Int) : List Int := (list.filter fun p => isFlow a b c p).map (·.1)
/-- those numbers that belong to packets of a flow -/
def among (all : List Int) (list : List PkD) (a b c : Int) : List Int := all.filter fun id => sentP list id a b c
theorem among_len (all : List Int) (list : List PkD) (a b c : Int) : (among all list a b c).length ≤ all.length := List.length_filter_le _ _
theorem sentIds_len (list : List PkD) (a b c : Int) : (sentIds list a b c).length ≤ list.length := by unfold sentIds; rw [List.length_map]; exact List.length_filter_le _ _
def NewInts (H : Heap) (xs : List Int) (r : Value) (H' : Heap) : Prop := Ow Fl.int 3 H' r xs ∧ (∀ i ∈ ids r, H.length ≤ i) ∧ Chg H H' []
theorem isSent_c (v : Value) (list : List PkD) (id a b c : Int) (hI : Rd pkF H v list) (hl : list.length ≤ 1073741824) :
   vcall C frz 179 [v, .int .i64 id, .int .i64 a, .int .i64 b, .int .i64 c] H = some (.bool (decide (sentP list id a b c)), H) := by
  refine wp.exact (by simp) ?_ rfl
  rw [vcall_go (fn := Try.f179) Try.func179 rfl (by kernel_rfl) rfl]
  generalize hY : decide (sentP list id a b c) = Y
  simp [hI.len (P := Try.prog) (ty := 60) (by simp)]
  refine wp_inv (fun n t H' => ∃ i : Nat, n = list.length - i ∧ i ≤ list.length ∧ t 1 = .int .i64 id ∧ t 2 = .int .i64 a ∧ t 3 = .int .i64 b ∧ t 4 = .int .i64 c ∧ t 13 = v ∧ t 14 = .int .i64 list.length ∧ t 15 = .int .i64 i ∧ Chg H H' [] ∧ ∀ p ∈ list.take i, ¬ (p.1 = id ∧ isFlow a b c p)) ?_ (n := list.length)
    ⟨0, rfl, by omega, by simp, by simp, by simp, by simp, by simp, by simp, by simp, Chg.refl _, by simp⟩
  rintro n t H' ⟨i, rfl, hi, t1, t2, t3, t4, t13, t14, t15, ch, hk⟩ ih
  simp [t1, t2, t3, t4, t13, t14, t15]
  refine wp_dec ?_ ?_ <;> intro g
  · have hi' : i < list.length := by omega
    have rd := hI.chg ch (by simp)
    have q1 := rd.idx (P := Try.prog) (ty := 60) (e := 44) (by simp) (i := (i : Int)) (by omega) (by omega)
    have q2 := rd.load (P := Try.prog) (e := 44) (by simp) hi'
    simp only [Int.toNat_natCast, pkF_n] at q1 q2
    have hF : H.length ≤ H'.length := ch.1
    have hst := fun {x} (hx : x ∈ list.take (i + 1)) => mem_take_succ hi' hx
    have hmem := List.getElem_mem hi'
    obtain ⟨p, hp⟩ : ∃ p, p = list[i] := ⟨_, rfl⟩
    rw [← hp] at q2 hst hmem
    have ext : ¬ (p.1 = id ∧ isFlow a b c p) → ∀ x ∈ list.take (i + 1), ¬ (x.1 = id ∧ isFlow a b c x) := fun hh x hx => by
      rcases hst hx with hx | rfl
      · exact hk x hx
      · exact hh
    simp [t1, t2, t3, t4, t13, t14, t15, q1, q2, pkF_f, hF, VM.look]
    by_cases g1 : p.1 = id
    rotate_left
    · simp [t1, t2, t3, t4, t13, t14, t15, g1]
      refine ih (list.length - (i + 1)) _ _ ⟨i + 1, rfl, by omega, by simp [t1], by simp [t2], by simp [t3], by simp [t4], by simp [t13], by simp [t14], ?_, ch.trans (Chg.app _), ext (fun k => g1 k.1)⟩ (by omega)
      simp; rw [w64 (by omega) (by omega)]
    simp [t1, t2, t3, t4, t13, t14, t15, VM.look, g1]
    by_cases g2 : p.2.1 = a
    rotate_left
    · simp [t1, t2, t3, t4, t13, t14, t15, g1, g2]
      refine ih (list.length - (i + 1)) _ _ ⟨i + 1, rfl, by omega, by simp [t1], by simp [t2], by simp [t3], by simp [t4], by simp [t13], by simp [t14], ?_, ch.trans (Chg.app _), ext (fun k => g2 k.2.1)⟩ (by omega)
      simp; rw [w64 (by omega) (by omega)]
    simp [t1, t2, t3, t4, t13, t14, t15, VM.look, g1, g2]
    by_cases g3 : p.2.2.1 = b
    rotate_left
    · simp [t1, t2, t3, t4, t13, t14, t15, g1, g2, g3]
      refine ih (list.length - (i + 1)) _ _ ⟨i + 1, rfl, by omega, by simp [t1], by simp [t2], by simp [t3], by simp [t4], by simp [t13], by simp [t14], ?_, ch.trans (Chg.app _), ext (fun k => g3 k.2.2.1)⟩ (by omega)
      simp; rw [w64 (by omega) (by omega)]
    simp [t1, t2, t3, t4, t13, t14, t15, VM.look, g1, g2, g3]
    by_cases g4 : p.2.2.2.1 = c
    rotate_left
    · simp [t1, t2, t3, t4, t13, t14, t15, g1, g2, g3, g4]
      refine ih (list.length - (i + 1)) _ _ ⟨i + 1, rfl, by omega, by simp [t1], by simp [t2], by simp [t3], by simp [t4], by simp [t13], by simp [t14], ?_, ch.trans (Chg.app _), ext (fun k => g4 k.2.2.2)⟩ (by omega)
      simp; rw [w64 (by omega) (by omega)]
    simp [t1, t2, t3, t4, t13, t14, t15, VM.look, g1, g2, g3, g4]
    rw [← hY]; exact decide_eq_true ⟨p, hmem, g1, g2, g3, g4⟩
  · have : i = list.length := by omega
    subst this
    rw [List.take_length] at hk
    simp [t1, t2, t3, t4, t13, t14, t15]
    rw [← hY]; exact decide_eq_false (fun ⟨p, h1, h2⟩ => hk p h1 h2)
theorem sentAmong_w (u v : Value) (all : List Int) (list : List PkD) (a b c : Int) (hA : Rd Fl.int H u all) (hI : Rd pkF H v list) (hla : all.length ≤ 1073741824) (hl : list.length ≤ 1073741824) :
   wp (vcall C frz 145 [u, v, .int .i64 a, .int .i64 b, .int .i64 c] H) (NewInts H (among all list a b c)) := by
  rw [vcall_go (fn := Try.f145) Try.func145 rfl (by kernel_rfl) rfl]
  simp [hA.app.len (P := Try.prog) (ty := 24) (by simp)]
  refine wp_inv (fun n t H' => ∃ (i : Nat) (out : Value), n = all.length - i ∧ i ≤ all.length ∧ t 1 = v ∧ t 2 = .int .i64 a ∧ t 3 = .int .i64 b ∧ t 4 = .int .i64 c ∧ t 11 = out ∧ t 15 = u ∧ t 16 = .int .i64 all.length ∧ t 17 = .int .i64 i ∧ NewInts H (among (all.take i) list a b c) out H') ?_ (n := all.length)
    ⟨0, .slice (some ⟨H.length, 0, some 0⟩) 0 0, rfl, by omega, by simp, by simp, by simp, by simp, by simp, by simp, by simp, by simp, Ow.new0 (D := Fl.int) (xs := []) rfl rfl rfl rfl, by simp, Chg.app _⟩
  rintro n t H' ⟨i, out, rfl, hi, t1, t2, t3, t4, t11, t15, t16, t17, o, no, ch⟩ ih
  simp [t1, t2, t3, t4, t11, t15, t16, t17]
  refine wp_dec ?_ ?_ <;> intro g
  · have hi' : i < all.length := by omega
    have ra := (hA.chg ch (by simp)).isI
    have q1 := ra.idx (P := Try.prog) (ty := 24) (e := 3) (by simp) (i := (i : Int)) (by omega) (by omega)
    have q2 := ra.load (P := Try.prog) (e := 3) (by simp) hi'
    simp only [Int.toNat_natCast, getD_at hi'] at q1 q2
    have is := fun F => isSent_c (frz := F) (H := H') v list all[i] a b c (hI.chg ch (by simp)) hl
    have hal := among_len (all.take i) list a b c
    have htl : (all.take i).length ≤ i := by simp; omega
    have hF : H.length ≤ H'.length := ch.1
    have hsu : among (all.take (i + 1)) list a b c = among (all.take i) list a b c ++ (if sentP list all[i] a b c then [all[i]] else []) := by
      unfold among; rw [List.take_succ_eq_append_getElem hi', List.filter_append]; congr 1; by_cases h : sentP list all[i] a b c <;> simp [h]
    simp [t1, t2, t3, t4, t11, t15, t16, t17, q1, q2, is]
    refine wp_dec ?_ ?_ <;> intro g1
    · obtain ⟨r', H2, hap, o2, c2, n2⟩ := o.push (P := Try.prog) (frz := H.length) (ty := 24) (a := all[i]) (by simp) rfl (by omega) no
      simp only [Fl.int_f] at hap
      simp [t1, t2, t3, t4, t11, t15, t16, t17, hap]
      refine ih (all.length - (i + 1)) _ _ ⟨i + 1, r', rfl, by omega, by simp [t1], by simp [t2], by simp [t3], by simp [t4], by simp, by simp [t15], by simp [t16], ?_, by rw [hsu, if_pos g1]; exact o2, fun j hj => ?_, ch.trans' c2 (fun j hj => .inr (no j hj))⟩ (by omega)
      · simp; rw [w64 (by omega) (by omega)]
      · rcases n2 j hj with h1 | h1
        · exact no j h1
        · omega
    · simp [t1, t2, t3, t4, t11, t15, t16, t17]
      refine ih (all.length - (i + 1)) _ _ ⟨i + 1, out, rfl, by omega, by simp [t1], by simp [t2], by simp [t3], by simp [t4], by simp [t11], by simp [t15], by simp [t16], ?_, by rw [hsu, if_neg g1, List.append_nil]; exact o, no, ch⟩ (by omega)
      simp; rw [w64 (by omega) (by omega)]
  · have : i = all.length := by omega
    subst this
    rw [List.take_length] at o
    simp [t1, t2, t3, t4, t11, t15, t16, t17]
    exact ⟨o, no, ch⟩
theorem sentFrom_w (v : Value) (list : List PkD) (a b c : Int) (hI : Rd pkF H v list) (hl : list.length ≤ 1073741824) :
   wp (vcall C frz 146 [v, .int .i64 a, .int .i64 b, .int .i64 c] H) (NewInts H (sentIds list a b c)) := by
  rw [vcall_go (fn := Try.f146) Try.func146 rfl (by kernel_rfl) rfl]
  simp [hI.app.len (P := Try.prog) (ty := 60) (by simp)]
  refine wp_inv (fun n t H' => ∃ (i : Nat) (out : Value), n = list.length - i ∧ i ≤ list.length ∧ t 1 = .int .i64 a ∧ t 2 = .int .i64 b ∧ t 3 = .int .i64 c ∧ t 9 = out ∧ t 13 = v ∧ t 14 = .int .i64 list.length ∧ t 15 = .int .i64 i ∧ NewInts H (sentIds (list.take i) a b c) out H') ?_ (n := list.length)
    ⟨0, .slice (some ⟨H.length, 0, some 0⟩) 0 0, rfl, by omega, by simp, by simp, by simp, by simp, by simp, by simp, by simp, Ow.new0 (D := Fl.int) (xs := []) rfl rfl rfl rfl, by simp, Chg.app _⟩
  rintro n t H' ⟨i, out, rfl, hi, t1, t2, t3, t9, t13, t14, t15, o, no, ch⟩ ih
  have rd := hI.chg ch (by simp)
  simp [t1, t2, t3, t9, t13, t14, t15, rd.len (P := Try.prog) (ty := 60) (by simp)]
  refine wp_dec ?_ ?_ <;> intro g
  · have hi' : i < list.length := by omega
    have q1 := rd.idx (P := Try.prog) (ty := 60) (e := 44) (by simp) (i := (i : Int)) (by omega) (by omega)
    have q2 := rd.load (P := Try.prog) (e := 44) (by simp) hi'
    have f0 := rd.field (P := Try.prog) (s := 44) (f := 0) (o := 0) (n := 1) (ag := false) (by simp) (j := i * 5) (by omega)
    have f1 := rd.field (P := Try.prog) (s := 44) (f := 1) (o := 1) (n := 1) (ag := false) (by simp) (j := i * 5) (by omega)
    have f2 := rd.field (P := Try.prog) (s := 44) (f := 2) (o := 2) (n := 1) (ag := false) (by simp) (j := i * 5) (by omega)
    have f3 := rd.field (P := Try.prog) (s := 44) (f := 3) (o := 3) (n := 1) (ag := false) (by simp) (j := i * 5) (by omega)
    have k0 := rd.cell (P := Try.prog) (e := 3) (by simp) hi' (c := 0) (by decide)
    have k1 := rd.cell (P := Try.prog) (e := 3) (by simp) hi' (c := 1) (by decide)
    have k2 := rd.cell (P := Try.prog) (e := 3) (by simp) hi' (c := 2) (by decide)
    have k3 := rd.cell (P := Try.prog) (e := 3) (by simp) hi' (c := 3) (by decide)
    simp only [Int.toNat_natCast, pkF_n, Nat.add_zero] at q1 q2 f0 k0 k1 k2 k3
    simp only [pkF_f] at k0 k1 k2 k3
    simp at k0 k1 k2 k3
    have hsl := sentIds_len (list.take i) a b c
    have htl : (list.take i).length ≤ i := by simp; omega
    have hF : H.length ≤ H'.length := ch.1
    have hsu : sentIds (list.take (i + 1)) a b c = sentIds (list.take i) a b c ++ (if isFlow a b c list[i] then [list[i].1] else []) := by
      unfold sentIds; rw [List.take_succ_eq_append_getElem hi', List.filter_append, List.map_append]; congr 1; by_cases h : isFlow a b c list[i] <;> simp [h]
    obtain ⟨p, hp⟩ : ∃ p, p = list[i] := ⟨_, rfl⟩
    rw [← hp] at q2 k0 k1 k2 k3 hsu
    simp [-vfieldAddr, vfa_ptr, t1, t2, t3, t9, t13, t14, t15, q1, q2, f0, f1, f2, f3, k0, k1, k2, k3, pkF_f, hF, VM.look]
    by_cases g1 : p.2.1 = a
    rotate_left
    · have hno : ¬ isFlow a b c p := fun k => g1 k.1
      simp [t1, t2, t3, t9, t13, t14, t15, g1]
      refine ih (list.length - (i + 1)) _ _ ⟨i + 1, out, rfl, by omega, by simp [t1], by simp [t2], by simp [t3], by simp [t9], by simp [t13], by simp [t14], ?_, by rw [hsu, if_neg hno, List.append_nil]; exact o.app, no, ch.trans (Chg.app _)⟩ (by omega)
      simp; rw [w64 (by omega) (by omega)]
    simp [-vfieldAddr, vfa_ptr, t1, t2, t3, t9, t13, t14, t15, VM.look, q1, f0, f1, f2, f3, k0, k1, k2, k3, g1]
    by_cases g2 : p.2.2.1 = b
    rotate_left
    · have hno : ¬ isFlow a b c p := fun k => g2 k.2.1
      simp [t1, t2, t3, t9, t13, t14, t15, g1, g2]
      refine ih (list.length - (i + 1)) _ _ ⟨i + 1, out, rfl, by omega, by simp [t1], by simp [t2], by simp [t3], by simp [t9], by simp [t13], by simp [t14], ?_, by rw [hsu, if_neg hno, List.append_nil]; exact o.app, no, ch.trans (Chg.app _)⟩ (by omega)
      simp; rw [w64 (by omega) (by omega)]
    simp [-vfieldAddr, vfa_ptr, t1, t2, t3, t9, t13, t14, t15, VM.look, q1, f0, f1, f2, f3, k0, k1, k2, k3, g1, g2]
    by_cases g3 : p.2.2.2.1 = c
    rotate_left
    · have hno : ¬ isFlow a b c p := fun k => g3 k.2.2
      simp [t1, t2, t3, t9, t13, t14, t15, g1, g2, g3]
      refine ih (list.length - (i + 1)) _ _ ⟨i + 1, out, rfl, by omega, by simp [t1], by simp [t2], by simp [t3], by simp [t9], by simp [t13], by simp [t14], ?_, by rw [hsu, if_neg hno, List.append_nil]; exact o.app, no, ch.trans (Chg.app _)⟩ (by omega)
      simp; rw [w64 (by omega) (by omega)]
    simp [-vfieldAddr, vfa_ptr, t1, t2, t3, t9, t13, t14, t15, VM.look, q1, f0, f1, f2, f3, k0, k1, k2, k3, g1, g2, g3]
    obtain ⟨r', H2, hap, o2, c2, n2⟩ := (o.app (L := [⟨[.int .i64 p.1, .int .i64 a, .int .i64 b, .int .i64 c, .int .i64 p.2.2.2.2], 0, 44⟩])).push (P := Try.prog) (frz := H.length) (ty := 24) (a := p.1) (by simp) rfl (by omega) no
    simp only [Fl.int_f, List.append_assoc, List.cons_append, List.nil_append, List.length_append, List.length_cons, List.length_nil] at hap
    simp [t1, t2, t3, t9, t13, t14, t15, hap]
    refine ih (list.length - (i + 1)) _ _ ⟨i + 1, r', rfl, by omega, by simp [t1], by simp [t2], by simp [t3], by simp, by simp [t13], by simp [t14], ?_, by rw [hsu, if_pos ⟨g1, g2, g3⟩]; exact o2, fun j hj => ?_, (ch.trans (Chg.app _)).trans' c2 (fun j hj => .inr (no j hj))⟩ (by omega)
    · simp; rw [w64 (by omega) (by omega)]
    · rcases n2 j hj with h1 | h1
      · exact no j h1
      · simp at h1; omega
  · have : i = list.length := by omega
    subst this
    rw [List.take_length] at o
    simp [t1, t2, t3, t9, t13, t14, t15]
    exact ⟨o, no, ch⟩
theorem sSentFrom_w (v : Value) (list : List PkD) (a b c : Int) (hI : Rd pkF H v list) (hl : list.length ≤ 1073741824) :
   wp (vcall C frz 141 [v, .int .i64 a, .int .i64 b, .int .i64 c] H) (NewInts H (sentIds list a b c)) := by
  rw [vcall_go (fn := Try.f141) Try.func141 rfl (by kernel_rfl) rfl]
  simp
  refine wp_inv (fun n t H' => ∃ (i : Nat) (out : Value), n = list.length - i ∧ i ≤ list.length ∧ t 0 = v ∧ t 1 = .int .i64 a ∧ t 2 = .int .i64 b ∧ t 3 = .int .i64 c ∧ t 9 = out ∧ t 10 = .int .i64 i ∧ NewInts H (sentIds (list.take i) a b c) out H') ?_ (n := list.length)
    ⟨0, .slice (some ⟨H.length, 0, some 0⟩) 0 0, rfl, by omega, by simp, by simp, by simp, by simp, by simp, by simp, Ow.new0 (D := Fl.int) (xs := []) rfl rfl rfl rfl, by simp, Chg.app _⟩
  rintro n t H' ⟨i, out, rfl, hi, t0, t1, t2, t3, t9, t10, o, no, ch⟩ ih
  have rd := hI.chg ch (by simp)
  simp [t0, t1, t2, t3, t9, t10, rd.len (P := Try.prog) (ty := 60) (by simp)]
  refine wp_dec ?_ ?_ <;> intro g
  · have hi' : i < list.length := by omega
    have q1 := rd.idx (P := Try.prog) (ty := 60) (e := 44) (by simp) (i := (i : Int)) (by omega) (by omega)
    have q2 := rd.load (P := Try.prog) (e := 44) (by simp) hi'
    have f0 := rd.field (P := Try.prog) (s := 44) (f := 0) (o := 0) (n := 1) (ag := false) (by simp) (j := i * 5) (by omega)
    have f1 := rd.field (P := Try.prog) (s := 44) (f := 1) (o := 1) (n := 1) (ag := false) (by simp) (j := i * 5) (by omega)
    have f2 := rd.field (P := Try.prog) (s := 44) (f := 2) (o := 2) (n := 1) (ag := false) (by simp) (j := i * 5) (by omega)
    have f3 := rd.field (P := Try.prog) (s := 44) (f := 3) (o := 3) (n := 1) (ag := false) (by simp) (j := i * 5) (by omega)
    have k0 := rd.cell (P := Try.prog) (e := 3) (by simp) hi' (c := 0) (by decide)
    have k1 := rd.cell (P := Try.prog) (e := 3) (by simp) hi' (c := 1) (by decide)
    have k2 := rd.cell (P := Try.prog) (e := 3) (by simp) hi' (c := 2) (by decide)
    have k3 := rd.cell (P := Try.prog) (e := 3) (by simp) hi' (c := 3) (by decide)
    simp only [Int.toNat_natCast, pkF_n, Nat.add_zero] at q1 q2 f0 k0 k1 k2 k3
    simp only [pkF_f] at k0 k1 k2 k3
    simp at k0 k1 k2 k3
    have hsl := sentIds_len (list.take i) a b c
    have htl : (list.take i).length ≤ i := by simp; omega
    have hF : H.length ≤ H'.length := ch.1
    have hsu : sentIds (list.take (i + 1)) a b c = sentIds (list.take i) a b c ++ (if isFlow a b c list[i] then [list[i].1] else []) := by
      unfold sentIds; rw [List.take_succ_eq_append_getElem hi', List.filter_append, List.map_append]; congr 1; by_cases h : isFlow a b c list[i] <;> simp [h]
    obtain ⟨p, hp⟩ : ∃ p, p = list[i] := ⟨_, rfl⟩
    rw [← hp] at q2 k0 k1 k2 k3 hsu
    simp [-vfieldAddr, vfa_ptr, t0, t1, t2, t3, t9, t10, q1, q2, f0, f1, f2, f3, k0, k1, k2, k3, pkF_f, hF, VM.look]
    by_cases g1 : p.2.1 = a
    rotate_left
    · have hno : ¬ isFlow a b c p := fun k => g1 k.1
      simp [t0, t1, t2, t3, t9, t10, g1]
      refine ih (list.length - (i + 1)) _ _ ⟨i + 1, out, rfl, by omega, by simp [t0], by simp [t1], by simp [t2], by simp [t3], by simp [t9], ?_, by rw [hsu, if_neg hno, List.append_nil]; exact o, no, ch⟩ (by omega)
      simp; rw [w64 (by omega) (by omega)]
    simp [-vfieldAddr, vfa_ptr, t0, t1, t2, t3, t9, t10, VM.look, q1, f0, f1, f2, f3, k0, k1, k2, k3, g1]
    by_cases g2 : p.2.2.1 = b
    rotate_left
    · have hno : ¬ isFlow a b c p := fun k => g2 k.2.1
      simp [t0, t1, t2, t3, t9, t10, g1, g2]
      refine ih (list.length - (i + 1)) _ _ ⟨i + 1, out, rfl, by omega, by simp [t0], by simp [t1], by simp [t2], by simp [t3], by simp [t9], ?_, by rw [hsu, if_neg hno, List.append_nil]; exact o, no, ch⟩ (by omega)
      simp; rw [w64 (by omega) (by omega)]
    simp [-vfieldAddr, vfa_ptr, t0, t1, t2, t3, t9, t10, VM.look, q1, f0, f1, f2, f3, k0, k1, k2, k3, g1, g2]
    by_cases g3 : p.2.2.2.1 = c
    rotate_left
    · have hno : ¬ isFlow a b c p := fun k => g3 k.2.2
      simp [t0, t1, t2, t3, t9, t10, g1, g2, g3]
      refine ih (list.length - (i + 1)) _ _ ⟨i + 1, out, rfl, by omega, by simp [t0], by simp [t1], by simp [t2], by simp [t3], by simp [t9], ?_, by rw [hsu, if_neg hno, List.append_nil]; exact o, no, ch⟩ (by omega)
      simp; rw [w64 (by omega) (by omega)]
    simp [-vfieldAddr, vfa_ptr, t0, t1, t2, t3, t9, t10, VM.look, q1, f0, f1, f2, f3, k0, k1, k2, k3, g1, g2, g3]
    obtain ⟨r', H2, hap, o2, c2, n2⟩ := o.push (P := Try.prog) (frz := H.length) (ty := 24) (a := p.1) (by simp) rfl (by omega) no
    simp only [Fl.int_f] at hap
    simp [t0, t1, t2, t3, t9, t10, hap]
    refine ih (list.length - (i + 1)) _ _ ⟨i + 1, r', rfl, by omega, by simp [t0], by simp [t1], by simp [t2], by simp [t3], by simp, ?_, by rw [hsu, if_pos ⟨g1, g2, g3⟩]; exact o2, fun j hj => ?_, (ch).trans' c2 (fun j hj => .inr (no j hj))⟩ (by omega)
    · simp; rw [w64 (by omega) (by omega)]
    · rcases n2 j hj with h1 | h1
      · exact no j h1
      · omega
  · have : i = list.length := by omega
    subst this
    rw [List.take_length] at o
    simp [t0, t1, t2, t3, t9, t10]
    exact ⟨o, no, ch⟩
end Go.Proofs.Ytcigpclbhfkgaaa.V
/-! Prefixes; the numbers of a flow as the reference finds them. -/
set_option linter.all false
namespace Go.Proofs.Ytcigpclbhfkgaaa.V
open Go Go.VM Go.Proofs
set_option maxRecDepth 10000
variable {frz : Nat} {H : Heap}
def isPre (xs ys : List Int) : Prop := xs = ys.take xs.length
instance (xs ys : List Int) : Decidable (isPre xs ys) := inferInstanceAs (Decidable (_ = _))
theorem isPrefixOf_c (a b : Value) (xs ys : List Int) (ha : Rd Fl.int H a xs) (hb : Ow Fl.int 3 H b ys) (hl : xs.length ≤ 1073741824) :
   vcall C frz 144 [a, b] H = some (.bool (decide (isPre xs ys)), H) := by
  rw [vcall_go (fn := Try.f144) Try.func144 rfl (by kernel_rfl) rfl]
  have la := ha.len (P := Try.prog) (ty := 24) (by simp)
  have lb := hb.rd.len (P := Try.prog) (ty := 24) (by simp)
  by_cases g : xs.length ≤ ys.length
  · obtain ⟨s, hs, os, _⟩ := hb.slice (P := Try.prog) (ty := 24) (by simp) (lo := none) (hi := some (.int .i64 (xs.length : Int))) (l := 0) (u := xs.length) rfl rfl (by omega) g
    simp only [List.drop_zero, Nat.sub_zero] at os
    have eq := fun F => equalI_c (frz := F) (H := H) a s xs (ys.take xs.length) ha os.rd hl
    simp [la, lb, g, hs, eq]
    exact Iff.rfl
  · have hn : ¬ isPre xs ys := fun k => by have := congrArg List.length k; simp at this; omega
    simp [la, lb, g, hn]
theorem sIsPrefixOf_c (a b : Value) (xs ys : List Int) (ha : Rd Fl.int H a xs) (hb : Rd Fl.int H b ys) (hl : xs.length ≤ 1073741824) :
   vcall C frz 139 [a, b] H = some (.bool (decide (isPre xs ys)), H) := by
  refine wp.exact (by simp) ?_ rfl
  rw [vcall_go (fn := Try.f139) Try.func139 rfl (by kernel_rfl) rfl]
  have la := ha.len (P := Try.prog) (ty := 24) (by simp)
  have lb := hb.len (P := Try.prog) (ty := 24) (by simp)
  generalize hY : decide (isPre xs ys) = Y
  have no : ¬ isPre xs ys → Y = false := fun hh => by rw [← hY]; exact decide_eq_false hh
  simp
  refine wp_inv (fun n t H' => ∃ i : Nat, n = xs.length - i ∧ i ≤ xs.length ∧ t 0 = a ∧ t 1 = b ∧ t 5 = .int .i64 i ∧ H' = H ∧ i ≤ ys.length ∧ xs.take i = ys.take i) ?_ (n := xs.length)
    ⟨0, rfl, by omega, by simp, by simp, by simp, rfl, by omega, by simp⟩
  rintro n t H' ⟨i, rfl, hi, t0, t1, t5, rfl, hy, hk⟩ ih
  simp [t0, t1, t5, la]
  refine wp_dec ?_ ?_ <;> intro g
  · have hi' : i < xs.length := by omega
    by_cases g1 : ys.length ≤ i
    · have hn : ¬ isPre xs ys := fun k => by have := congrArg List.length k; simp at this; omega
      simp
      rw [go_draw (h := by kernel_rfl)]
      simp [t0, t1, t5, la, lb, g1, no hn]
    · have hi2 : i < ys.length := by omega
      have q1 := ha.idx (P := Try.prog) (ty := 24) (e := 3) (by simp) (i := (i : Int)) (by omega) (by omega)
      have q2 := ha.isI.load (P := Try.prog) (e := 3) (by simp) hi'
      have p1 := hb.idx (P := Try.prog) (ty := 24) (e := 3) (by simp) (i := (i : Int)) (by omega) (by omega)
      have p2 := hb.isI.load (P := Try.prog) (e := 3) (by simp) hi2
      simp only [Int.toNat_natCast, getD_at hi', getD_at hi2, Fl.int_n, Nat.mul_one] at q1 q2 p1 p2
      have g1' : ¬ (ys.length : Int) ≤ i := by omega
      simp
      rw [go_draw (h := by kernel_rfl)]
      simp [t0, t1, t5, la, lb, g1, g1', q1, q2, p1, p2]
      refine wp_dec ?_ ?_ <;> intro g2
      · simp [t0, t1, t5]
        refine ih (xs.length - (i + 1)) _ _ ⟨i + 1, rfl, by omega, by simp [t0], by simp [t1], ?_, rfl, by omega, by rw [List.take_succ_eq_append_getElem hi', List.take_succ_eq_append_getElem hi2, hk, g2]⟩ (by omega)
        simp; rw [w64 (by omega) (by omega)]
      · have hn : ¬ isPre xs ys := fun k => g2 (by
          unfold isPre at k
          have h1 := congrArg (fun l => l[i]?) k
          simp [List.getElem?_take, hi', hi2] at h1
          exact h1)
        simp [t0, t1, t5, no hn]
  · have : i = xs.length := by omega
    subst this
    rw [List.take_length] at hk
    simp [t0, t1, t5, la]
    rw [← hY]; exact (decide_eq_true (p := isPre xs ys) hk)
theorem exists_take_succ {list : List PkD} {j : Nat} (h : j < list.length) {q : PkD → Prop} (h1 : ∀ p ∈ list.take j, ¬ q p) (h2 : ¬ q list[j]) : ∀ p ∈ list.take (j + 1), ¬ q p := fun p hp => by
  rcases mem_take_succ h hp with hp | rfl
  · exact h1 p hp
  · exact h2
theorem sAmong_w (u v : Value) (all : List Int) (list : List PkD) (a b c : Int) (hA : Rd Fl.int H u all) (hI : Rd pkF H v list) (hla : all.length ≤ 1073741824) (hl : list.length ≤ 1073741824) :
   wp (vcall C frz 140 [u, v, .int .i64 a, .int .i64 b, .int .i64 c] H) (NewInts H (among all list a b c)) := by
  rw [vcall_go (fn := Try.f140) Try.func140 rfl (by kernel_rfl) rfl]
  simp
  refine wp_inv (fun n t H' => ∃ (i : Nat) (out : Value), n = all.length - i ∧ i ≤ all.length ∧ t 0 = u ∧ t 1 = v ∧ t 2 = .int .i64 a ∧ t 3 = .int .i64 b ∧ t 4 = .int .i64 c ∧ t 11 = out ∧ t 12 = .int .i64 i ∧ NewInts H (among (all.take i) list a b c) out H') ?_ (n := all.length)
    ⟨0, .slice (some ⟨H.length, 0, some 0⟩) 0 0, rfl, by omega, by simp, by simp, by simp, by simp, by simp, by simp, by simp, Ow.new0 (D := Fl.int) (xs := []) rfl rfl rfl rfl, by simp, Chg.app _⟩
  rintro n t H' ⟨i, out, rfl, hi, t0, t1, t2, t3, t4, t11, t12, o, no, ch⟩ ih
  have ra := hA.chg ch (by simp)
  simp [t0, t1, t2, t3, t4, t11, t12, ra.len (P := Try.prog) (ty := 24) (by simp)]
  refine wp_dec ?_ ?_ <;> intro g
  · have hi' : i < all.length := by omega
    have hal := among_len (all.take i) list a b c
    have htl : (all.take i).length ≤ i := by simp; omega
    have hsu : among (all.take (i + 1)) list a b c = among (all.take i) list a b c ++ (if sentP list all[i] a b c then [all[i]] else []) := by
      unfold among; rw [List.take_succ_eq_append_getElem hi', List.filter_append]; congr 1; by_cases h : sentP list all[i] a b c <;> simp [h]
    simp [t0, t1, t2, t3, t4, t11, t12]
    refine wp_inv (fun n t G => ∃ (j : Nat), n = list.length - j ∧ j ≤ list.length ∧ t 0 = u ∧ t 1 = v ∧ t 2 = .int .i64 a ∧ t 3 = .int .i64 b ∧ t 4 = .int .i64 c ∧ t 11 = out ∧ t 12 = .int .i64 i ∧ t 13 = .int .i64 j ∧ NewInts H (among (all.take i) list a b c) out G ∧ ∀ p ∈ list.take j, ¬ (p.1 = all[i] ∧ isFlow a b c p)) ?_ (n := list.length)
      ⟨0, rfl, by omega, by simp [t0], by simp [t1], by simp [t2], by simp [t3], by simp [t4], by simp [t11], by simp [t12], by simp, ⟨o, no, ch⟩, by simp⟩
    clear o ch t0 t1 t2 t3 t4 t11 t12 ra no
    rintro n s G ⟨j, rfl, hj, t0, t1, t2, t3, t4, t11, t12, t13, ⟨o, no, ch⟩, hk⟩ ih2
    have rd := hI.chg ch (by simp)
    simp [t0, t1, t2, t3, t4, t11, t12, t13, rd.len (P := Try.prog) (ty := 60) (by simp)]
    refine wp_dec ?_ ?_ <;> intro g0
    · have hj' : j < list.length := by omega
      have ra := hA.chg ch (by simp)
      have p1 := fun L => (ra.app (L := L)).isI.idx (P := Try.prog) (ty := 24) (e := 3) (by simp) (i := (i : Int)) (by omega) (by omega)
      have p2 := fun L => (ra.app (L := L)).isI.load (P := Try.prog) (e := 3) (by simp) hi'
      have q1 := rd.idx (P := Try.prog) (ty := 60) (e := 44) (by simp) (i := (j : Int)) (by omega) (by omega)
      have q2 := rd.load (P := Try.prog) (e := 44) (by simp) hj'
      simp only [Int.toNat_natCast, pkF_n, getD_at hi'] at q1 q2 p1 p2
      have hF : H.length ≤ G.length := ch.1
      have hext := exists_take_succ (q := fun p => p.1 = all[i] ∧ isFlow a b c p) hj' hk
      have hmem := List.getElem_mem hj'
      obtain ⟨p, hp⟩ : ∃ p, p = list[j] := ⟨_, rfl⟩
      rw [← hp] at q2 hext hmem
      simp [t0, t1, t2, t3, t4, t11, t12, t13, q1, q2, pkF_f, hF, VM.look]
      rw [go_draw (h := by kernel_rfl)]
      simp [t0, t1, t2, t3, t4, t11, t12, t13, p1, p2, pkF_f, hF, VM.look]
      by_cases g1 : p.1 = all[i]
      rotate_left
      · simp [t0, t1, t2, t3, t4, t11, t12, t13, g1]
        refine ih2 (list.length - (j + 1)) _ _ ⟨j + 1, rfl, by omega, by simp [t0], by simp [t1], by simp [t2], by simp [t3], by simp [t4], by simp [t11], by simp [t12], ?_, ⟨o.app, no, ch.trans (Chg.app _)⟩, hext (fun k => g1 k.1)⟩ (by omega)
        simp; rw [w64 (by omega) (by omega)]
      simp [t0, t1, t2, t3, t4, t11, t12, t13, VM.look, g1]
      by_cases g2 : p.2.1 = a
      rotate_left
      · simp [t0, t1, t2, t3, t4, t11, t12, t13, g1, g2]
        refine ih2 (list.length - (j + 1)) _ _ ⟨j + 1, rfl, by omega, by simp [t0], by simp [t1], by simp [t2], by simp [t3], by simp [t4], by simp [t11], by simp [t12], ?_, ⟨o.app, no, ch.trans (Chg.app _)⟩, hext (fun k => g2 k.2.1)⟩ (by omega)
        simp; rw [w64 (by omega) (by omega)]
      simp [t0, t1, t2, t3, t4, t11, t12, t13, VM.look, g1, g2]
      by_cases g3 : p.2.2.1 = b
      rotate_left
      · simp [t0, t1, t2, t3, t4, t11, t12, t13, g1, g2, g3]
        refine ih2 (list.length - (j + 1)) _ _ ⟨j + 1, rfl, by omega, by simp [t0], by simp [t1], by simp [t2], by simp [t3], by simp [t4], by simp [t11], by simp [t12], ?_, ⟨o.app, no, ch.trans (Chg.app _)⟩, hext (fun k => g3 k.2.2.1)⟩ (by omega)
        simp; rw [w64 (by omega) (by omega)]
      simp [t0, t1, t2, t3, t4, t11, t12, t13, VM.look, g1, g2, g3]
      by_cases g4 : p.2.2.2.1 = c
      rotate_left
      · simp [t0, t1, t2, t3, t4, t11, t12, t13, g1, g2, g3, g4]
        refine ih2 (list.length - (j + 1)) _ _ ⟨j + 1, rfl, by omega, by simp [t0], by simp [t1], by simp [t2], by simp [t3], by simp [t4], by simp [t11], by simp [t12], ?_, ⟨o.app, no, ch.trans (Chg.app _)⟩, hext (fun k => g4 k.2.2.2)⟩ (by omega)
        simp; rw [w64 (by omega) (by omega)]
      simp [t0, t1, t2, t3, t4, t11, t12, t13, VM.look, g1, g2, g3, g4]
      have hS : sentP list all[i] a b c := ⟨p, hmem, g1, g2, g3, g4⟩
      obtain ⟨r', H2, hap, o2, c2, n2⟩ := (o.app (L := [⟨[.int .i64 all[i], .int .i64 a, .int .i64 b, .int .i64 c, .int .i64 p.2.2.2.2], 0, 44⟩])).push (P := Try.prog) (frz := H.length) (ty := 24) (a := all[i]) (by simp) rfl (by omega) no
      simp only [Fl.int_f, List.append_assoc, List.cons_append, List.nil_append, List.length_append, List.length_cons, List.length_nil] at hap
      simp [t0, t1, t2, t3, t4, t11, t12, t13, p1, p2, hap]
      refine ih (all.length - (i + 1)) _ _ ⟨i + 1, r', rfl, by omega, by simp [t0], by simp [t1], by simp [t2], by simp [t3], by simp [t4], by simp, ?_, by rw [hsu, if_pos hS]; exact o2, fun j hj => ?_, (ch.trans (Chg.app _)).trans' c2 (fun j hj => .inr (no j hj))⟩ (by omega)
      · simp [t12]; rw [w64 (by omega) (by omega)]
      · rcases n2 j hj with h1 | h1
        · exact no j h1
        · simp at h1; omega
    · have : j = list.length := by omega
      subst this
      rw [List.take_length] at hk
      have hno : ¬ sentP list all[i] a b c := fun ⟨p, h1, h2⟩ => hk p h1 h2
      simp [t0, t1, t2, t3, t4, t11, t12, t13]
      refine ih (all.length - (i + 1)) _ _ ⟨i + 1, out, rfl, by omega, by simp [t0], by simp [t1], by simp [t2], by simp [t3], by simp [t4], by simp [t11], ?_, by rw [hsu, if_neg hno, List.append_nil]; exact o, no, ch⟩ (by omega)
      simp; rw [w64 (by omega) (by omega)]
  · have : i = all.length := by omega
    subst this
    rw [List.take_length] at o
    simp [t0, t1, t2, t3, t4, t11, t12, ra.len (P := Try.prog) (ty := 24) (by simp)]
    exact ⟨o, no, ch⟩
end Go.Proofs.Ytcigpclbhfkgaaa.V
/-! The order of the packets of a flow. -/
set_option linter.all false
namespace Go.Proofs.Ytcigpclbhfkgaaa.V
open Go Go.VM Go.Proofs
set_option maxRecDepth 10000
variable {frz : Nat} {H : Heap}
theorem dropWhile_len {α : Type} (p : α → Bool) : ∀ l : List α, (l.dropWhile p).length ≤ l.length
  | [] => by simp
  | a :: l => by rw [List.dropWhile_cons]; split; · have := dropWhile_len p l; simp; omega
                 · simp
theorem trim_len (l : List FlitD) : (trim l).length ≤ l.length := by unfold trim; rw [List.length_reverse]; have := dropWhile_len (fun f : FlitD => !f.2.2.2.2) l.reverse; rw [List.length_reverse] at this; exact this
theorem wholePk_len (l : List FlitD) : (wholePk l).length ≤ l.length := by
  unfold wholePk; split
  · simp
  · exact (wpk_le l l.length).2
theorem arrIds_len (arr : SSD) (node : Nat) (c : Int) : (arrIds arr node c).length ≤ (arr.getD node []).length := by
  unfold arrIds
  exact Nat.le_trans (wholePk_len _) (Nat.le_trans (trim_len _) (List.length_filter_le _ _))
def flowOk (arr : SSD) (list : List PkD) (fr to : Nat) (c : Int) : Prop := isPre (among (arrIds arr to c) list fr to c) (sentIds list fr to c)
instance (arr : SSD) (list : List PkD) (fr to : Nat) (c : Int) : Decidable (flowOk arr list fr to c) := inferInstanceAs (Decidable (isPre _ _))
def keepsOk (x : NetD) (list : List PkD) : Prop := netOk x ∧ ∀ to, to < x.2.2.2.2.2.2.1.length → ∀ c : Nat, c < 2 → ∀ fr, fr < x.2.2.2.2.2.2.1.length → flowOk x.2.2.2.2.2.2.1 list fr to c
instance (x : NetD) (list : List PkD) : Decidable (keepsOk x list) := inferInstanceAs (Decidable (_ ∧ _))
theorem keepsOrder_d {v : NetV} {x : NetD} {u : Value} {list : List PkD} (o : dNet.Ow H v x) (hI : Rd pkF H u list) (hl : list.length ≤ 1073741824) : vcall C frz 94 [dNet.val v x, u] H = some (.bool (decide (keepsOk x list)), H) := by
  have ones := dNet_one o
  have nk := fun F L => netOk_d (frz := F) (H := H ++ L) (v := v) (x := x) (Dt.app (T := dNet) o)
  simp only [dNet_val] at nk ⊢
  refine wp.exact (by simp) ?_ rfl
  rw [vcall_go (fn := Try.f94) Try.func94 rfl (by kernel_rfl) rfl]
  generalize hY : decide (keepsOk x list) = Y
  have no : ¬ keepsOk x list → Y = false := fun hh => by rw [← hY]; exact decide_eq_false hh
  simp [ones, nk]
  by_cases g0 : netOk x
  rotate_left
  · simp [g0, no (fun k => g0 k.1)]
  simp [g0, ones]
  obtain ⟨G, hG⟩ : ∃ G, G = H ++ [⟨[.int .i64 x.1.1, .int .i64 x.1.2.1, v.1, v.2.1.1, v.2.1.2, v.2.2.1.1, v.2.2.2.1, v.2.2.2.2.1, v.2.2.2.2.2.1.1, v.2.2.2.2.2.2.1.1, .int .i64 x.2.2.2.2.2.2.2], 0, 59⟩] := ⟨_, rfl⟩
  rw [← hG]
  have b0 : G[H.length]? = some ⟨[.int .i64 x.1.1, .int .i64 x.1.2.1, v.1, v.2.1.1, v.2.1.2, v.2.2.1.1, v.2.2.2.1, v.2.2.2.2.1, v.2.2.2.2.2.1.1, v.2.2.2.2.2.2.1.1, .int .i64 x.2.2.2.2.2.2.2], 0, 59⟩ := by rw [hG]; simp
  have hGl : H.length < G.length := by rw [hG]; simp
  have h9 : dSS.Ow G v.2.2.2.2.2.2.1 x.2.2.2.2.2.2.1 := by rw [hG]; exact Dt.app (T := dSS) o.2.2.2.2.2.2.1
  have hI' : Rd pkF G u list := by rw [hG]; exact hI.app
  obtain ⟨arr, harr⟩ : ∃ a, a = x.2.2.2.2.2.2.1 := ⟨_, rfl⟩
  rw [← harr] at h9
  have hkeep : (∀ to, to < arr.length → ∀ c : Nat, c < 2 → ∀ fr, fr < arr.length → flowOk arr list fr to c) → Y = true := fun k => by rw [← hY, decide_eq_true]; exact ⟨g0, by rw [← harr]; exact k⟩
  have hfail : ∀ to, to < arr.length → ∀ c : Nat, c < 2 → ∀ fr, fr < arr.length → ¬ flowOk arr list fr to c → Y = false := fun to h1 c h2 fr h3 h4 => no (fun k => h4 (by have := k.2; rw [← harr] at this; exact this to h1 c h2 fr h3))
  have hal := h9.2.1
  have l9 := h9.1.1.rd.len (P := Try.prog) (ty := 57) (by simp)
  rw [h9.1.2.1] at l9
  clear hG hY no
  simp [b0, VM.look, l9]
  refine wp_inv (fun n t G1 => ∃ i : Nat, n = arr.length - i ∧ i ≤ arr.length ∧ t 1 = u ∧ t 2 = .pointer (some ⟨H.length, 0, some 0⟩) ∧ t 15 = .int .i64 arr.length ∧ t 16 = .int .i64 i ∧ Chg G G1 [] ∧ ∀ to, to < i → ∀ c : Nat, c < 2 → ∀ fr, fr < arr.length → flowOk arr list fr to c) ?_ (n := arr.length)
    ⟨0, rfl, by omega, by simp, by simp, by simp, by simp, Chg.refl _, fun _ h => absurd h (by omega)⟩
  rintro n t G1 ⟨i, rfl, hi, t1, t2, t15, t16, ch, hk⟩ ih
  simp [t1, t2, t15, t16]
  refine wp_dec ?_ ?_ <;> intro g
  rotate_left
  · have : i = arr.length := by omega
    subst this
    simp [t1, t2, t15, t16]
    exact hkeep hk
  have hi' : i < arr.length := by omega
  simp [t1, t2, t15, t16]
  refine wp_inv (fun n t G1 => ∃ k : Nat, n = 2 - k ∧ k ≤ 2 ∧ t 1 = u ∧ t 2 = .pointer (some ⟨H.length, 0, some 0⟩) ∧ t 5 = .int .i64 i ∧ t 15 = .int .i64 arr.length ∧ t 16 = .int .i64 i ∧ t 19 = .int .i64 k ∧ Chg G G1 [] ∧ ∀ c : Nat, c < k → ∀ fr, fr < arr.length → flowOk arr list fr i c) ?_ (n := 2)
    ⟨0, rfl, by omega, by simp [t1], by simp [t2], by simp, by simp [t15], by simp [t16], by simp, ch, fun _ h => absurd h (by omega)⟩
  clear ch t1 t2 t15 t16
  rintro n t G1 ⟨k, rfl, hk2, t1, t2, t5, t15, t16, t19, ch, hc⟩ ih2
  simp [t1, t2, t5, t15, t16, t19]
  refine wp_dec ?_ ?_ <;> intro g2
  rotate_left
  · have : k = 2 := by omega
    subst this
    simp [t1, t2, t5, t15, t16, t19]
    refine ih (arr.length - (i + 1)) _ _ ⟨i + 1, rfl, by omega, by simp [t1], by simp [t2], by simp [t15], ?_, ch, fun to h => ?_⟩ (by omega)
    · simp; rw [w64 (by omega) (by omega)]
    · rcases Nat.lt_succ_iff_lt_or_eq.1 h with h | rfl
      · exact hk to h
      · exact hc
  have b1 := box_chg b0 ch (by simp)
  have h91 := Dt.chg (T := dSS) h9 ch (by simp)
  have hm := h91.2.2 _ (List.getElem_mem hi')
  have hg : arr.getD i [] = arr[i] := by simp [List.getD_eq_getElem?_getD, hi']
  simp [t1, t2, t5, t15, t16, t19]
  refine wp_thn (arrived_w b1 h91 hi') ?_
  rintro _ G2 ⟨s, ok, rfl, os, ns, c2⟩
  have b2 := box_chg b1 c2 (by simp)
  have h92 := Dt.chg (T := dSS) h91 c2 (by simp)
  have l92 := h92.1.1.rd.len (P := Try.prog) (ty := 57) (by simp)
  rw [h92.1.2.1] at l92
  have hal2 := arrIds_len arr i k
  rw [hg] at hal2
  have hb2 : (arrIds arr i k).length ≤ 67108864 := by omega
  simp [t1, t2, t5, t15, t16, t19, b2, VM.look, l92]
  have ch2 : Chg G G2 [] := ch.trans c2
  refine wp_inv (fun n t G3 => ∃ j : Nat, n = arr.length - j ∧ j ≤ arr.length ∧ t 1 = u ∧ t 2 = .pointer (some ⟨H.length, 0, some 0⟩) ∧ t 5 = .int .i64 i ∧ t 6 = .int .i64 k ∧ t 7 = s ∧ t 15 = .int .i64 arr.length ∧ t 16 = .int .i64 i ∧ t 19 = .int .i64 k ∧ t 30 = .int .i64 arr.length ∧ t 31 = .int .i64 j ∧ Chg G2 G3 [] ∧ ∀ fr, fr < j → flowOk arr list fr i k) ?_ (n := arr.length)
    ⟨0, rfl, by omega, by simp [t1], by simp [t2], by simp [t5], by simp, by simp, by simp [t15], by simp [t16], by simp [t19], by simp, by simp, Chg.refl _, fun _ h => absurd h (by omega)⟩
  clear t1 t2 t5 t15 t16 t19
  rintro n t G3 ⟨j, rfl, hj, t1, t2, t5, t6, t7, t15, t16, t19, t30, t31, c3, hf⟩ ih3
  simp [t1, t2, t5, t6, t7, t15, t16, t19, t30, t31]
  refine wp_dec ?_ ?_ <;> intro g3
  rotate_left
  · have : j = arr.length := by omega
    subst this
    simp [t1, t2, t5, t6, t7, t15, t16, t19, t30, t31]
    refine ih2 (2 - (k + 1)) _ _ ⟨k + 1, rfl, by omega, by simp [t1], by simp [t2], by simp [t5], by simp [t15], by simp [t16], ?_, ch2.trans c3, fun c h => ?_⟩ (by omega)
    · simp; rw [w64 (by omega) (by omega)]
    · rcases Nat.lt_succ_iff_lt_or_eq.1 h with h | rfl
      · exact hc c h
      · exact hf
  have hj' : j < arr.length := by omega
  have os3 := os.chg c3 (by simp)
  have hI3 : Rd pkF G3 u list := hI'.chg (ch2.trans c3) (by simp)
  simp [t1, t2, t5, t6, t7, t15, t16, t19, t30, t31]
  refine wp_thn (sentAmong_w s u _ list j i k os3.rd hI3 (by omega) hl) ?_
  rintro r4 G4 ⟨o4, n4, c4⟩
  have hI4 := hI3.chg c4 (by simp)
  simp [t1, t2, t5, t6, t7, t15, t16, t19, t30, t31]
  refine wp_thn (sentFrom_w u list j i k hI4 hl) ?_
  rintro r5 G5 ⟨o5, n5, c5⟩
  have o45 := o4.chg c5 (by simp)
  have hal3 := among_len (arrIds arr i k) list j i k
  have ip := fun F => isPrefixOf_c (frz := F) (H := G5) r4 r5 _ _ o45.rd o5 (by omega)
  simp [t1, t2, t5, t6, t7, t15, t16, t19, t30, t31, ip]
  by_cases g5 : flowOk arr list j i k
  · have g5' : isPre (among (arrIds arr i k) list j i k) (sentIds list j i k) := g5
    simp [t1, t2, t5, t6, t7, t15, t16, t19, t30, t31, g5']
    refine ih3 (arr.length - (j + 1)) _ _ ⟨j + 1, rfl, by omega, by simp [t1], by simp [t2], by simp [t5], by simp [t6], by simp [t7], by simp [t15], by simp [t16], by simp [t19], by simp [t30], ?_, (c3.trans c4).trans c5, fun fr h => ?_⟩ (by omega)
    · simp; rw [w64 (by omega) (by omega)]
    · rcases Nat.lt_succ_iff_lt_or_eq.1 h with h | rfl
      · exact hf fr h
      · exact g5
  · have g5' : ¬ isPre (among (arrIds arr i k) list j i k) (sentIds list j i k) := g5
    simp [t1, t2, t5, t6, t7, t15, t16, t19, t30, t31, g5']
    exact hfail i hi' k (by omega) j hj' g5
theorem sKeepsOrder_d {v : NetV} {x : NetD} {u : Value} {list : List PkD} (o : dNet.Ow H v x) (hI : Rd pkF H u list) (hl : list.length ≤ 1073741824) : vcall C frz 92 [dNet.val v x, u] H = some (.bool (decide (keepsOk x list)), H) := by
  have ones := dNet_one o
  have nk := fun F L => sNetOk_d (frz := F) (H := H ++ L) (v := v) (x := x) (Dt.app (T := dNet) o)
  simp only [dNet_val] at nk ⊢
  refine wp.exact (by simp) ?_ rfl
  rw [vcall_go (fn := Try.f92) Try.func92 rfl (by kernel_rfl) rfl]
  generalize hY : decide (keepsOk x list) = Y
  have no : ¬ keepsOk x list → Y = false := fun hh => by rw [← hY]; exact decide_eq_false hh
  simp [ones, nk]
  by_cases g0 : netOk x
  rotate_left
  · simp [g0, no (fun k => g0 k.1)]
  have hcnt := g0.2.1.2.2.2.2
  have hcr := cnt_range x.1.1 x.1.2.1
  simp [g0, ones, sNodeCount_c]
  obtain ⟨G, hG⟩ : ∃ G, G = H ++ [⟨[.int .i64 x.1.1, .int .i64 x.1.2.1, v.1, v.2.1.1, v.2.1.2, v.2.2.1.1, v.2.2.2.1, v.2.2.2.2.1, v.2.2.2.2.2.1.1, v.2.2.2.2.2.2.1.1, .int .i64 x.2.2.2.2.2.2.2], 0, 59⟩] := ⟨_, rfl⟩
  rw [← hG]
  have b0 : G[H.length]? = some ⟨[.int .i64 x.1.1, .int .i64 x.1.2.1, v.1, v.2.1.1, v.2.1.2, v.2.2.1.1, v.2.2.2.1, v.2.2.2.2.1, v.2.2.2.2.2.1.1, v.2.2.2.2.2.2.1.1, .int .i64 x.2.2.2.2.2.2.2], 0, 59⟩ := by rw [hG]; simp
  have oG : dNet.Ow G v x := by rw [hG]; exact Dt.app (T := dNet) o
  have hI' : Rd pkF G u list := by rw [hG]; exact hI.app
  have at22 := fun F G' c i (hc : Chg G G' []) (hi : i < x.2.2.2.2.2.2.1.length) => sArrived_w (frz := F) (H := G') (k := c) (Dt.chg (T := dNet) oG hc (by simp)) hi
  have hb9 := oG.2.2.2.2.2.2.1.2.2
  simp only [dNet_val] at at22
  obtain ⟨arr, harr⟩ : ∃ a, a = x.2.2.2.2.2.2.1 := ⟨_, rfl⟩
  rw [← harr] at at22 hcnt hb9
  rw [← hcnt]
  rw [← hcnt] at hcr
  have hkeep : (∀ to, to < arr.length → ∀ c : Nat, c < 2 → ∀ fr, fr < arr.length → flowOk arr list fr to c) → Y = true := fun k => by rw [← hY, decide_eq_true]; exact ⟨g0, by rw [← harr]; exact k⟩
  have hfail : ∀ to, to < arr.length → ∀ c : Nat, c < 2 → ∀ fr, fr < arr.length → ¬ flowOk arr list fr to c → Y = false := fun to h1 c h2 fr h3 h4 => no (fun k => h4 (by have := k.2; rw [← harr] at this; exact this to h1 c h2 fr h3))
  clear hG hY no
  refine wp_inv (fun n t G1 => ∃ i : Nat, n = 2 * arr.length - i ∧ i ≤ 2 * arr.length ∧ t 1 = u ∧ t 2 = .pointer (some ⟨H.length, 0, some 0⟩) ∧ t 5 = .int .i64 arr.length ∧ t 6 = .int .i64 i ∧ Chg G G1 [] ∧ ∀ m, m < i → ∀ fr, fr < arr.length → flowOk arr list fr (m / 2) ((m % 2 : Nat) : Int)) ?_ (n := 2 * arr.length)
    ⟨0, rfl, by omega, by simp, by simp, by simp, by simp, Chg.refl _, fun _ h => absurd h (by omega)⟩
  rintro n t G1 ⟨i, rfl, hi, t1, t2, t5, t6, ch, hk⟩ ih
  have e0 : ∀ [Inhabited Unit], IntKind.i64.wrap (2 * (arr.length : Int)) = 2 * (arr.length : Int) := by intro _; exact w64 (by omega) (by omega)
  simp [t1, t2, t5, t6, e0]
  refine wp_dec ?_ ?_ <;> intro g
  rotate_left
  · simp [t1, t2, t5, t6]
    refine hkeep fun to h1 c h2 fr h3 => ?_
    have := hk (to * 2 + c) (by omega) fr h3
    rw [show (to * 2 + c) / 2 = to by omega, show (to * 2 + c) % 2 = c by omega] at this
    exact this
  obtain ⟨q, hq⟩ : ∃ q, q = i / 2 := ⟨_, rfl⟩
  obtain ⟨r, hr⟩ : ∃ r, r = i % 2 := ⟨_, rfl⟩
  have e1 : ∀ [Inhabited Unit], IntKind.i64.wrap ((i : Int) / 2) = (q : Int) := by intro _; rw [w64 (by omega) (by omega)]; omega
  have e2 : (i : Int).tmod 2 = (r : Int) := by rw [tmod2, hr]; omega
  have hi' : q < arr.length := by omega
  have hr2 : r < 2 := by omega
  have b1 := box_chg b0 ch (by simp)
  have hm := hb9 _ (List.getElem_mem hi')
  have hg : arr.getD q [] = arr[q] := by simp [List.getD_eq_getElem?_getD, hi']
  simp [t1, t2, t5, t6, e1, e2, VM.look, b1, ones]
  refine wp_thn (at22 _ _ _ _ ch hi') ?_
  rintro _ G2 ⟨s, ok, rfl, os, ns, c2⟩
  have b2 := box_chg b1 c2 (by simp)
  have hal2 := arrIds_len arr q r
  rw [hg] at hal2
  have hb2 : (arrIds arr q r).length ≤ 67108864 := by omega
  have ch2 : Chg G G2 [] := ch.trans c2
  have emp : arrIds arr q r = [] → ∀ fr, flowOk arr list fr q r := fun e fr => by unfold flowOk; rw [e]; rfl
  simp [t1, t2, t5, t6]
  refine wp_inv (fun n t G3 => ∃ j : Nat, n = arr.length - j ∧ j ≤ arr.length ∧ t 1 = u ∧ t 2 = .pointer (some ⟨H.length, 0, some 0⟩) ∧ t 5 = .int .i64 arr.length ∧ t 6 = .int .i64 i ∧ t 7 = s ∧ t 9 = .int .i64 j ∧ Chg G2 G3 [] ∧ ∀ fr, fr < j → flowOk arr list fr q r) ?_ (n := arr.length)
    ⟨0, rfl, by omega, by simp [t1], by simp [t2], by simp [t5], by simp [t6], by simp, by simp, Chg.refl _, fun _ h => absurd h (by omega)⟩
  clear t1 t2 t5 t6
  rintro n t G3 ⟨j, rfl, hj, t1, t2, t5, t6, t7, t9, c3, hf⟩ ih3
  have os3 := os.chg c3 (by simp)
  have ls := os3.rd.len (P := Try.prog) (ty := 24) (by simp)
  have leave : ∀ t' : Env, t' 1 = u → t' 2 = .pointer (some ⟨H.length, 0, some 0⟩) → t' 5 = .int .i64 arr.length → t' 6 = .int .i64 ((i + 1 : Nat) : Int) → (∀ fr, fr < arr.length → flowOk arr list fr q r) → (∃ i' : Nat, 2 * arr.length - (i + 1) = 2 * arr.length - i' ∧ i' ≤ 2 * arr.length ∧ t' 1 = u ∧ t' 2 = .pointer (some ⟨H.length, 0, some 0⟩) ∧ t' 5 = .int .i64 arr.length ∧ t' 6 = .int .i64 i' ∧ Chg G G3 [] ∧ ∀ m, m < i' → ∀ fr, fr < arr.length → flowOk arr list fr (m / 2) ((m % 2 : Nat) : Int)) := by
    intro t' h1 h2 h5 h6 hh
    refine ⟨i + 1, rfl, by omega, h1, h2, h5, h6, ch2.trans c3, fun m hm fr hfr => ?_⟩
    rcases Nat.lt_succ_iff_lt_or_eq.1 hm with hm | rfl
    · exact hk m hm fr hfr
    · rw [← hq, ← hr]; exact hh fr hfr
  by_cases g3 : j < arr.length
  rotate_left
  · have : j = arr.length := by omega
    subst this
    simp [t1, t2, t5, t6, t7, t9]
    refine ih _ _ _ (leave _ (by simp [t1]) (by simp [t2]) (by simp [t5]) ?_ hf) (by omega)
    simp; rw [w64 (by omega) (by omega)]
  by_cases g4 : arrIds arr q r = []
  · simp [t1, t2, t5, t6, t7, t9, g3, ls, g4]
    refine ih _ _ _ (leave _ (by simp [t1]) (by simp [t2]) (by simp [t5]) ?_ (fun fr _ => emp g4 fr)) (by omega)
    simp; rw [w64 (by omega) (by omega)]
  have g4' := List.length_pos_iff.2 g4
  have hI3 : Rd pkF G3 u list := hI'.chg (ch2.trans c3) (by simp)
  simp [t1, t2, t5, t6, t7, t9, g3, ls, g4', e1, e2]
  refine wp_thn (sAmong_w s u _ list j q r os3.rd hI3 (by omega) hl) ?_
  rintro r4 G4 ⟨o4, n4, c4⟩
  have hI4 := hI3.chg c4 (by simp)
  simp [t1, t2, t5, t6, t7, t9, e1, e2]
  refine wp_thn (sSentFrom_w u list j q r hI4 hl) ?_
  rintro r5 G5 ⟨o5, n5, c5⟩
  have o45 := o4.chg c5 (by simp)
  have hal3 := among_len (arrIds arr q r) list j q r
  have ip := fun F => sIsPrefixOf_c (frz := F) (H := G5) r4 r5 _ _ o45.rd o5.rd (by omega)
  simp [t1, t2, t5, t6, t7, t9, ip]
  by_cases g5 : flowOk arr list j q r
  · have g5' : isPre (among (arrIds arr q r) list j q r) (sentIds list j q r) := g5
    simp [t1, t2, t5, t6, t7, t9, g5']
    refine ih3 (arr.length - (j + 1)) _ _ ⟨j + 1, rfl, by omega, by simp [t1], by simp [t2], by simp [t5], by simp [t6], by simp [t7], ?_, (c3.trans c4).trans c5, fun fr h => ?_⟩ (by omega)
    · simp; rw [w64 (by omega) (by omega)]
    · rcases Nat.lt_succ_iff_lt_or_eq.1 h with h | rfl
      · exact hf fr h
      · exact g5
  · have g5' : ¬ isPre (among (arrIds arr q r) list j q r) (sentIds list j q r) := g5
    simp [t1, t2, t5, t6, t7, t9, g5']
    exact hfail q hi' r hr2 j (by omega) g5
end Go.Proofs.Ytcigpclbhfkgaaa.V
/-! Packets that have not arrived. -/
set_option linter.all false
namespace Go.Proofs.Ytcigpclbhfkgaaa.V
open Go Go.VM Go.Proofs
set_option maxRecDepth 10000
variable {frz : Nat} {H : Heap}
/-- the first place where a test holds, or -1 -/
def placeK (p : PkD → Bool) (b : List PkD) : Int := if b.any p then b.findIdx p else -1
theorem placeK_range (p : PkD → Bool) (b : List PkD) : -1 ≤ placeK p b ∧ placeK p b < b.length ∧ (0 ≤ placeK p b ↔ b.any p = true) := by
  unfold placeK
  split
  · rename_i h
    obtain ⟨x, hx, hp⟩ := List.any_eq_true.1 h
    have := List.findIdx_lt_length_of_exists ⟨x, hx, hp⟩
    refine ⟨by omega, by omega, ?_⟩
    simp only [h, iff_true]; omega
  · rename_i h
    refine ⟨by omega, by omega, ?_⟩
    simp only [h]; simp
theorem placeK_at {p : PkD → Bool} {b : List PkD} {i : Nat} (h : i < b.length) (h1 : ∀ x ∈ b.take i, p x = false) (h2 : p b[i] = true) : placeK p b = i := by
  unfold placeK
  rw [if_pos (List.any_eq_true.2 ⟨b[i], List.getElem_mem h, h2⟩)]
  congr 1
  rw [List.findIdx_eq h]
  refine ⟨h2, fun j hj => ?_⟩
  refine Bool.eq_false_iff.1 ?_ |> fun hh => by simpa using hh
  exact h1 _ (by rw [List.mem_take_iff_getElem]; exact ⟨j, by omega, rfl⟩)
theorem indexFuncK_c (v f : Value) (p : PkD → Bool) (b : List PkD) (hI : Rd pkF H v b) (hl : b.length ≤ 1073741824)
    (hf : ∀ x ∈ b, vclos (vcall C H.length) f [pkV x] H = some (.bool (p x), H)) :
   vcall C frz 180 [v, f] H = some (.int .i64 (placeK p b), H) := by
  refine wp.exact (by simp) ?_ rfl
  rw [vcall_go (fn := Try.f180) Try.func180 rfl (by kernel_rfl) rfl]
  have ll := hI.len (P := Try.prog) (ty := 60) (by simp)
  simp [ll]
  refine wp_inv (fun n t H' => ∃ i : Nat, n = b.length - i ∧ i ≤ b.length ∧ t 0 = v ∧ t 1 = f ∧ t 7 = .int .i64 b.length ∧ t 8 = .int .i64 i ∧ H' = H ∧ ∀ x ∈ b.take i, p x = false) ?_ (n := b.length) ⟨0, by simp⟩
  rintro n t H' ⟨i, rfl, hi, h0, h1, h3, h4, rfl, hj⟩ ih
  simp [h0, h1, h3, h4, ll]
  refine wp_dec ?_ ?_ <;> intro h5
  · have hi' : i < b.length := by omega
    have q1 := hI.idx (P := Try.prog) (ty := 60) (e := 44) (by simp) (i := (i : Int)) (by omega) (by omega)
    have q2 := hI.load (P := Try.prog) (e := 44) (by simp) hi'
    have hf' := hf _ (List.getElem_mem hi')
    simp only [Int.toNat_natCast, pkF_n, pkF_f] at q1 q2
    unfold pkV at hf'
    simp [h0, h1, h3, h4, q1, q2, hf']
    cases h6 : p b[i]
    · simp [h0, h1, h3, h4, h6]
      refine ih (b.length - (i + 1)) _ _ ⟨i + 1, rfl, by omega, by simp [h0], by simp [h1], by simp [h3], ?_, rfl, fun x hx => ?_⟩ (by omega)
      · simp; rw [w64 (by omega) (by omega)]
      · rcases mem_take_succ hi' hx with hx | rfl
        · exact hj x hx
        · exact h6
    · simp [h0, h1, h3, h4, h6]
      rw [placeK_at hi' hj h6]
  · have : i = b.length := by omega
    subst this
    simp [h0, h1, h3, h4]
    rw [List.take_length] at hj
    rw [placeK, if_neg]
    rw [List.any_eq_true]
    rintro ⟨x, hx, hp⟩
    rw [hj x hx] at hp; cases hp
theorem containsFuncK_c (v f : Value) (p : PkD → Bool) (b : List PkD) (hI : Rd pkF H v b) (hl : b.length ≤ 1073741824)
    (hf : ∀ x ∈ b, vclos (vcall C H.length) f [pkV x] H = some (.bool (p x), H)) :
   vcall C frz 148 [v, f] H = some (.bool (b.any p), H) := by
  rw [vcall_go (fn := Try.f148) Try.func148 rfl (by kernel_rfl) rfl]
  simp [indexFuncK_c _ _ _ _ hI hl hf, (placeK_range p b).2.2, -List.any_eq_true]
def missOk (x : NetD) (list : List PkD) : Prop := netOk x ∧ ∀ p ∈ list, packetOk x.1.1 x.1.2.1 p
instance (x : NetD) (list : List PkD) : Decidable (missOk x list) := inferInstanceAs (Decidable (_ ∧ _))
/-- the packet has not arrived -/
def lackP (arr : SSD) (p : PkD) : Bool := !decide (p.1 ∈ arrIds arr p.2.2.1.toNat p.2.2.2.1)
def lacks (x : NetD) (list : List PkD) : List Int := (list.filter (lackP x.2.2.2.2.2.2.1)).map (·.1)
theorem lacks_succ {arr : SSD} {list : List PkD} {i : Nat} (h : i < list.length) : ((list.take (i + 1)).filter (lackP arr)).map (·.1) = ((list.take i).filter (lackP arr)).map (·.1) ++ (if lackP arr list[i] = true then [list[i].1] else []) := by
  rw [List.take_succ_eq_append_getElem h, List.filter_append, List.map_append]; congr 1; cases h : lackP arr list[i] <;> simp [h]
def missing (x : NetD) (list : List PkD) : List Int := if missOk x list then lacks x list else []
theorem lacks_len (x : NetD) (list : List PkD) : (lacks x list).length ≤ list.length := by unfold lacks; rw [List.length_map]; exact List.length_filter_le _ _
theorem missingTest_c (x : NetD) (v : NetV) (p : PkD) (id : Nat) (hr : H[id]? = some ⟨[.int .i64 x.1.1, .int .i64 x.1.2.1, v.1, v.2.1.1, v.2.1.2, v.2.2.1.1, v.2.2.2.1, v.2.2.2.2.1, v.2.2.2.2.2.1.1, v.2.2.2.2.2.2.1.1, .int .i64 x.2.2.2.2.2.2.2], 0, 59⟩) :
   vcall C frz 149 [pkV p, .pointer (some ⟨id, 0, some 0⟩)] H = some (.bool (!decide (packetOk x.1.1 x.1.2.1 p)), H) := by
  have hlt := box_lt hr
  have pk := fun F L => packetOk_c (frz := F) (H := H ++ L) x.1.1 x.1.2.1 p
  have hr' := fun r => get_app' hr [r]
  refine wp.exact (by simp) ?_ rfl
  rw [vcall_go (fn := Try.f149) Try.func149 rfl (by kernel_rfl) rfl]
  unfold pkV at *
  simp [VM.look, hr', pk]
theorem missing_d {v : NetV} {x : NetD} {u : Value} {list : List PkD} (o : dNet.Ow H v x) (hI : Rd pkF H u list) (hl : list.length ≤ 1073741824) :
   wp (vcall C frz 96 [dNet.val v x, u] H) (NewInts H (missing x list)) := by
  have ones := dNet_one o
  have nk := fun F L => netOk_d (frz := F) (H := H ++ L) (v := v) (x := x) (Dt.app (T := dNet) o)
  simp only [dNet_val] at nk ⊢
  rw [vcall_go (fn := Try.f96) Try.func96 rfl (by kernel_rfl) rfl]
  simp [ones, nk]
  have bad : ¬ missOk x list → missing x list = [] := fun k => if_neg k
  by_cases g0 : netOk x
  rotate_left
  · simp [g0]
    rw [bad (fun k => g0 k.1)]
    exact ⟨Ow.new (D := Fl.int) (xs := []) (k := 1) rfl rfl rfl rfl, by simp, Chg.app _⟩
  obtain ⟨G, hG⟩ : ∃ G, G = H ++ [⟨[.int .i64 x.1.1, .int .i64 x.1.2.1, v.1, v.2.1.1, v.2.1.2, v.2.2.1.1, v.2.2.2.1, v.2.2.2.2.1, v.2.2.2.2.2.1.1, v.2.2.2.2.2.2.1.1, .int .i64 x.2.2.2.2.2.2.2], 0, 59⟩, ⟨[], 0, 3⟩] := ⟨_, rfl⟩
  rw [← hG]
  have b0 : G[H.length]? = some ⟨[.int .i64 x.1.1, .int .i64 x.1.2.1, v.1, v.2.1.1, v.2.1.2, v.2.2.1.1, v.2.2.2.1, v.2.2.2.2.1, v.2.2.2.2.2.1.1, v.2.2.2.2.2.2.1.1, .int .i64 x.2.2.2.2.2.2.2], 0, 59⟩ := by rw [hG]; simp
  have cG : Chg H G [] := by rw [hG]; exact Chg.app _
  have hI' : Rd pkF G u list := by rw [hG]; exact hI.app
  have o0 : Ow Fl.int 3 G (.slice (some ⟨H.length + 1, 0, some 0⟩) 0 0) [] := by rw [hG]; exact Ow.new (D := Fl.int) (xs := []) (k := 1) rfl rfl rfl rfl
  have cf := fun F => containsFuncK_c (frz := F) (H := G) u (.func (.func 149) #[] #[.pointer (some ⟨H.length, 0, some 0⟩)]) (fun p => !decide (packetOk x.1.1 x.1.2.1 p)) list hI' hl (fun p hp => by have := missingTest_c (frz := G.length) x v p H.length b0; simpa using this)
  simp [g0, cf]
  by_cases g1 : ∀ p ∈ list, packetOk x.1.1 x.1.2.1 p
  rotate_left
  · have g1' : (list.any fun p => !decide (packetOk x.1.1 x.1.2.1 p)) = true := by
      rw [List.any_eq_true]
      refine Classical.byContradiction fun hh => g1 fun p hp => Classical.byContradiction fun hq => hh ⟨p, hp, by simp [hq]⟩
    simp [g1', -List.any_eq_true]
    rw [bad (fun k => g1 k.2)]
    exact ⟨o0, by simp, cG⟩
  have g1' : (list.any fun p => !decide (packetOk x.1.1 x.1.2.1 p)) = false := by
    rw [Bool.eq_false_iff]; intro hh
    obtain ⟨p, hp, hq⟩ := List.any_eq_true.1 hh
    simp [g1 p hp] at hq
  simp [g1', -List.any_eq_true, hI'.len (P := Try.prog) (ty := 60) (by simp)]
  rw [show missing x list = lacks x list from if_pos ⟨g0, g1⟩]
  have hN := g0.2.1.2.2.2.2
  obtain ⟨arr, harr⟩ : ∃ a, a = x.2.2.2.2.2.2.1 := ⟨_, rfl⟩
  unfold lacks
  rw [← harr] at hN ⊢
  have h9 := o.2.2.2.2.2.2.1
  rw [← harr] at h9
  have hb9 := h9.2.2
  have hGl : H.length < G.length := by rw [hG]; simp
  clear hG cf bad g1' nk
  refine wp_inv (fun n t H' => ∃ (i : Nat) (out : Value), n = list.length - i ∧ i ≤ list.length ∧ t 2 = .pointer (some ⟨H.length, 0, some 0⟩) ∧ t 5 = out ∧ t 20 = u ∧ t 21 = .int .i64 list.length ∧ t 22 = .int .i64 i ∧ Chg H H' [] ∧ H'[H.length]? = some ⟨[.int .i64 x.1.1, .int .i64 x.1.2.1, v.1, v.2.1.1, v.2.1.2, v.2.2.1.1, v.2.2.2.1, v.2.2.2.2.1, v.2.2.2.2.2.1.1, v.2.2.2.2.2.2.1.1, .int .i64 x.2.2.2.2.2.2.2], 0, 59⟩ ∧ Ow Fl.int 3 H' out (((list.take i).filter (lackP arr)).map (·.1)) ∧ (∀ j ∈ ids out, H.length < j)) ?_ (n := list.length)
    ⟨0, .slice (some ⟨H.length + 1, 0, some 0⟩) 0 0, rfl, by omega, by simp, by simp, by simp, by simp, by simp, cG, b0, o0, by simp⟩
  rintro n t H' ⟨i, out, rfl, hi, t2, t5, t20, t21, t22, ch, bb, oo, no⟩ ih
  simp [t2, t5, t20, t21, t22]
  refine wp_dec ?_ ?_ <;> intro g
  rotate_left
  · have : i = list.length := by omega
    subst this
    rw [List.take_length] at oo
    simp [t2, t5, t20, t21, t22]
    exact ⟨oo, fun j hj => by have := no j hj; omega, ch⟩
  have hi' : i < list.length := by omega
  have hp0 := g1 _ (List.getElem_mem hi')
  have hto := hp0.2.2.1
  unfold isN at hto
  have rd := hI.chg ch (by simp)
  have hF : H.length ≤ H'.length := ch.1
  have q1 := rd.idx (P := Try.prog) (ty := 60) (e := 44) (by simp) (i := (i : Int)) (by omega) (by omega)
  have q2 := rd.load (P := Try.prog) (e := 44) (by simp) hi'
  simp only [Int.toNat_natCast, pkF_n] at q1 q2
  have hsu := lacks_succ (arr := arr) hi'
  have hln : (((list.take i).filter (lackP arr)).map (·.1)).length ≤ i := by rw [List.length_map]; have := List.length_filter_le (lackP arr) (list.take i); simp at this; omega
  obtain ⟨p, hp⟩ : ∃ p, p = list[i] := ⟨_, rfl⟩
  rw [← hp] at q2 hsu hto
  obtain ⟨m, hm⟩ : ∃ m : Nat, p.2.2.1 = m := ⟨p.2.2.1.toNat, by omega⟩
  have hml : m < arr.length := by omega
  have hlk : lackP arr p = !decide (p.1 ∈ arrIds arr m p.2.2.2.1) := by unfold lackP; rw [hm, Int.toNat_natCast]
  have bb2 := fun r => get_app' bb [r]
  have h92 := fun L => Dt.app (T := dSS) (L := L) (Dt.chg (T := dSS) h9 ch (by simp))
  have hm9 := hb9 _ (List.getElem_mem hml)
  have hg : arr.getD m [] = arr[m] := by simp [List.getD_eq_getElem?_getD, hml]
  have hal := arrIds_len arr m p.2.2.2.1
  rw [hg] at hal
  simp [t2, t5, t20, t21, t22, q1, q2, pkF_f, hF, VM.look, hm]
  refine wp_thn (arrived_w (bb2 _) (h92 _) hml) ?_
  rintro _ G2 ⟨s, ok, rfl, os, ns, c2⟩
  have b3 := box_chg (bb2 _) c2 (by simp)
  have bp : G2[H'.length]? = some ⟨[.int .i64 p.1, .int .i64 p.2.1, .int .i64 m, .int .i64 p.2.2.2.1, .int .i64 p.2.2.2.2], 0, 44⟩ := box_chg (by simp) c2 (by simp)
  have o2 : Ow Fl.int 3 G2 out (((list.take i).filter (lackP arr)).map (·.1)) := oo.app.chg c2 (by simp)
  have cc := fun F => contains_c (frz := F) (H := G2) s _ p.1 os.rd.isI (by omega)
  have ch2 : Chg H G2 [] := (ch.trans (Chg.app _)).trans c2
  simp [t2, t5, t20, t21, t22, VM.look, bp, cc]
  by_cases g4 : p.1 ∈ arrIds arr m p.2.2.2.1
  · have hlp : ¬ lackP arr p = true := by rw [hlk]; simp [g4]
    simp [t2, t5, t20, t21, t22, g4]
    refine ih (list.length - (i + 1)) _ _ ⟨i + 1, out, rfl, by omega, by simp [t2], by simp [t5], by simp [t20], by simp [t21], ?_, ch2, b3, by rw [hsu, if_neg hlp, List.append_nil]; exact o2, no⟩ (by omega)
    simp; rw [w64 (by omega) (by omega)]
  · have hlp : lackP arr p = true := by rw [hlk]; simp [g4]
    obtain ⟨r', H3, hap, o3, c3, n3⟩ := o2.push (P := Try.prog) (frz := H.length) (ty := 24) (a := p.1) (by simp) rfl (by omega) (fun j hj => by have := no j hj; omega)
    simp only [Fl.int_f] at hap
    simp [t2, t5, t20, t21, t22, g4, VM.look, bp, hap]
    refine ih (list.length - (i + 1)) _ _ ⟨i + 1, r', rfl, by omega, by simp [t2], by simp, by simp [t20], by simp [t21], ?_, ch2.trans' c3 (fun j hj => .inr (by have := no j hj; omega)), box_chg b3 c3 (fun hj => by have := no _ hj; omega), by rw [hsu, if_pos hlp]; exact o3, fun j hj => ?_⟩ (by omega)
    · simp [t22]; rw [w64 (by omega) (by omega)]
    · rcases n3 j hj with h1 | h1
      · exact no j h1
      · have := ch2.1; have := box_lt bp; omega
theorem sMissing_d {v : NetV} {x : NetD} {u : Value} {list : List PkD} (o : dNet.Ow H v x) (hI : Rd pkF H u list) (hl : list.length ≤ 1073741824) :
   wp (vcall C frz 95 [dNet.val v x, u] H) (NewInts H (missing x list)) := by
  have ones := dNet_one o
  have nk := fun F L => sNetOk_d (frz := F) (H := H ++ L) (v := v) (x := x) (Dt.app (T := dNet) o)
  have at22 := fun F G' c i (hc : Chg H G' []) (hi : i < x.2.2.2.2.2.2.1.length) => sArrived_w (frz := F) (H := G') (k := c) (Dt.chg (T := dNet) o hc (by simp)) hi
  simp only [dNet_val] at nk at22 ⊢
  rw [vcall_go (fn := Try.f95) Try.func95 rfl (by kernel_rfl) rfl]
  simp [ones, nk]
  have bad : ¬ missOk x list → missing x list = [] := fun k => if_neg k
  have b0 : (H ++ [⟨[.int .i64 x.1.1, .int .i64 x.1.2.1, v.1, v.2.1.1, v.2.1.2, v.2.2.1.1, v.2.2.2.1, v.2.2.2.2.1, v.2.2.2.2.2.1.1, v.2.2.2.2.2.2.1.1, .int .i64 x.2.2.2.2.2.2.2], 0, 59⟩, ⟨[], 0, 3⟩])[H.length]? = some ⟨[.int .i64 x.1.1, .int .i64 x.1.2.1, v.1, v.2.1.1, v.2.1.2, v.2.2.1.1, v.2.2.2.1, v.2.2.2.2.1, v.2.2.2.2.2.1.1, v.2.2.2.2.2.2.1.1, .int .i64 x.2.2.2.2.2.2.2], 0, 59⟩ := by simp
  have o0 : Ow Fl.int 3 (H ++ [⟨[.int .i64 x.1.1, .int .i64 x.1.2.1, v.1, v.2.1.1, v.2.1.2, v.2.2.1.1, v.2.2.2.1, v.2.2.2.2.1, v.2.2.2.2.2.1.1, v.2.2.2.2.2.2.1.1, .int .i64 x.2.2.2.2.2.2.2], 0, 59⟩, ⟨[], 0, 3⟩]) (.slice (some ⟨H.length + 1, 0, some 0⟩) 0 0) [] := Ow.new (D := Fl.int) (xs := []) (k := 1) rfl rfl rfl rfl
  have hN : netOk x → (x.2.2.2.2.2.2.1.length : Int) = cnt x.1.1 x.1.2.1 := fun g0 => g0.2.1.2.2.2.2
  have hb9 := o.2.2.2.2.2.2.1.2.2
  have hgood : missOk x list → missing x list = ((list.filter (lackP x.2.2.2.2.2.2.1)).map (·.1)) := fun k => if_pos k
  obtain ⟨arr, harr⟩ : ∃ a, a = x.2.2.2.2.2.2.1 := ⟨_, rfl⟩
  rw [← harr] at hN hb9 at22 hgood
  refine wp_inv (fun n t H' => ∃ (i : Nat) (out : Value), n = list.length - i ∧ i ≤ list.length ∧ t 1 = u ∧ t 2 = .pointer (some ⟨H.length, 0, some 0⟩) ∧ t 5 = out ∧ t 6 = .bool (decide (netOk x)) ∧ t 7 = .int .i64 i ∧ Chg H H' [] ∧ H'[H.length]? = some ⟨[.int .i64 x.1.1, .int .i64 x.1.2.1, v.1, v.2.1.1, v.2.1.2, v.2.2.1.1, v.2.2.2.1, v.2.2.2.2.1, v.2.2.2.2.2.1.1, v.2.2.2.2.2.2.1.1, .int .i64 x.2.2.2.2.2.2.2], 0, 59⟩ ∧ Ow Fl.int 3 H' out (((list.take i).filter (lackP arr)).map (·.1)) ∧ (∀ j ∈ ids out, H.length < j) ∧ (0 < i → netOk x) ∧ ∀ p ∈ list.take i, packetOk x.1.1 x.1.2.1 p) ?_ (n := list.length)
    ⟨0, .slice (some ⟨H.length + 1, 0, some 0⟩) 0 0, rfl, by omega, by simp, by simp, by simp, by simp, by simp, Chg.app _, b0, o0, by simp, by simp, by simp⟩
  rintro n t H' ⟨i, out, rfl, hi, t1, t2, t5, t6, t7, ch, bb, oo, no, hn, hk⟩ ih
  have rd := hI.chg ch (by simp)
  simp [t1, t2, t5, t6, t7, rd.len (P := Try.prog) (ty := 60) (by simp)]
  refine wp_dec ?_ ?_ <;> intro g
  rotate_left
  · have : i = list.length := by omega
    subst this
    rw [List.take_length] at oo hk
    simp [t1, t2, t5, t6, t7]
    have e : missing x list = ((list.filter (lackP arr)).map (·.1)) := by
      by_cases h0 : list = []
      · have : lacks x list = [] := by unfold lacks; rw [h0]; rfl
        rw [h0]; unfold missing; split
        · rw [← h0, this, h0]; rfl
        · rfl
      · exact hgood ⟨hn (List.length_pos_iff.2 h0), hk⟩
    rw [e]
    exact ⟨oo, fun j hj => by have := no j hj; omega, ch⟩
  have hi' : i < list.length := by omega
  have hF : H.length ≤ H'.length := ch.1
  have fail : ¬ missOk x list → NewInts H (missing x list) (.slice (some ⟨H'.length, 0, some 0⟩) 0 0) (H' ++ [⟨[], 0, 3⟩]) := fun k => by
    rw [bad k]
    exact ⟨Ow.new0 (D := Fl.int) (xs := []) rfl rfl rfl rfl, by simpa using hF, ch.trans (Chg.app _)⟩
  simp
  rw [go_draw (h := by kernel_rfl)]
  by_cases g0 : netOk x
  rotate_left
  · simp [t1, t2, t5, t6, t7, g0]
    exact fail (fun k => g0 k.1)
  have pk := fun F p => sPacketOk_c (frz := F) (H := H') x.1.1 x.1.2.1 p
  have q1 := rd.idx (P := Try.prog) (ty := 60) (e := 44) (by simp) (i := (i : Int)) (by omega) (by omega)
  have q2 := rd.load (P := Try.prog) (e := 44) (by simp) hi'
  simp only [Int.toNat_natCast, pkF_n] at q1 q2
  have f0 := rd.field (P := Try.prog) (s := 44) (f := 0) (o := 0) (n := 1) (ag := false) (by simp) (j := i * 5) (by omega)
  have f2 := rd.field (P := Try.prog) (s := 44) (f := 2) (o := 2) (n := 1) (ag := false) (by simp) (j := i * 5) (by omega)
  have f3 := rd.field (P := Try.prog) (s := 44) (f := 3) (o := 3) (n := 1) (ag := false) (by simp) (j := i * 5) (by omega)
  have k2 := rd.cell (P := Try.prog) (e := 3) (by simp) hi' (c := 2) (by decide)
  have k3 := rd.cell (P := Try.prog) (e := 3) (by simp) hi' (c := 3) (by decide)
  simp only [pkF_n, Nat.add_zero] at f0 k2 k3
  simp only [pkF_f] at k2 k3
  simp at k2 k3
  have hsu := lacks_succ (arr := arr) hi'
  have hln : (((list.take i).filter (lackP arr)).map (·.1)).length ≤ i := by rw [List.length_map]; have := List.length_filter_le (lackP arr) (list.take i); simp at this; omega
  have hst := fun {x} (hx : x ∈ list.take (i + 1)) => mem_take_succ hi' hx
  have hmem := List.getElem_mem hi'
  obtain ⟨p, hp⟩ : ∃ p, p = list[i] := ⟨_, rfl⟩
  have pk := fun F => pk F p
  unfold pkV at pk
  rw [← hp] at q2 k2 k3 hsu hst hmem
  simp [-vfieldAddr, vfa_ptr, t1, t2, t5, t6, t7, g0, bb, VM.look, q1, q2, pkF_f, pk]
  by_cases g1 : packetOk x.1.1 x.1.2.1 p
  rotate_left
  · simp [t1, t2, t5, t6, t7, g1]
    exact fail (fun k => g1 (k.2 _ hmem))
  have hto := g1.2.2.1
  unfold isN at hto
  have hN' := hN g0
  obtain ⟨m, hm⟩ : ∃ m : Nat, p.2.2.1 = m := ⟨p.2.2.1.toNat, by omega⟩
  have hml : m < arr.length := by omega
  have hlk : lackP arr p = !decide (p.1 ∈ arrIds arr m p.2.2.2.1) := by unfold lackP; rw [hm, Int.toNat_natCast]
  have hm9 := hb9 _ (List.getElem_mem hml)
  have hg : arr.getD m [] = arr[m] := by simp [List.getD_eq_getElem?_getD, hml]
  have hal := arrIds_len arr m p.2.2.2.1
  rw [hg] at hal
  have hnx : ∀ q ∈ list.take (i + 1), packetOk x.1.1 x.1.2.1 q := fun q hq => by
    rcases hst hq with hq | rfl
    · exact hk q hq
    · exact g1
  simp [g1]
  rw [go_draw (h := by kernel_rfl)]
  simp [-vfieldAddr, vfa_ptr, t1, t2, t5, t6, t7, g1, bb, VM.look, q1, f2, f3, k2, k3, hm, ones]
  refine wp_thn (at22 _ _ _ _ ch hml) ?_
  rintro _ G2 ⟨s, ok, rfl, os, ns, c2⟩
  have b3 := box_chg bb c2 (by simp)
  have o2 : Ow Fl.int 3 G2 out (((list.take i).filter (lackP arr)).map (·.1)) := oo.chg c2 (by simp)
  have cc := fun F => find_c (frz := F) (H := G2) s _ p.1 os.rd.isI (by omega)
  have ch2 : Chg H G2 [] := ch.trans c2
  have rd2 := rd.chg c2 (by simp)
  have q1 := rd2.idx (P := Try.prog) (ty := 60) (e := 44) (by simp) (i := (i : Int)) (by omega) (by omega)
  have f0 := rd2.field (P := Try.prog) (s := 44) (f := 0) (o := 0) (n := 1) (ag := false) (by simp) (j := i * 5) (by omega)
  have k0 := rd2.cell (P := Try.prog) (e := 3) (by simp) hi' (c := 0) (by decide)
  simp only [Int.toNat_natCast, pkF_n, Nat.add_zero] at q1 f0 k0
  simp only [pkF_f] at k0
  simp at k0
  rw [← hp] at k0
  simp [-vfieldAddr, vfa_ptr, t1, t2, t5, t6, t7, q1, f0, k0, cc]
  by_cases g4 : p.1 ∈ arrIds arr m p.2.2.2.1
  · have hlp : ¬ lackP arr p = true := by rw [hlk]; simp [g4]
    simp [t1, t2, t5, t6, t7, g4]
    refine ih (list.length - (i + 1)) _ _ ⟨i + 1, out, rfl, by omega, by simp [t1], by simp [t2], by simp [t5], by simp [t6], ?_, ch2, b3, by rw [hsu, if_neg hlp, List.append_nil]; exact o2, no, fun _ => g0, hnx⟩ (by omega)
    simp; rw [w64 (by omega) (by omega)]
  · have hlp : lackP arr p = true := by rw [hlk]; simp [g4]
    obtain ⟨r', H3, hap, o3, c3, n3⟩ := o2.push (P := Try.prog) (frz := H.length) (ty := 24) (a := p.1) (by simp) rfl (by omega) (fun j hj => by have := no j hj; omega)
    simp only [Fl.int_f] at hap
    simp [-vfieldAddr, vfa_ptr, t1, t2, t5, t6, t7, q1, f0, k0, g4, hap]
    refine ih (list.length - (i + 1)) _ _ ⟨i + 1, r', rfl, by omega, by simp [t1], by simp [t2], by simp, by simp [t6], ?_, ch2.trans' c3 (fun j hj => .inr (by have := no j hj; omega)), box_chg b3 c3 (fun hj => by have := no _ hj; omega), by rw [hsu, if_pos hlp]; exact o3, fun j hj => ?_, fun _ => g0, hnx⟩ (by omega)
    · simp [t7]; rw [w64 (by omega) (by omega)]
    · rcases n3 j hj with h1 | h1
      · exact no j h1
      · have := ch2.1; have := box_lt b3; omega
end Go.Proofs.Ytcigpclbhfkgaaa.V
/-! Valid chips; what is delivered. -/
set_option linter.all false
namespace Go.Proofs.Ytcigpclbhfkgaaa.V
open Go Go.VM Go.Proofs
set_option maxRecDepth 10000
variable {frz : Nat} {H : Heap}
abbrev pk0 : PkD := (0, 0, 0, 0, 0)
def sentOk (w h : Int) (list : List PkD) : Prop := ∀ i, i < list.length → packetOk w h (list.getD i pk0) ∧ (list.getD i pk0).1 = (i : Int) + 1
instance (w h : Int) (list : List PkD) : Decidable (sentOk w h list) := inferInstanceAs (Decidable (∀ i, i < _ → _))
def chipOk (a : ChipD) : Prop := netOk a.1 ∧ a.2.length ≤ 200 ∧ sentOk a.1.1.1 a.1.1.2.1 a.2 ∧ keepsOk a.1 a.2
instance (a : ChipD) : Decidable (chipOk a) := inferInstanceAs (Decidable (_ ∧ _))
def delivered (a : ChipD) : Int := if chipOk a then (a.2.length : Int) - (missing a.1 a.2).length else -1
theorem chipOk_d {v : ChipV} {a : ChipD} (o : dChip.Ow H v a) : vcall C frz 41 [dChip.val v a] H = some (.bool (decide (chipOk a)), H) := by
  have oneA := dChip_one o
  have ones := oneA.1
  have one2 := oneA.2
  have o1 := o.1
  have rs := o.2.1.rd
  have nk := fun F L => netOk_d (frz := F) (H := H ++ L) (v := v.1) (x := a.1) (Dt.app (T := dNet) o1)
  have ko := fun F H' (c : Chg H H' []) => keepsOrder_d (frz := F) (H := H') (u := v.2) (list := a.2) (Dt.chg (T := dNet) o1 c (by simp)) (rs.chg c (by simp)) o.2.2
  simp only [dNet_val] at nk ko
  rw [dChip_val]
  refine wp.exact (by simp) ?_ rfl
  rw [vcall_go (fn := Try.f41) Try.func41 rfl (by kernel_rfl) rfl]
  have hY : ∀ Y, (chipOk a → Y = true) → (¬ chipOk a → Y = false) → Y = decide (chipOk a) := fun Y h1 h2 => by
    by_cases g : chipOk a
    · rw [h1 g, decide_eq_true g]
    · rw [h2 g, decide_eq_false g]
  have hno : ¬ chipOk a → false = decide (chipOk a) := fun g => by rw [decide_eq_false g]
  have hG : (H ++ [⟨[.int .i64 a.1.1.1, .int .i64 a.1.1.2.1, v.1.1, v.1.2.1.1, v.1.2.1.2, v.1.2.2.1.1, v.1.2.2.2.1, v.1.2.2.2.2.1, v.1.2.2.2.2.2.1.1, v.1.2.2.2.2.2.2.1.1, .int .i64 a.1.2.2.2.2.2.2.2, v.2], 0, 62⟩])[H.length]? = some ⟨[.int .i64 a.1.1.1, .int .i64 a.1.1.2.1, v.1.1, v.1.2.1.1, v.1.2.1.2, v.1.2.2.1.1, v.1.2.2.2.1, v.1.2.2.2.2.1, v.1.2.2.2.2.2.1.1, v.1.2.2.2.2.2.2.1.1, .int .i64 a.1.2.2.2.2.2.2.2, v.2], 0, 62⟩ := by simp
  have cG : Chg H (H ++ [⟨[.int .i64 a.1.1.1, .int .i64 a.1.1.2.1, v.1.1, v.1.2.1.1, v.1.2.1.2, v.1.2.2.1.1, v.1.2.2.2.1, v.1.2.2.2.2.1, v.1.2.2.2.2.2.1.1, v.1.2.2.2.2.2.2.1.1, .int .i64 a.1.2.2.2.2.2.2.2, v.2], 0, 62⟩]) [] := Chg.app _
  simp [ones, one2, nk]
  by_cases g0 : netOk a.1
  rotate_left
  · simp [g0]; exact fun k => g0 k.1
  have ls := fun L => (rs.app (L := L)).len (P := Try.prog) (ty := 60) (by simp)
  simp [g0, ones, one2, ls]
  by_cases g1 : 200 < a.2.length
  · have g1' : (200 : Int) < a.2.length := by omega
    simp [g1, g1']; exact fun k => by have := k.2.1; omega
  have g1' : ¬ (200 : Int) < a.2.length := by omega
  simp [g1, g1', ones, one2, ls]
  refine wp_inv (fun n t H' => ∃ (i : Nat), n = a.2.length - i ∧ i ≤ a.2.length ∧ t 1 = .pointer (some ⟨H.length, 0, some 0⟩) ∧ t 16 = v.2 ∧ t 17 = .int .i64 a.2.length ∧ t 18 = .int .i64 i ∧ Chg H H' [] ∧ H'[H.length]? = some ⟨[.int .i64 a.1.1.1, .int .i64 a.1.1.2.1, v.1.1, v.1.2.1.1, v.1.2.1.2, v.1.2.2.1.1, v.1.2.2.2.1, v.1.2.2.2.2.1, v.1.2.2.2.2.2.1.1, v.1.2.2.2.2.2.2.1.1, .int .i64 a.1.2.2.2.2.2.2.2, v.2], 0, 62⟩ ∧ ∀ j, j < i → packetOk a.1.1.1 a.1.1.2.1 (a.2.getD j pk0) ∧ (a.2.getD j pk0).1 = (j : Int) + 1) ?_ (n := a.2.length)
    ⟨0, rfl, by omega, by simp, by simp, by simp, by simp, cG, hG, fun _ h => absurd h (by omega)⟩
  rintro n t H' ⟨i, rfl, hi, t1, t16, t17, t18, ch, bb, hk⟩ ih
  have rd := rs.chg ch (by simp)
  have ll := rd.len (P := Try.prog) (ty := 60) (by simp)
  simp [t1, t16, t17, t18, VM.look, bb, ll]
  refine wp_dec ?_ ?_ <;> intro g
  rotate_left
  · have : i = a.2.length := by omega
    have hs : sentOk a.1.1.1 a.1.1.2.1 a.2 := fun j hj => hk j (by omega)
    have ko' := fun F => ko F H' ch
    simp [t1, t16, t17, t18, VM.look, bb, ones, one2, ko']
    exact ⟨fun k => ⟨g0, by omega, hs, k⟩, fun k => k.2.2.2⟩
  have hi' : i < a.2.length := by omega
  have hF : H.length ≤ H'.length := ch.1
  have q1 := rd.idx (P := Try.prog) (ty := 60) (e := 44) (by simp) (i := (i : Int)) (by omega) (by omega)
  have q2 := rd.load (P := Try.prog) (e := 44) (by simp) hi'
  simp only [Int.toNat_natCast, pkF_n] at q1 q2
  have hgd : a.2.getD i pk0 = a.2[i] := by simp [List.getD_eq_getElem?_getD, hi']
  have hfail : ¬ (packetOk a.1.1.1 a.1.1.2.1 a.2[i] ∧ a.2[i].1 = (i : Int) + 1) → ¬ chipOk a := fun k c => k (by have := c.2.2.1 i hi'; rwa [hgd] at this)
  have e1 : ∀ [Inhabited Unit], IntKind.i64.wrap ((i : Int) + 1) = (i : Int) + 1 := by intro _; exact w64 (by omega) (by omega)
  have hnx : packetOk a.1.1.1 a.1.1.2.1 a.2[i] → a.2[i].1 = (i : Int) + 1 → ∀ j, j < i + 1 → packetOk a.1.1.1 a.1.1.2.1 (a.2.getD j pk0) ∧ (a.2.getD j pk0).1 = (j : Int) + 1 := fun k1 k2 j hj => by
    rcases Nat.lt_succ_iff_lt_or_eq.1 hj with hj | rfl
    · exact hk j hj
    · rw [hgd]; exact ⟨k1, k2⟩
  obtain ⟨p, hp⟩ : ∃ p, p = a.2[i] := ⟨_, rfl⟩
  have pk := fun F L => packetOk_c (frz := F) (H := H' ++ L) a.1.1.1 a.1.1.2.1 p
  unfold pkV at pk
  rw [← hp] at q2 hfail hnx
  have bb2 := fun r => get_app' bb [r]
  simp [t1, t16, t17, t18, q1, q2, pkF_f, hF, VM.look, bb2, pk]
  by_cases g2 : packetOk a.1.1.1 a.1.1.2.1 p
  rotate_left
  · simp [g2]; exact hfail (fun k => g2 k.1)
  by_cases g3 : p.1 = (i : Int) + 1
  rotate_left
  · simp [t1, t16, t17, t18, g2, g3, VM.look, e1]; exact hfail (fun k => g3 k.2)
  simp [t1, t16, t17, t18, g2, g3, VM.look, e1]
  refine ih (a.2.length - (i + 1)) _ _ ⟨i + 1, rfl, by omega, by simp [t1], by simp [t16], by simp [t17], by simp [t18], ch.trans (Chg.app _), get_app' bb _, hnx g2 g3⟩ (by omega)
theorem sChipOk_d {v : ChipV} {a : ChipD} (o : dChip.Ow H v a) : vcall C frz 40 [dChip.val v a] H = some (.bool (decide (chipOk a)), H) := by
  have oneA := dChip_one o
  have ones := oneA.1
  have one2 := oneA.2
  have o1 := o.1
  have rs := o.2.1.rd
  have nk := fun F L => sNetOk_d (frz := F) (H := H ++ L) (v := v.1) (x := a.1) (Dt.app (T := dNet) o1)
  have ko := fun F H' (c : Chg H H' []) => sKeepsOrder_d (frz := F) (H := H') (u := v.2) (list := a.2) (Dt.chg (T := dNet) o1 c (by simp)) (rs.chg c (by simp)) o.2.2
  simp only [dNet_val] at nk ko
  rw [dChip_val]
  refine wp.exact (by simp) ?_ rfl
  rw [vcall_go (fn := Try.f40) Try.func40 rfl (by kernel_rfl) rfl]
  have hY : ∀ Y, (chipOk a → Y = true) → (¬ chipOk a → Y = false) → Y = decide (chipOk a) := fun Y h1 h2 => by
    by_cases g : chipOk a
    · rw [h1 g, decide_eq_true g]
    · rw [h2 g, decide_eq_false g]
  have hno : ¬ chipOk a → false = decide (chipOk a) := fun g => by rw [decide_eq_false g]
  have hG : (H ++ [⟨[.int .i64 a.1.1.1, .int .i64 a.1.1.2.1, v.1.1, v.1.2.1.1, v.1.2.1.2, v.1.2.2.1.1, v.1.2.2.2.1, v.1.2.2.2.2.1, v.1.2.2.2.2.2.1.1, v.1.2.2.2.2.2.2.1.1, .int .i64 a.1.2.2.2.2.2.2.2, v.2], 0, 62⟩])[H.length]? = some ⟨[.int .i64 a.1.1.1, .int .i64 a.1.1.2.1, v.1.1, v.1.2.1.1, v.1.2.1.2, v.1.2.2.1.1, v.1.2.2.2.1, v.1.2.2.2.2.1, v.1.2.2.2.2.2.1.1, v.1.2.2.2.2.2.2.1.1, .int .i64 a.1.2.2.2.2.2.2.2, v.2], 0, 62⟩ := by simp
  have cG : Chg H (H ++ [⟨[.int .i64 a.1.1.1, .int .i64 a.1.1.2.1, v.1.1, v.1.2.1.1, v.1.2.1.2, v.1.2.2.1.1, v.1.2.2.2.1, v.1.2.2.2.2.1, v.1.2.2.2.2.2.1.1, v.1.2.2.2.2.2.2.1.1, .int .i64 a.1.2.2.2.2.2.2.2, v.2], 0, 62⟩]) [] := Chg.app _
  simp [ones, one2, nk]
  by_cases g0 : netOk a.1
  rotate_left
  · simp [g0]; exact fun k => g0 k.1
  have ls := fun L => (rs.app (L := L)).len (P := Try.prog) (ty := 60) (by simp)
  simp [g0, ones, one2, ls]
  by_cases g1 : 200 < a.2.length
  · have g1' : (200 : Int) < a.2.length := by omega
    simp [g1, g1']; exact fun k => by have := k.2.1; omega
  have g1' : ¬ (200 : Int) < a.2.length := by omega
  simp [g1, g1', ones, one2, ls]
  refine wp_inv (fun n t H' => ∃ (i : Nat), n = a.2.length - i ∧ i ≤ a.2.length ∧ t 1 = .pointer (some ⟨H.length, 0, some 0⟩) ∧ t 3 = .int .i64 i ∧ Chg H H' [] ∧ H'[H.length]? = some ⟨[.int .i64 a.1.1.1, .int .i64 a.1.1.2.1, v.1.1, v.1.2.1.1, v.1.2.1.2, v.1.2.2.1.1, v.1.2.2.2.1, v.1.2.2.2.2.1, v.1.2.2.2.2.2.1.1, v.1.2.2.2.2.2.2.1.1, .int .i64 a.1.2.2.2.2.2.2.2, v.2], 0, 62⟩ ∧ ∀ j, j < i → packetOk a.1.1.1 a.1.1.2.1 (a.2.getD j pk0) ∧ (a.2.getD j pk0).1 = (j : Int) + 1) ?_ (n := a.2.length)
    ⟨0, rfl, by omega, by simp, by simp, cG, hG, fun _ h => absurd h (by omega)⟩
  rintro n t H' ⟨i, rfl, hi, t1, t3, ch, bb, hk⟩ ih
  have rd := rs.chg ch (by simp)
  have ll := rd.len (P := Try.prog) (ty := 60) (by simp)
  simp [t1, t3, VM.look, bb, ll]
  refine wp_dec ?_ ?_ <;> intro g
  rotate_left
  · have : i = a.2.length := by omega
    have hs : sentOk a.1.1.1 a.1.1.2.1 a.2 := fun j hj => hk j (by omega)
    have ko' := fun F => ko F H' ch
    simp [t1, t3, VM.look, bb, ones, one2, ko']
    exact ⟨fun k => ⟨g0, by omega, hs, k⟩, fun k => k.2.2.2⟩
  have hi' : i < a.2.length := by omega
  have hF : H.length ≤ H'.length := ch.1
  have q1 := rd.idx (P := Try.prog) (ty := 60) (e := 44) (by simp) (i := (i : Int)) (by omega) (by omega)
  have q2 := rd.load (P := Try.prog) (e := 44) (by simp) hi'
  simp only [Int.toNat_natCast, pkF_n] at q1 q2
  have hgd : a.2.getD i pk0 = a.2[i] := by simp [List.getD_eq_getElem?_getD, hi']
  have hfail : ¬ (packetOk a.1.1.1 a.1.1.2.1 a.2[i] ∧ a.2[i].1 = (i : Int) + 1) → ¬ chipOk a := fun k c => k (by have := c.2.2.1 i hi'; rwa [hgd] at this)
  have e1 : ∀ [Inhabited Unit], IntKind.i64.wrap ((i : Int) + 1) = (i : Int) + 1 := by intro _; exact w64 (by omega) (by omega)
  have hnx : packetOk a.1.1.1 a.1.1.2.1 a.2[i] → a.2[i].1 = (i : Int) + 1 → ∀ j, j < i + 1 → packetOk a.1.1.1 a.1.1.2.1 (a.2.getD j pk0) ∧ (a.2.getD j pk0).1 = (j : Int) + 1 := fun k1 k2 j hj => by
    rcases Nat.lt_succ_iff_lt_or_eq.1 hj with hj | rfl
    · exact hk j hj
    · rw [hgd]; exact ⟨k1, k2⟩
  have f0 := rd.field (P := Try.prog) (s := 44) (f := 0) (o := 0) (n := 1) (ag := false) (by simp) (j := i * 5) (by omega)
  have k0 := rd.cell (P := Try.prog) (e := 3) (by simp) hi' (c := 0) (by decide)
  simp only [pkF_n, Nat.add_zero] at f0 k0
  simp only [pkF_f] at k0
  simp at k0
  obtain ⟨p, hp⟩ : ∃ p, p = a.2[i] := ⟨_, rfl⟩
  have pk := fun F => sPacketOk_c (frz := F) (H := H') a.1.1.1 a.1.1.2.1 p
  unfold pkV at pk
  rw [← hp] at q2 hfail hnx k0
  simp
  rw [go_draw (h := by kernel_rfl)]
  simp [-vfieldAddr, vfa_ptr, t1, t3, q1, q2, pkF_f, VM.look, bb, pk]
  by_cases g2 : packetOk a.1.1.1 a.1.1.2.1 p
  rotate_left
  · simp [g2]; exact hfail (fun k => g2 k.1)
  by_cases g3 : p.1 = (i : Int) + 1
  rotate_left
  · simp [-vfieldAddr, vfa_ptr, t1, t3, g2, g3, VM.look, bb, q1, f0, k0, e1]; exact hfail (fun k => g3 k.2)
  simp [-vfieldAddr, vfa_ptr, t1, t3, g2, g3, VM.look, bb, q1, f0, k0, e1]
  refine ih (a.2.length - (i + 1)) _ _ ⟨i + 1, rfl, by omega, by simp [t1], by simp, ch, bb, hnx g2 g3⟩ (by omega)
theorem delivered_d {v : ChipV} {a : ChipD} (o : dChip.Ow H v a) : vcall C frz 43 [dChip.val v a] H = some (.int .i64 (delivered a), H) := by
  have oneA := dChip_one o
  have ones := oneA.1
  have one2 := oneA.2
  have o1 := o.1
  have rs := o.2.1.rd
  have ck := fun F L => chipOk_d (frz := F) (H := H ++ L) (v := v) (a := a) (Dt.app (T := dChip) o)
  have ms := fun F L => missing_d (frz := F) (H := H ++ L) (u := v.2) (list := a.2) (Dt.app (T := dNet) o1) rs.app o.2.2
  have ls := fun L => (rs.app (L := L)).len (P := Try.prog) (ty := 60) (by simp)
  simp only [dNet_val] at ms
  simp only [dChip_val] at ck ⊢
  refine wp.exact (by simp) ?_ rfl
  rw [vcall_go (fn := Try.f43) Try.func43 rfl (by kernel_rfl) rfl]
  unfold delivered
  simp [ones, one2, ck]
  by_cases g0 : chipOk a
  rotate_left
  · simp [g0]
  simp [g0]
  rw [go_draw (h := by kernel_rfl)]
  simp [ones, one2, ls]
  refine wp_thn (ms _ _) ?_
  rintro r K ⟨or, nr, cr⟩
  have lr := or.rd.len (P := Try.prog) (ty := 24) (by simp)
  have h1 := g0.2.1
  have h2 : (missing a.1 a.2).length ≤ a.2.length := by
    unfold missing; split
    · exact lacks_len _ _
    · simp
  simp [lr]
  rw [w64 (by omega) (by omega)]
theorem sDelivered_d {v : ChipV} {a : ChipD} (o : dChip.Ow H v a) : vcall C frz 42 [dChip.val v a] H = some (.int .i64 (delivered a), H) := by
  have oneA := dChip_one o
  have ones := oneA.1
  have one2 := oneA.2
  have o1 := o.1
  have rs := o.2.1.rd
  have ck := fun F L => sChipOk_d (frz := F) (H := H ++ L) (v := v) (a := a) (Dt.app (T := dChip) o)
  have ms := fun F L => sMissing_d (frz := F) (H := H ++ L) (u := v.2) (list := a.2) (Dt.app (T := dNet) o1) rs.app o.2.2
  have ls := fun L => (rs.app (L := L)).len (P := Try.prog) (ty := 60) (by simp)
  simp only [dNet_val] at ms
  simp only [dChip_val] at ck ⊢
  refine wp.exact (by simp) ?_ rfl
  rw [vcall_go (fn := Try.f42) Try.func42 rfl (by kernel_rfl) rfl]
  unfold delivered
  simp [ones, one2, ck]
  by_cases g0 : chipOk a
  rotate_left
  · simp [g0]
  simp [g0]
  rw [go_draw (h := by kernel_rfl)]
  simp [ones, one2, ls]
  refine wp_thn (ms _ _) ?_
  rintro r K ⟨or, nr, cr⟩
  have lr := or.rd.len (P := Try.prog) (ty := 24) (by simp)
  have h1 := g0.2.1
  have h2 : (missing a.1 a.2).length ≤ a.2.length := by
    unfold missing; split
    · exact lacks_len _ _
    · simp
  simp [lr]
  rw [w64 (by omega) (by omega)]
end Go.Proofs.Ytcigpclbhfkgaaa.V
/-! The law FnExactDelivered. -/
set_option linter.all false
namespace Go.Proofs.Ytcigpclbhfkgaaa.V
open Go Go.VM Go.Proofs
set_option maxRecDepth 10000
variable {frz : Nat} {H : Heap}
theorem law_FnExactDelivered_w {a0_0 : Int} {a0_1 : Int} {a0_2 : List (Int)} {u0_2 : Value} {a0_3 : List (Int)} {u0_3 : Value} {a0_4 : List (Int)} {u0_4 : Value} {a0_5 : List (List (Int × Int × Int × Bool × Bool))} {u0_5 : Value} {a0_6 : List (Int)} {u0_6 : Value} {a0_7 : List (Int)} {u0_7 : Value} {a0_8 : List (List (Int × Int × Int × Bool × Bool))} {u0_8 : Value} {a0_9 : List (List (Int × Int × Int × Bool × Bool))} {u0_9 : Value} {a0_10 : Int} {a0_11 : List (Int × Int × Int × Int × Int)} {u0_11 : Value} (s0_2 : IsS (Kn.int .i64) H u0_2 a0_2) (s0_3 : IsS (Kn.int .i64) H u0_3 a0_3) (s0_4 : IsS (Kn.int .i64) H u0_4 a0_4) (s0_5 : IsS (Kn.slice (Kn.pair (Kn.int .i64) (Kn.pair (Kn.int .i64) (Kn.pair (Kn.int .i64) (Kn.pair Kn.bool Kn.bool))))) H u0_5 a0_5) (s0_6 : IsS (Kn.int .i64) H u0_6 a0_6) (s0_7 : IsS (Kn.int .i64) H u0_7 a0_7) (s0_8 : IsS (Kn.slice (Kn.pair (Kn.int .i64) (Kn.pair (Kn.int .i64) (Kn.pair (Kn.int .i64) (Kn.pair Kn.bool Kn.bool))))) H u0_8 a0_8) (s0_9 : IsS (Kn.slice (Kn.pair (Kn.int .i64) (Kn.pair (Kn.int .i64) (Kn.pair (Kn.int .i64) (Kn.pair Kn.bool Kn.bool))))) H u0_9 a0_9) (s0_11 : IsS (Kn.pair (Kn.int .i64) (Kn.pair (Kn.int .i64) (Kn.pair (Kn.int .i64) (Kn.pair (Kn.int .i64) (Kn.int .i64))))) H u0_11 a0_11)
    (w0 : (((((Lit.int .i64 a0_0).wf = true) ∧ ((Lit.int .i64 a0_1).wf = true)) ∧ (a0_2.length ≤ maxLen ∧ ∀ x1 ∈ a0_2, (Lit.int .i64 x1).wf = true)) ∧ (((a0_3.length ≤ maxLen ∧ ∀ x2 ∈ a0_3, (Lit.int .i64 x2).wf = true)) ∧ ((a0_4.length ≤ maxLen ∧ ∀ x3 ∈ a0_4, (Lit.int .i64 x3).wf = true))) ∧ (a0_5.length ≤ maxLen ∧ ∀ x4 ∈ a0_5, x4.length ≤ maxLen ∧ ∀ x5 ∈ x4, ((Lit.int .i64 x5.1).wf = true) ∧ ((Lit.int .i64 x5.2.1).wf = true) ∧ ((Lit.int .i64 x5.2.2.1).wf = true) ∧ (True) ∧ (True)) ∧ (a0_6.length ≤ maxLen ∧ ∀ x6 ∈ a0_6, (Lit.int .i64 x6).wf = true) ∧ (a0_7.length ≤ maxLen ∧ ∀ x7 ∈ a0_7, (Lit.int .i64 x7).wf = true) ∧ (a0_8.length ≤ maxLen ∧ ∀ x8 ∈ a0_8, x8.length ≤ maxLen ∧ ∀ x9 ∈ x8, ((Lit.int .i64 x9.1).wf = true) ∧ ((Lit.int .i64 x9.2.1).wf = true) ∧ ((Lit.int .i64 x9.2.2.1).wf = true) ∧ (True) ∧ (True)) ∧ (a0_9.length ≤ maxLen ∧ ∀ x10 ∈ a0_9, x10.length ≤ maxLen ∧ ∀ x11 ∈ x10, ((Lit.int .i64 x11.1).wf = true) ∧ ((Lit.int .i64 x11.2.1).wf = true) ∧ ((Lit.int .i64 x11.2.2.1).wf = true) ∧ (True) ∧ (True)) ∧ ((Lit.int .i64 a0_10).wf = true)) ∧ (a0_11.length ≤ maxLen ∧ ∀ x12 ∈ a0_11, ((Lit.int .i64 x12.1).wf = true) ∧ ((Lit.int .i64 x12.2.1).wf = true) ∧ ((Lit.int .i64 x12.2.2.1).wf = true) ∧ ((Lit.int .i64 x12.2.2.2.1).wf = true) ∧ ((Lit.int .i64 x12.2.2.2.2).wf = true))) :
    wp (vcall C frz 9 [.agg #[.int .i64 a0_0, .int .i64 a0_1, u0_2, u0_3, u0_4, u0_5, u0_6, u0_7, u0_8, u0_9, .int .i64 a0_10, u0_11]] H) (fun r _ => r = .bool true) := by
  have r0_2 := s0_2.ints.rd
  have r0_3 := s0_3.ints.rd
  have r0_4 := s0_4.ints.rd
  obtain ⟨h0_5, r0_5⟩ := IsS.rdL_of (fun hh => IsS.rd_of rfl knF_is hh) s0_5
  have r0_6 := s0_6.ints.rd
  have r0_7 := s0_7.ints.rd
  obtain ⟨h0_8, r0_8⟩ := IsS.rdL_of (fun hh => IsS.rd_of rfl knF_is hh) s0_8
  obtain ⟨h0_9, r0_9⟩ := IsS.rdL_of (fun hh => IsS.rd_of rfl knF_is hh) s0_9
  have r0_11 := IsS.rd_of (D := pkF) rfl knP_is s0_11
  have rl0_2 := fun (L : Heap) => (Rd.app (L := L) r0_2).len (P := Try.prog) (ty := 24) (by simp)
  have rm0_2 := r0_2.len (P := Try.prog) (ty := 24) (by simp)
  have rl0_3 := fun (L : Heap) => (Rd.app (L := L) r0_3).len (P := Try.prog) (ty := 24) (by simp)
  have rm0_3 := r0_3.len (P := Try.prog) (ty := 24) (by simp)
  have rl0_4 := fun (L : Heap) => (Rd.app (L := L) r0_4).len (P := Try.prog) (ty := 24) (by simp)
  have rm0_4 := r0_4.len (P := Try.prog) (ty := 24) (by simp)
  have rl0_6 := fun (L : Heap) => (Rd.app (L := L) r0_6).len (P := Try.prog) (ty := 24) (by simp)
  have rm0_6 := r0_6.len (P := Try.prog) (ty := 24) (by simp)
  have rl0_7 := fun (L : Heap) => (Rd.app (L := L) r0_7).len (P := Try.prog) (ty := 24) (by simp)
  have rm0_7 := r0_7.len (P := Try.prog) (ty := 24) (by simp)
  have rl0_11 := fun (L : Heap) => (Rd.app (L := L) r0_11).len (P := Try.prog) (ty := 52) (by simp)
  have rm0_11 := r0_11.len (P := Try.prog) (ty := 52) (by simp)
  rw [vcall_go (fn := Try.f9) Try.func9 rfl (by kernel_rfl) rfl]
  have ro0_2 := And.intro r0_2.one' r0_2.cells
  have ro0_3 := And.intro r0_3.one' r0_3.cells
  have ro0_4 := And.intro r0_4.one' r0_4.cells
  have ro0_5 := And.intro r0_5.1.one' r0_5.1.cells
  have ro0_6 := And.intro r0_6.one' r0_6.cells
  have ro0_7 := And.intro r0_7.one' r0_7.cells
  have ro0_8 := And.intro r0_8.1.one' r0_8.1.cells
  have ro0_9 := And.intro r0_9.1.one' r0_9.1.cells
  have ro0_11 := And.intro r0_11.one' r0_11.cells
  simp [VM.look, ro0_2, rl0_2, rm0_2, ro0_3, rl0_3, rm0_3, ro0_4, rl0_4, rm0_4, ro0_5, ro0_6, rl0_6, rm0_6, ro0_7, rl0_7, rm0_7, ro0_8, ro0_9, ro0_11, rl0_11, rm0_11]
  have sz0 := fun F (L : Heap) => szChip_c (frz := F) (H := H ++ L) a0_0 a0_1 a0_10 1048576 u0_2 u0_3 u0_4 u0_5 u0_6 u0_7 u0_8 u0_9 u0_11 h0_5 h0_8 h0_9 a0_2 a0_3 a0_4 a0_6 a0_7 a0_5 a0_8 a0_9 a0_11 (IsI.rd (Rd.isI (Rd.chg r0_2 ((Chg.refl (H := H) []).trans (Chg.app [])) (by simp)))) (IsI.rd (Rd.isI (Rd.chg r0_3 ((Chg.refl (H := H) []).trans (Chg.app [])) (by simp)))) (IsI.rd (Rd.isI (Rd.chg r0_4 ((Chg.refl (H := H) []).trans (Chg.app [])) (by simp)))) (RdL.chg r0_5 ((Chg.refl (H := H) []).trans (Chg.app [])) (by simp)) (IsI.rd (Rd.isI (Rd.chg r0_6 ((Chg.refl (H := H) []).trans (Chg.app [])) (by simp)))) (IsI.rd (Rd.isI (Rd.chg r0_7 ((Chg.refl (H := H) []).trans (Chg.app [])) (by simp)))) (RdL.chg r0_8 ((Chg.refl (H := H) []).trans (Chg.app [])) (by simp)) (RdL.chg r0_9 ((Chg.refl (H := H) []).trans (Chg.app [])) (by simp)) (Rd.chg r0_11 ((Chg.refl (H := H) []).trans (Chg.app [])) (by simp)) (by have := w0.1.1.2.1; simpa [maxLen] using this) (by have := w0.1.2.1.1.1; simpa [maxLen] using this) (by have := w0.1.2.1.2.1; simpa [maxLen] using this) (by have := w0.1.2.2.1.1; simpa [maxLen] using this) (fun x hx => by have := (w0.1.2.2.1.2 x hx).1; simpa [maxLen] using this) (by have := w0.1.2.2.2.1.1; simpa [maxLen] using this) (by have := w0.1.2.2.2.2.1.1; simpa [maxLen] using this) (by have := w0.1.2.2.2.2.2.1.1; simpa [maxLen] using this) (fun x hx => by have := (w0.1.2.2.2.2.2.1.2 x hx).1; simpa [maxLen] using this) (by have := w0.1.2.2.2.2.2.2.1.1; simpa [maxLen] using this) (fun x hx => by have := (w0.1.2.2.2.2.2.2.1.2 x hx).1; simpa [maxLen] using this) (by have := w0.2.1; simpa [maxLen] using this) (by omega) (by omega)
  simp [VM.look, ro0_2, rl0_2, rm0_2, ro0_3, rl0_3, rm0_3, ro0_4, rl0_4, rm0_4, ro0_5, ro0_6, rl0_6, rm0_6, ro0_7, rl0_7, rm0_7, ro0_8, ro0_9, ro0_11, rl0_11, rm0_11, sz0]
  refine wp_dec ?_ ?_ <;> intro g1 <;> simp [g1]
  have t0 : (a0_2.length : Int) + ((a0_3.length : Int) + (a0_4.length : Int)) + (tot a0_5 : Int) + (a0_6.length : Int) + (a0_7.length : Int) + (tot a0_8 : Int) + (tot a0_9 : Int) + (a0_11.length : Int) ≤ 1048576 := by split at g1 <;> omega
  have f0 : ¬ (1048576 : Int) < (a0_2.length : Int) + ((a0_3.length : Int) + (a0_4.length : Int)) + (tot a0_5 : Int) + (a0_6.length : Int) + (a0_7.length : Int) + (tot a0_8 : Int) + (tot a0_9 : Int) + (a0_11.length : Int) := by omega
  simp only [if_neg f0]
  try simp [VM.look, ro0_2, rl0_2, rm0_2, ro0_3, rl0_3, rm0_3, ro0_4, rl0_4, rm0_4, ro0_5, ro0_6, rl0_6, rm0_6, ro0_7, rl0_7, rm0_7, ro0_8, ro0_9, ro0_11, rl0_11, rm0_11, f0]
  refine wp_thn (toChip_w a0_0 a0_1 a0_10 u0_2 u0_3 u0_4 u0_5 u0_6 u0_7 u0_8 u0_9 u0_11 h0_5 h0_8 h0_9 a0_2 a0_3 a0_4 a0_6 a0_7 a0_5 a0_8 a0_9 a0_11 (IsI.rd (Rd.isI (Rd.chg r0_2 ((Chg.refl (H := H) []).trans (Chg.app [])) (by simp)))) (IsI.rd (Rd.isI (Rd.chg r0_3 ((Chg.refl (H := H) []).trans (Chg.app [])) (by simp)))) (IsI.rd (Rd.isI (Rd.chg r0_4 ((Chg.refl (H := H) []).trans (Chg.app [])) (by simp)))) (RdL.chg r0_5 ((Chg.refl (H := H) []).trans (Chg.app [])) (by simp)) (IsI.rd (Rd.isI (Rd.chg r0_6 ((Chg.refl (H := H) []).trans (Chg.app [])) (by simp)))) (IsI.rd (Rd.isI (Rd.chg r0_7 ((Chg.refl (H := H) []).trans (Chg.app [])) (by simp)))) (RdL.chg r0_8 ((Chg.refl (H := H) []).trans (Chg.app [])) (by simp)) (RdL.chg r0_9 ((Chg.refl (H := H) []).trans (Chg.app [])) (by simp)) (Rd.chg r0_11 ((Chg.refl (H := H) []).trans (Chg.app [])) (by simp)) (by omega) (by omega) (by omega) (by have := tot_len a0_5; omega) (fun x hx => by have := tot_in a0_5 x hx; omega) (by omega) (by omega) (by have := tot_len a0_8; omega) (fun x hx => by have := tot_in a0_8 x hx; omega) (by have := tot_len a0_9; omega) (fun x hx => by have := tot_in a0_9 x hx; omega) (by omega)) ?_
  rintro _ H1 ⟨v_x0, rfl, o_x0, c1, n_x0, d_x0⟩
  have l1 := c1.1
  try simp at l1
  have b1_1 := box_chg ((app_get0 _ _).trans rfl) c1 (by simp)
  have cH1 : Chg H H1 [] := ((Chg.refl (H := H) []).trans (Chg.app [])).trans c1
  have h_x0 := dChip.lt o_x0
  try simp at n_x0
  have one_x0 := dChip_one o_x0
  simp [VM.look, b1_1, get_app' b1_1, cH1.1, Nat.le_add_right_of_le cH1.1, one_x0, ro0_2, ro0_3, ro0_4, ro0_5, ro0_6, ro0_7, ro0_8, ro0_9, ro0_11, dChip_val, f0]
  have ex2 := fun F => sDelivered_d (frz := F) o_x0
  try simp only [dChip_val] at ex2
  simp [VM.look, b1_1, get_app' b1_1, cH1.1, Nat.le_add_right_of_le cH1.1, one_x0, ro0_2, ro0_3, ro0_4, ro0_5, ro0_6, ro0_7, ro0_8, ro0_9, ro0_11, dChip_val, ex2, f0]
  refine wp_thn (toChip_w a0_0 a0_1 a0_10 u0_2 u0_3 u0_4 u0_5 u0_6 u0_7 u0_8 u0_9 u0_11 h0_5 h0_8 h0_9 a0_2 a0_3 a0_4 a0_6 a0_7 a0_5 a0_8 a0_9 a0_11 (IsI.rd (Rd.isI (Rd.chg r0_2 cH1 (by simp)))) (IsI.rd (Rd.isI (Rd.chg r0_3 cH1 (by simp)))) (IsI.rd (Rd.isI (Rd.chg r0_4 cH1 (by simp)))) (RdL.chg r0_5 cH1 (by simp)) (IsI.rd (Rd.isI (Rd.chg r0_6 cH1 (by simp)))) (IsI.rd (Rd.isI (Rd.chg r0_7 cH1 (by simp)))) (RdL.chg r0_8 cH1 (by simp)) (RdL.chg r0_9 cH1 (by simp)) (Rd.chg r0_11 cH1 (by simp)) (by omega) (by omega) (by omega) (by have := tot_len a0_5; omega) (fun x hx => by have := tot_in a0_5 x hx; omega) (by omega) (by omega) (by have := tot_len a0_8; omega) (fun x hx => by have := tot_in a0_8 x hx; omega) (by have := tot_len a0_9; omega) (fun x hx => by have := tot_in a0_9 x hx; omega) (by omega)) ?_
  rintro _ H3 ⟨v_x1, rfl, o_x1, c3, n_x1, d_x1⟩
  have l3 := c3.1
  try simp at l3
  have b3_1 := box_chg b1_1 c3 (by simp)
  have o3_x0 := Dt.chg0 o_x0 c3
  have cH3 : Chg H H3 [] := (cH1).trans c3
  have h_x1 := dChip.lt o_x1
  try simp at n_x1
  have one_x1 := dChip_one o_x1
  simp [VM.look, b3_1, get_app' b3_1, cH3.1, Nat.le_add_right_of_le cH3.1, one_x0, one_x1, ro0_2, ro0_3, ro0_4, ro0_5, ro0_6, ro0_7, ro0_8, ro0_9, ro0_11, dChip_val, f0]
  have ex4 := fun F (L : Heap) => delivered_d (frz := F) (H := H3 ++ L) (Dt.app o_x1)
  try simp only [dChip_val] at ex4
  simp [VM.look, b3_1, get_app' b3_1, cH3.1, Nat.le_add_right_of_le cH3.1, one_x0, one_x1, ro0_2, ro0_3, ro0_4, ro0_5, ro0_6, ro0_7, ro0_8, ro0_9, ro0_11, dChip_val, ex4, f0]
  rw [go_draw (h := by kernel_rfl)]
  simp [VM.look, b3_1, get_app' b3_1, cH3.1, Nat.le_add_right_of_le cH3.1, one_x0, one_x1, ro0_2, ro0_3, ro0_4, ro0_5, ro0_6, ro0_7, ro0_8, ro0_9, ro0_11, dChip_val, f0]
  refine wp_thn (toChip_w a0_0 a0_1 a0_10 u0_2 u0_3 u0_4 u0_5 u0_6 u0_7 u0_8 u0_9 u0_11 h0_5 h0_8 h0_9 a0_2 a0_3 a0_4 a0_6 a0_7 a0_5 a0_8 a0_9 a0_11 (IsI.rd (Rd.isI (Rd.chg r0_2 (cH3.trans (Chg.app [])) (by simp)))) (IsI.rd (Rd.isI (Rd.chg r0_3 (cH3.trans (Chg.app [])) (by simp)))) (IsI.rd (Rd.isI (Rd.chg r0_4 (cH3.trans (Chg.app [])) (by simp)))) (RdL.chg r0_5 (cH3.trans (Chg.app [])) (by simp)) (IsI.rd (Rd.isI (Rd.chg r0_6 (cH3.trans (Chg.app [])) (by simp)))) (IsI.rd (Rd.isI (Rd.chg r0_7 (cH3.trans (Chg.app [])) (by simp)))) (RdL.chg r0_8 (cH3.trans (Chg.app [])) (by simp)) (RdL.chg r0_9 (cH3.trans (Chg.app [])) (by simp)) (Rd.chg r0_11 (cH3.trans (Chg.app [])) (by simp)) (by omega) (by omega) (by omega) (by have := tot_len a0_5; omega) (fun x hx => by have := tot_in a0_5 x hx; omega) (by omega) (by omega) (by have := tot_len a0_8; omega) (fun x hx => by have := tot_in a0_8 x hx; omega) (by have := tot_len a0_9; omega) (fun x hx => by have := tot_in a0_9 x hx; omega) (by omega)) ?_
  rintro _ H5 ⟨v_x2, rfl, o_x2, c5, n_x2, d_x2⟩
  have l5 := c5.1
  try simp at l5
  have b5_5 := box_chg ((app_get0 _ _).trans rfl) c5 (by simp)
  have b5_1 := box_chg (get_app' b3_1 _) c5 (by simp)
  have o5_x0 := Dt.chg0 (Dt.app o3_x0) c5
  have o5_x1 := Dt.chg0 (Dt.app o_x1) c5
  have cH5 : Chg H H5 [] := (cH3.trans (Chg.app [])).trans c5
  have h_x2 := dChip.lt o_x2
  try simp at n_x2
  have one_x2 := dChip_one o_x2
  simp [VM.look, b5_1, b5_5, get_app' b5_1, get_app' b5_5, cH5.1, Nat.le_add_right_of_le cH5.1, one_x0, one_x1, one_x2, ro0_2, ro0_3, ro0_4, ro0_5, ro0_6, ro0_7, ro0_8, ro0_9, ro0_11, dChip_val, f0]
  have eq6 := fun F => eqChip_d (frz := F) o5_x1 o_x2
  try simp only [dChip_val] at eq6
  simp [eq6, VM.look, b5_1, b5_5, get_app' b5_1, get_app' b5_5, cH5.1, Nat.le_add_right_of_le cH5.1, one_x0, one_x1, one_x2, ro0_2, ro0_3, ro0_4, ro0_5, ro0_6, ro0_7, ro0_8, ro0_9, ro0_11, dChip_val, f0]
theorem law_FnExactDelivered {a0_0 : Int} {a0_1 : Int} {a0_2 : List (Int)} {u0_2 : Value} {a0_3 : List (Int)} {u0_3 : Value} {a0_4 : List (Int)} {u0_4 : Value} {a0_5 : List (List (Int × Int × Int × Bool × Bool))} {u0_5 : Value} {a0_6 : List (Int)} {u0_6 : Value} {a0_7 : List (Int)} {u0_7 : Value} {a0_8 : List (List (Int × Int × Int × Bool × Bool))} {u0_8 : Value} {a0_9 : List (List (Int × Int × Int × Bool × Bool))} {u0_9 : Value} {a0_10 : Int} {a0_11 : List (Int × Int × Int × Int × Int)} {u0_11 : Value} (s0_2 : IsS (Kn.int .i64) H u0_2 a0_2) (s0_3 : IsS (Kn.int .i64) H u0_3 a0_3) (s0_4 : IsS (Kn.int .i64) H u0_4 a0_4) (s0_5 : IsS (Kn.slice (Kn.pair (Kn.int .i64) (Kn.pair (Kn.int .i64) (Kn.pair (Kn.int .i64) (Kn.pair Kn.bool Kn.bool))))) H u0_5 a0_5) (s0_6 : IsS (Kn.int .i64) H u0_6 a0_6) (s0_7 : IsS (Kn.int .i64) H u0_7 a0_7) (s0_8 : IsS (Kn.slice (Kn.pair (Kn.int .i64) (Kn.pair (Kn.int .i64) (Kn.pair (Kn.int .i64) (Kn.pair Kn.bool Kn.bool))))) H u0_8 a0_8) (s0_9 : IsS (Kn.slice (Kn.pair (Kn.int .i64) (Kn.pair (Kn.int .i64) (Kn.pair (Kn.int .i64) (Kn.pair Kn.bool Kn.bool))))) H u0_9 a0_9) (s0_11 : IsS (Kn.pair (Kn.int .i64) (Kn.pair (Kn.int .i64) (Kn.pair (Kn.int .i64) (Kn.pair (Kn.int .i64) (Kn.int .i64))))) H u0_11 a0_11)
    (w0 : (((((Lit.int .i64 a0_0).wf = true) ∧ ((Lit.int .i64 a0_1).wf = true)) ∧ (a0_2.length ≤ maxLen ∧ ∀ x1 ∈ a0_2, (Lit.int .i64 x1).wf = true)) ∧ (((a0_3.length ≤ maxLen ∧ ∀ x2 ∈ a0_3, (Lit.int .i64 x2).wf = true)) ∧ ((a0_4.length ≤ maxLen ∧ ∀ x3 ∈ a0_4, (Lit.int .i64 x3).wf = true))) ∧ (a0_5.length ≤ maxLen ∧ ∀ x4 ∈ a0_5, x4.length ≤ maxLen ∧ ∀ x5 ∈ x4, ((Lit.int .i64 x5.1).wf = true) ∧ ((Lit.int .i64 x5.2.1).wf = true) ∧ ((Lit.int .i64 x5.2.2.1).wf = true) ∧ (True) ∧ (True)) ∧ (a0_6.length ≤ maxLen ∧ ∀ x6 ∈ a0_6, (Lit.int .i64 x6).wf = true) ∧ (a0_7.length ≤ maxLen ∧ ∀ x7 ∈ a0_7, (Lit.int .i64 x7).wf = true) ∧ (a0_8.length ≤ maxLen ∧ ∀ x8 ∈ a0_8, x8.length ≤ maxLen ∧ ∀ x9 ∈ x8, ((Lit.int .i64 x9.1).wf = true) ∧ ((Lit.int .i64 x9.2.1).wf = true) ∧ ((Lit.int .i64 x9.2.2.1).wf = true) ∧ (True) ∧ (True)) ∧ (a0_9.length ≤ maxLen ∧ ∀ x10 ∈ a0_9, x10.length ≤ maxLen ∧ ∀ x11 ∈ x10, ((Lit.int .i64 x11.1).wf = true) ∧ ((Lit.int .i64 x11.2.1).wf = true) ∧ ((Lit.int .i64 x11.2.2.1).wf = true) ∧ (True) ∧ (True)) ∧ ((Lit.int .i64 a0_10).wf = true)) ∧ (a0_11.length ≤ maxLen ∧ ∀ x12 ∈ a0_11, ((Lit.int .i64 x12.1).wf = true) ∧ ((Lit.int .i64 x12.2.1).wf = true) ∧ ((Lit.int .i64 x12.2.2.1).wf = true) ∧ ((Lit.int .i64 x12.2.2.2.1).wf = true) ∧ ((Lit.int .i64 x12.2.2.2.2).wf = true))) :
    vcall C frz 9 [.agg #[.int .i64 a0_0, .int .i64 a0_1, u0_2, u0_3, u0_4, u0_5, u0_6, u0_7, u0_8, u0_9, .int .i64 a0_10, u0_11]] H = some (.bool true, H) :=
  (law_FnExactDelivered_w s0_2 s0_3 s0_4 s0_5 s0_6 s0_7 s0_8 s0_9 s0_11 w0).exact (by simp) rfl
end Go.Proofs.Ytcigpclbhfkgaaa.V
