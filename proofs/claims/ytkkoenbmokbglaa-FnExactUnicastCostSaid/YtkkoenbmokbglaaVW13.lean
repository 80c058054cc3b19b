import Derived.Test.YtkkoenbmokbglaaVT4
/-! The law FnExactUnicastCost. -/
set_option linter.all false
namespace Go.Proofs.Ytkkoenbmokbglaa.V
open Go Go.VM Go.Proofs
set_option maxRecDepth 10000
variable {frz : Nat} {H : Heap}
theorem szTable_c (v : Value) (xs : List Int) (n : Int) (hI : IsI H v xs) (h0 : 0 ≤ n) (h1 : n ≤ 1048576) (h2 : xs.length ≤ 9223372036854775807) :
    vcall C frz 14 [.agg #[v], .int .i64 n] H = some (.int .i64 (if n < xs.length then -1 else n - xs.length), H) := by
  rw [vcall_go (fn := Try.f14) Try.func14 rfl (by kernel_rfl) rfl]
  simp [szIntS_c _ _ _ (hI.app _) h0 h1 h2, hI.one', hI.cells]
  refine br_dec _ ?_ ?_ <;> intro h <;> simp [h]
  · intro hh; omega
theorem toTable_c (v : Value) (xs : List Int) (hI : IsI H v xs) (hb : xs.length ≤ 1073741824) :
   vcall C frz 17 [.agg #[v]] H = some (.agg #[.slice (some ⟨H.length, 0, some 0⟩) xs.length 0], H ++ [⟨xs.map (.int .i64), 0, 3⟩]) := by
  rw [vcall_go (fn := Try.f17) Try.func17 rfl (by kernel_rfl) rfl]
  simp [toIntS_c _ _ (hI.app _) hb, hI.one', hI.cells]
theorem eqTable_c (a b : Value) (xs ys : List Int) (ha : IsI H a xs) (hb : IsI H b ys) (hl : xs.length ≤ 1073741824) :
   vcall C frz 21 [.agg #[a], .agg #[b]] H = some (.bool (decide (xs = ys)), H) := by
  rw [vcall_go (fn := Try.f21) Try.func21 rfl (by kernel_rfl) rfl]
  simp [ha.one', hb.one', ha.cells, hb.cells, eqIntS_c _ _ _ _ (ha.app _) (hb.app _) hl]
  refine br_dec _ ?_ ?_ <;> intro h0 <;> simp [h0]
theorem law_FnExactUnicastCost {w h r : Int} {b T ts : List Int} {v u s : Value} (h1 : IsS (Kn.int .i64) H v b) (h2 : IsS (Kn.int .i64) H u T) (h3 : IsS (Kn.int .i64) H s ts)
    (w0 : ((Lit.int .i64 w).wf = true ∧ (Lit.int .i64 h).wf = true) ∧ (b.length ≤ maxLen ∧ ∀ x ∈ b, (Lit.int .i64 x).wf = true)) (w1 : T.length ≤ maxLen ∧ ∀ x ∈ T, (Lit.int .i64 x).wf = true) (w2 : (Lit.int .i64 r).wf = true)
    (w3 : ts.length ≤ maxLen ∧ ∀ x ∈ ts, (Lit.int .i64 x).wf = true) :
    vcall C frz 3 [.agg #[.int .i64 w, .int .i64 h, v], .agg #[u], .int .i64 r, s] H = some (.bool true, H) := by
  have hI := h1.ints
  have hT := h2.ints
  have hS := h3.ints
  have hl : b.length ≤ 9223372036854775807 := w0.2.1
  have hl' : T.length ≤ 9223372036854775807 := w1.1
  have hl2 : ts.length ≤ 9223372036854775807 := w3.1
  rw [vcall_go (fn := Try.f3) Try.func3 rfl (by kernel_rfl) rfl]
  simp [hI.one', hI.cells, hT.one', hT.cells, hS.lenA]
  refine br_dec _ ?_ ?_ <;> intro g1 <;> simp [g1]
  have sz := fun F L => szMesh_c (frz := F) w h v b 1048576 (hI.app L) (by omega) (by omega) hl
  simp [sz]
  refine br_dec _ ?_ ?_ <;> intro g2 <;> simp [g2]
  have sz' := fun F L => szTable_c (frz := F) u T (if (1048576 : Int) < b.length then -1 else 1048576 - b.length) (hT.app L) (by split <;> omega) (by split <;> omega) hl'
  simp [hT.one', hT.cells, sz']
  refine br_dec _ ?_ ?_ <;> intro g3 <;> simp [g3]
  have hb : b.length ≤ 1073741824 := by omega
  have ht : T.length ≤ 1073741824 := by split at g3 <;> omega
  have hc : ts.length ≤ 1073741824 := by omega
  have tm := fun (F : Nat) (L : Heap) => toMesh_c (frz := F) w h v b (hI.app L) hb
  have tt := fun (F : Nat) (L : Heap) => toTable_c (frz := F) u T (hT.app L) ht
  have ti := fun (F : Nat) (L : Heap) => toIntS_c (frz := F) s ts (hS.app L) hc
  have one := And.intro hI.one' (And.intro hI.cells (And.intro hT.one' hT.cells))
  rw [go_draw (h := by kernel_rfl)]
  simp [tm, tt, ti, one]
  rw [sUnicast_c w h _ _ _ b T ts r ?s1 ?s2 ?s3 hb hc]
  case s1 => exact IsI.at (by simp; rfl)
  case s2 => exact IsI.at (by simp; rfl)
  case s3 => exact IsI.at (by simp; rfl)
  simp [tm, tt, ti, one]
  rw [unicast_c w h _ _ _ b T ts r ?s4 ?s5 ?s6 hb hc]
  case s4 => exact IsI.at (by simp; rfl)
  case s5 => exact IsI.at (by simp; rfl)
  case s6 => exact IsI.at (by simp; rfl)
  simp [tm, tt, ti, one]
  rw [go_draw (h := by kernel_rfl)]
  simp [tm, tt, ti, one]
  rw [eqMesh_c w h w h _ _ b b ?s7 ?s8 hb]
  case s7 => exact IsI.at (by simp; rfl)
  case s8 => exact IsI.at (by simp; rfl)
  simp [tm, tt, ti, one]
  rw [go_draw (h := by kernel_rfl)]
  simp [tm, tt, ti, one]
  rw [eqTable_c _ _ T T ?s9 ?s10 ht]
  case s9 => exact IsI.at (by simp; rfl)
  case s10 => exact IsI.at (by simp; rfl)
  simp [tm, tt, ti, one]
  rw [eqIntS_c _ _ ts ts ?s11 ?s12 hc]
  case s11 => exact IsI.at (by simp; rfl)
  case s12 => exact IsI.at (by simp; rfl)
  simp
end Go.Proofs.Ytkkoenbmokbglaa.V
