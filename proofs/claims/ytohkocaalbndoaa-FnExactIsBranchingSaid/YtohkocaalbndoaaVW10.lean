import Derived.Test.YtohkocaalbndoaaVG7
import Derived.Test.YtohkocaalbndoaaVM22
/-! The law FnExactIsBranching. -/
set_option linter.all false
namespace Go.Proofs.Ytohkocaalbndoaa.V
open Go Go.VM Go.Proofs
set_option maxRecDepth 10000
variable {frz : Nat} {H : Heap}
theorem law_c (w h : Int) (v u : Value) (b cs : List Int) (r : Int) (hI : IsI H v b) (hU : IsI H u cs) (hl : b.length ≤ 9223372036854775807) (hl' : cs.length ≤ 9223372036854775807) :
   vcall C frz 10 [.agg #[.int .i64 w, .int .i64 h, v], u, .int .i64 r] H = some (.bool true, H) := by
  rw [vcall_go (fn := Try.f10) Try.func10 rfl (by kernel_rfl) rfl]
  simp [hI.one', hI.cells, hU.lenA, hU.len]
  refine br_dec _ ?_ ?_ <;> intro h1 <;> simp [h1]
  have sz := szMesh_c (frz := H.length) w h v b 1048576 (hI.app [⟨[.int .i64 w, .int .i64 h, v], 0, 50⟩]) (by omega) (by omega) hl
  simp [sz]
  refine br_dec _ ?_ ?_ <;> intro h2 <;> simp [h2]
  have hb : b.length ≤ 1073741824 := by omega
  have hc : cs.length ≤ 1073741823 := by omega
  have tm := fun (F : Nat) (L : Heap) => toMesh_c (frz := F) w h v b (hI.app L) hb
  have ti := fun (F : Nat) (L : Heap) => toIntS_c (frz := F) u cs (hU.app L) (by omega)
  simp [tm, ti]
  rw [sBranching_c w h _ _ b cs r ?s1 ?s2 hb (by omega)]
  case s1 => exact IsI.at (by simp; rfl)
  case s2 => exact IsI.at (by simp; rfl)
  simp [tm, ti]
  rw [branching_c w h _ _ b cs r ?s3 ?s4 hb hc]
  case s3 => exact IsI.at (by simp; rfl)
  case s4 => exact IsI.at (by simp; rfl)
  simp [tm, ti, vbin_bne, vbin_beq]
  rw [go_draw (h := by kernel_rfl)]
  simp [tm, ti]
  rw [eqMesh_c w h w h _ _ b b ?s5 ?s6 hb]
  case s5 => exact IsI.at (by simp; rfl)
  case s6 => exact IsI.at (by simp; rfl)
  simp [tm, ti]
  rw [eqIntS_c _ _ cs cs ?s7 ?s8 (by omega)]
  case s7 => exact IsI.at (by simp; rfl)
  case s8 => exact IsI.at (by simp; rfl)
  simp
theorem law_FnExactIsBranching {w h r : Int} {b cs : List Int} {v u : Value} (h1 : IsS (Kn.int .i64) H v b) (h2 : IsS (Kn.int .i64) H u cs)
    (w0 : ((Lit.int .i64 w).wf = true ∧ (Lit.int .i64 h).wf = true) ∧ (b.length ≤ maxLen ∧ ∀ x ∈ b, (Lit.int .i64 x).wf = true)) (w1 : cs.length ≤ maxLen ∧ ∀ x ∈ cs, (Lit.int .i64 x).wf = true) (w2 : (Lit.int .i64 r).wf = true) :
    vcall C frz 10 [.agg #[.int .i64 w, .int .i64 h, v], u, .int .i64 r] H = some (.bool true, H) :=
  law_c w h v u b cs r h1.ints h2.ints w0.2.1 w1.1
end Go.Proofs.Ytohkocaalbndoaa.V
