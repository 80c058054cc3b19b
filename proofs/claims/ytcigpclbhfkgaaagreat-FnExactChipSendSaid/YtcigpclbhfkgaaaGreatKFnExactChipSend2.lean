/- Texts of a proof, joined. -/
import Derived.Test.YtcigpclbhfkgaaaGreatKM0
import Derived.Test.YtcigpclbhfkgaaaGreatKM1
import Derived.Test.YtcigpclbhfkgaaaGreatKFnExactChipSend0
import Derived.Test.YtcigpclbhfkgaaaGreatKFnExactChipSend1
/-! Whole packets of flits. -/
set_option linter.all false
namespace Go.Proofs.YtcigpclbhfkgaaaGreat.V
open Go Go.VM Go.Proofs
set_option maxRecDepth 10000
variable {frz : Nat} {H : Heap}
def flit0 : FlitD := (0, 0, 0, false, false)
/-- flit i of a packet whose first flit is known -/
def wholeAt (l : List FlitD) (i : Nat) : FlitD := ((l.getD 0 flit0).1, (l.getD 0 flit0).2.1, (l.getD 0 flit0).2.2.1, decide ((i : Int) = 0), decide ((i : Int) = (l.length : Int) - 1))
def whole (l : List FlitD) : Prop := (∀ i, i < l.length → l.getD i flit0 = wholeAt l i) ∧ 0 < l.length
instance (l : List FlitD) : Decidable (whole l) := inferInstanceAs (Decidable (_ ∧ _))
theorem cseq_flit (a b c a' b' c' : Int) (d e d' e' : Bool) : cseq [0, 0, 0, 1, 1] [.int .i64 a, .int .i64 b, .int .i64 c, .bool d, .bool e] [.int .i64 a', .int .i64 b', .int .i64 c', .bool d', .bool e'] = some (decide (((a, b, c, d, e) : FlitD) = (a', b', c', d', e'))) :=
  cseq_flF (a, b, c, d, e) (a', b', c', d', e')
theorem isWhole_c (v : Value) (xs : List FlitD) (hI : Rd flF H v xs) (hl : xs.length ≤ 1073741824) :
   vcall C frz 229 [v] H = some (.bool (decide (whole xs)), H) := by
  refine wp.exact (by simp) ?_ rfl
  rw [vcall_go (fn := Tryz.f229) Tryz.func229 rfl (by kernel_rfl) rfl]
  generalize hY : decide (whole xs) = Y
  have no : ¬ whole xs → Y = false := fun hh => by rw [← hY]; exact decide_eq_false hh
  simp [hI.len (P := Tryz.prog) (ty := 113) (by simp)]
  refine wp_inv (fun n t H' => ∃ i : Nat, n = xs.length - i ∧ i ≤ xs.length ∧ t 0 = v ∧ t 5 = v ∧ t 6 = .int .i64 xs.length ∧ t 7 = .int .i64 i ∧ Chg H H' [] ∧ ∀ j, j < i → xs.getD j flit0 = wholeAt xs j) ?_ (n := xs.length)
    ⟨0, rfl, by omega, by simp, by simp, by simp, by simp, Chg.refl _, by omega⟩
  rintro n t H' ⟨i, rfl, hi, t0, t5, t6, t7, c, hk⟩ ih
  simp [t0, t5, t6, t7]
  refine wp_dec ?_ ?_ <;> intro g
  · have hi' : i < xs.length := by omega
    have h0 : 0 < xs.length := by omega
    have rd := hI.chg c (by simp)
    have q1 := rd.idx (P := Tryz.prog) (ty := 113) (e := 157) (by simp) (i := (i : Int)) (by omega) (by omega)
    have q2 := rd.load (P := Tryz.prog) (e := 157) (by simp) hi'
    have rd2 := fun (r : Row) => (rd.app (L := [r]))
    have z0 := fun (r : Row) => (rd2 r).idx (P := Tryz.prog) (ty := 113) (e := 157) (by simp) (i := 0) (by omega) (by omega)
    have zl := fun (r : Row) => (rd2 r).len (P := Tryz.prog) (ty := 113) (by simp)
    have f0 := fun (r : Row) => (rd2 r).field (P := Tryz.prog) (s := 157) (f := 0) (o := 0) (n := 1) (ag := false) (by simp) (j := 0) h0
    have f1 := fun (r : Row) => (rd2 r).field (P := Tryz.prog) (s := 157) (f := 1) (o := 1) (n := 1) (ag := false) (by simp) (j := 0) h0
    have f2 := fun (r : Row) => (rd2 r).field (P := Tryz.prog) (s := 157) (f := 2) (o := 2) (n := 1) (ag := false) (by simp) (j := 0) h0
    have c0 := fun (r : Row) => (rd2 r).cell (P := Tryz.prog) (e := 3) (by simp) h0 (c := 0) (by decide)
    have c1 := fun (r : Row) => (rd2 r).cell (P := Tryz.prog) (e := 3) (by simp) h0 (c := 1) (by decide)
    have c2 := fun (r : Row) => (rd2 r).cell (P := Tryz.prog) (e := 3) (by simp) h0 (c := 2) (by decide)
    simp only [Int.toNat_natCast, flF_n, Int.toNat_zero, Nat.zero_mul, Nat.zero_add, Nat.add_zero] at q1 q2 z0 f0 f1 f2 c0 c1 c2
    simp only [flF_f] at c0 c1 c2
    simp at c0 c1 c2
    have hw : ∀ [Inhabited Unit], IntKind.i64.wrap ((xs.length : Int) - 1) = (xs.length : Int) - 1 := by intro _; exact w64 (by omega) (by omega)
    have hF : H.length ≤ H'.length := c.1
    have hg0 : xs.getD 0 flit0 = xs[0] := by simp [List.getD_eq_getElem?_getD, h0]
    have hgi : xs.getD i flit0 = xs[i] := by simp [List.getD_eq_getElem?_getD, hi']
    have hwt : wholeAt xs i = (xs[0].1, xs[0].2.1, xs[0].2.2.1, decide ((i : Int) = 0), decide ((i : Int) = (xs.length : Int) - 1)) := by unfold wholeAt; rw [hg0]
    obtain ⟨p, hp⟩ : ∃ p, p = xs[i] := ⟨_, rfl⟩
    obtain ⟨z, hz⟩ : ∃ z, z = xs[0] := ⟨_, rfl⟩
    rw [← hp] at q2 hgi
    rw [← hz] at c0 c1 c2 hwt
    obtain ⟨B1, hB1⟩ : ∃ B, B = decide ((i : Int) = 0) := ⟨_, rfl⟩
    obtain ⟨B2, hB2⟩ : ∃ B, B = decide ((i : Int) = (xs.length : Int) - 1) := ⟨_, rfl⟩
    rw [← hB1, ← hB2] at hwt
    have e1 : ∀ [Inhabited Unit], decide ((i : Int) = 0) = B1 := by intro _; exact hB1.symm
    have e1' : ∀ [Inhabited Unit], decide (i = 0) = B1 := by intro _; rw [hB1]; congr 1; simp
    have e2 : ∀ [Inhabited Unit], decide ((i : Int) = (xs.length : Int) - 1) = B2 := by intro _; exact hB2.symm
    simp [t0, t5, t6, t7, q1, q2, flF_f, hF]
    rw [go_draw (h := by kernel_rfl)]
    simp [-vfieldAddr, vfa_ptr, VM.look, t0, t5, t6, t7, z0, zl, f0, f1, f2, c0, c1, c2, hw, e1, e1', e2, cseq_flit, -cseq, -Prod.mk.injEq]
    have hdec : (((p.1, p.2.1, p.2.2.1, p.2.2.2.1, p.2.2.2.2) : FlitD) = (z.1, z.2.1, z.2.2.1, B1, B2)) ↔ xs.getD i flit0 = wholeAt xs i := by rw [hgi, hwt]
    by_cases g2 : xs.getD i flit0 = wholeAt xs i
    · have g3 := hdec.2 g2
      rw [decide_eq_true g3]
      simp [t0, t5, t6, t7]
      refine ih (xs.length - (i + 1)) _ _ ⟨i + 1, rfl, by omega, by simp [t0], by simp [t5], by simp [t6], ?_, c.trans (Chg.app _), fun j hj => ?_⟩ (by omega)
      · simp; rw [w64 (by omega) (by omega)]
      · by_cases hji : j < i
        · exact hk j hji
        · have : j = i := by omega
          subst this; exact g2
    · have g3 : ¬ ((p.1, p.2.1, p.2.2.1, p.2.2.2.1, p.2.2.2.2) : FlitD) = (z.1, z.2.1, z.2.2.1, B1, B2) := fun hh => g2 (hdec.1 hh)
      rw [decide_eq_false g3]
      simp [t0, t5, t6, t7]
      exact no (fun hh => g2 (hh.1 i hi'))
  · have : i = xs.length := by omega
    subst this
    have ll := (hI.chg c (by simp)).len (P := Tryz.prog) (ty := 113) (by simp)
    simp [t0, t5, t6, t7, ll]
    rw [← hY]; exact decide_eq_decide.2 ⟨fun h0 => ⟨hk, h0⟩, fun k => k.2⟩
end Go.Proofs.YtcigpclbhfkgaaaGreat.V
/-! Whole packets: the reference. -/
set_option linter.all false
namespace Go.Proofs.YtcigpclbhfkgaaaGreat.V
open Go Go.VM Go.Proofs
set_option maxRecDepth 10000
variable {frz : Nat} {H : Heap}
theorem sIsWhole_c (v : Value) (xs : List FlitD) (hI : Rd flF H v xs) (hl : xs.length ≤ 1073741824) :
   vcall C frz 225 [v] H = some (.bool (decide (whole xs)), H) := by
  refine wp.exact (by simp) ?_ rfl
  rw [vcall_go (fn := Tryz.f225) Tryz.func225 rfl (by kernel_rfl) rfl]
  generalize hY : decide (whole xs) = Y
  have no : ¬ whole xs → Y = false := fun hh => by rw [← hY]; exact decide_eq_false hh
  simp
  refine wp_inv (fun n t H' => ∃ i : Nat, n = xs.length - i ∧ i ≤ xs.length ∧ t 0 = v ∧ t 3 = .int .i64 i ∧ Chg H H' [] ∧ ∀ j, j < i → xs.getD j flit0 = wholeAt xs j) ?_ (n := xs.length)
    ⟨0, rfl, by omega, by simp, by simp, Chg.refl _, by omega⟩
  rintro n t H' ⟨i, rfl, hi, t0, t3, c, hk⟩ ih
  have ll := (hI.chg c (by simp)).len (P := Tryz.prog) (ty := 113) (by simp)
  simp [t0, t3, ll]
  refine wp_dec ?_ ?_ <;> intro g
  · have hi' : i < xs.length := by omega
    have h0 : 0 < xs.length := by omega
    have rd := hI.chg c (by simp)
    have q1 := rd.idx (P := Tryz.prog) (ty := 113) (e := 157) (by simp) (i := (i : Int)) (by omega) (by omega)
    have q2 := rd.load (P := Tryz.prog) (e := 157) (by simp) hi'
    have rd2 := fun (r : Row) => (rd.app (L := [r]))
    have z0 := fun (r : Row) => (rd2 r).idx (P := Tryz.prog) (ty := 113) (e := 157) (by simp) (i := 0) (by omega) (by omega)
    have zl := fun (r : Row) => (rd2 r).len (P := Tryz.prog) (ty := 113) (by simp)
    have f0 := fun (r : Row) => (rd2 r).field (P := Tryz.prog) (s := 157) (f := 0) (o := 0) (n := 1) (ag := false) (by simp) (j := 0) h0
    have f1 := fun (r : Row) => (rd2 r).field (P := Tryz.prog) (s := 157) (f := 1) (o := 1) (n := 1) (ag := false) (by simp) (j := 0) h0
    have f2 := fun (r : Row) => (rd2 r).field (P := Tryz.prog) (s := 157) (f := 2) (o := 2) (n := 1) (ag := false) (by simp) (j := 0) h0
    have c0 := fun (r : Row) => (rd2 r).cell (P := Tryz.prog) (e := 3) (by simp) h0 (c := 0) (by decide)
    have c1 := fun (r : Row) => (rd2 r).cell (P := Tryz.prog) (e := 3) (by simp) h0 (c := 1) (by decide)
    have c2 := fun (r : Row) => (rd2 r).cell (P := Tryz.prog) (e := 3) (by simp) h0 (c := 2) (by decide)
    simp only [Int.toNat_natCast, flF_n, Int.toNat_zero, Nat.zero_mul, Nat.zero_add, Nat.add_zero] at q1 q2 z0 f0 f1 f2 c0 c1 c2
    simp only [flF_f] at c0 c1 c2
    simp at c0 c1 c2
    have hw : ∀ [Inhabited Unit], IntKind.i64.wrap ((xs.length : Int) - 1) = (xs.length : Int) - 1 := by intro _; exact w64 (by omega) (by omega)
    have hF : H.length ≤ H'.length := c.1
    have hg0 : xs.getD 0 flit0 = xs[0] := by simp [List.getD_eq_getElem?_getD, h0]
    have hgi : xs.getD i flit0 = xs[i] := by simp [List.getD_eq_getElem?_getD, hi']
    have hwt : wholeAt xs i = (xs[0].1, xs[0].2.1, xs[0].2.2.1, decide ((i : Int) = 0), decide ((i : Int) = (xs.length : Int) - 1)) := by unfold wholeAt; rw [hg0]
    obtain ⟨p, hp⟩ : ∃ p, p = xs[i] := ⟨_, rfl⟩
    obtain ⟨z, hz⟩ : ∃ z, z = xs[0] := ⟨_, rfl⟩
    rw [← hp] at q2 hgi
    rw [← hz] at c0 c1 c2 hwt
    obtain ⟨B1, hB1⟩ : ∃ B, B = decide ((i : Int) = 0) := ⟨_, rfl⟩
    obtain ⟨B2, hB2⟩ : ∃ B, B = decide ((i : Int) = (xs.length : Int) - 1) := ⟨_, rfl⟩
    rw [← hB1, ← hB2] at hwt
    have e1 : ∀ [Inhabited Unit], decide ((i : Int) = 0) = B1 := by intro _; exact hB1.symm
    have e1' : ∀ [Inhabited Unit], decide (i = 0) = B1 := by intro _; rw [hB1]; congr 1; simp
    have e2 : ∀ [Inhabited Unit], decide ((i : Int) = (xs.length : Int) - 1) = B2 := by intro _; exact hB2.symm
    simp [t0, t3, q1, q2, flF_f, hF]
    rw [go_draw (h := by kernel_rfl)]
    have hcmp : xs.getD i flit0 = wholeAt xs i ↔ p.1 = z.1 ∧ p.2.1 = z.2.1 ∧ p.2.2.1 = z.2.2.1 ∧ p.2.2.2.1 = B1 ∧ p.2.2.2.2 = B2 := by
      rw [hgi, hwt]; obtain ⟨_, _, _, _, _⟩ := p; simp
    have bad : ¬ (p.1 = z.1 ∧ p.2.1 = z.2.1 ∧ p.2.2.1 = z.2.2.1 ∧ p.2.2.2.1 = B1 ∧ p.2.2.2.2 = B2) → Y = false := fun hh => no (fun k => hh (hcmp.1 (k.1 i hi')))
    obtain ⟨p1, p2, p3, p4, p5⟩ := p
    simp only at hcmp bad
    simp [-vfieldAddr, vfa_ptr, VM.look, t0, t3, z0, zl, f0, f1, f2, c0, c1, c2, hw, e1, e1', e2]
    by_cases g1 : p1 = z.1
    rotate_left
    · simp [t0, t3, g1]; exact bad (fun k => g1 k.1)
    simp [-vfieldAddr, vfa_ptr, VM.look, t0, t3, z0, zl, f0, f1, f2, c0, c1, c2, hw, e1, e1', e2, g1]
    by_cases g2 : p2 = z.2.1
    rotate_left
    · simp [t0, t3, g2]; exact bad (fun k => g2 k.2.1)
    simp [-vfieldAddr, vfa_ptr, VM.look, t0, t3, z0, zl, f0, f1, f2, c0, c1, c2, hw, e1, e1', e2, g1, g2]
    by_cases g3 : p3 = z.2.2.1
    rotate_left
    · simp [t0, t3, g3]; exact bad (fun k => g3 k.2.2.1)
    simp [-vfieldAddr, vfa_ptr, VM.look, t0, t3, z0, zl, f0, f1, f2, c0, c1, c2, hw, e1, e1', e2, g1, g2, g3]
    by_cases g4 : p4 = B1
    rotate_left
    · have g4' : (p4 != B1) = true := bne_iff_ne.2 g4
      simp [t0, t3, g4']; exact bad (fun k => g4 k.2.2.2.1)
    simp [-vfieldAddr, vfa_ptr, VM.look, t0, t3, z0, zl, f0, f1, f2, c0, c1, c2, hw, e1, e1', e2, g1, g2, g3, g4]
    by_cases g5 : p5 = B2
    rotate_left
    · have g5' : (p5 != B2) = true := bne_iff_ne.2 g5
      simp [t0, t3, g5']; exact bad (fun k => g5 k.2.2.2.2)
    have g6 := hcmp.2 ⟨g1, g2, g3, g4, g5⟩
    simp [t0, t3, g5]
    refine ih (xs.length - (i + 1)) _ _ ⟨i + 1, rfl, by omega, by simp [t0], ?_, c.trans (Chg.app _), fun j hj => ?_⟩ (by omega)
    · simp; rw [w64 (by omega) (by omega)]
    · by_cases hji : j < i
      · exact hk j hji
      · have : j = i := by omega
        subst this; exact g6
  · have : i = xs.length := by omega
    subst this
    simp [t0, t3, ll]
    rw [← hY]; exact decide_eq_decide.2 ⟨fun h0 => ⟨hk, h0⟩, fun k => k.2⟩
end Go.Proofs.YtcigpclbhfkgaaaGreat.V
/-! Whole packets one behind the other. -/
set_option linter.all false
namespace Go.Proofs.YtcigpclbhfkgaaaGreat.V
open Go Go.VM Go.Proofs
set_option maxRecDepth 10000
variable {frz : Nat} {H : Heap}
def part (l : List FlitD) (f i : Nat) : List FlitD := (l.drop f).take (i + 1 - f)
/-- the packets in the first flits, and where the next begins -/
def wpk (l : List FlitD) : Nat → List Int × Nat
  | 0 => ([], 0)
  | i + 1 => if whole (part l (wpk l i).2 i) then ((wpk l i).1 ++ [(l.getD (wpk l i).2 flit0).1], i + 1) else wpk l i
def wholePk (l : List FlitD) : List Int := if (wpk l l.length).2 < l.length then [] else (wpk l l.length).1
theorem wpk_le (l : List FlitD) : ∀ i, (wpk l i).2 ≤ i ∧ (wpk l i).1.length ≤ i
  | 0 => by simp [wpk]
  | i + 1 => by
    have := wpk_le l i
    simp only [wpk]; split
    · simp; omega
    · omega
theorem part_get {l : List FlitD} {f i : Nat} (hf : f ≤ i) (hi : i < l.length) {j : Nat} (hj : j + f ≤ i) : (part l f i).getD j flit0 = l.getD (f + j) flit0 := by
  unfold part
  simp only [List.getD_eq_getElem?_getD]
  rw [List.getElem?_take, if_pos (by omega), List.getElem?_drop]
theorem part_len {l : List FlitD} {f i : Nat} (hf : f ≤ i) (hi : i < l.length) : (part l f i).length = i + 1 - f := by unfold part; simp; omega
theorem whole_same {l : List FlitD} {f i : Nat} (hf : f ≤ i) (hi : i < l.length) (h : whole (part l f i)) : (l.getD i flit0).1 = (l.getD f flit0).1 := by
  have h1 := h.1 (i - f) (by rw [part_len hf hi]; omega)
  rw [part_get hf hi (by omega)] at h1
  rw [show f + (i - f) = i by omega] at h1
  rw [h1]
  unfold wholeAt
  rw [part_get hf hi (by omega)]; rfl
/-- numbers in new rows, and a flag -/
def IntsOk (H : Heap) (xs : List Int) (r : Value) (H' : Heap) : Prop := ∃ u ok, r = .tuple #[u, .bool ok] ∧ Ow Fl.int 3 H' u xs ∧ (∀ i ∈ ids u, H.length ≤ i) ∧ Chg H H' []
theorem wholePackets_w (v : Value) (l : List FlitD) (o : Ow flF 157 H v l) (hl : l.length ≤ 67108864) :
   wp (vcall C frz 185 [v] H) (IntsOk H (wholePk l)) := by
  rw [vcall_go (fn := Tryz.f185) Tryz.func185 rfl (by kernel_rfl) rfl]
  simp
  refine wp_inv (fun n t H' => ∃ (i : Nat) (out : Value), n = l.length - i ∧ i ≤ l.length ∧ t 0 = v ∧ t 4 = out ∧ t 5 = .int .i64 (wpk l i).2 ∧ t 6 = .int .i64 ((i : Int) + 1) ∧ Chg H H' [] ∧ Ow Fl.int 3 H' out (wpk l i).1 ∧ (∀ j ∈ ids out, H.length ≤ j)) ?_ (n := l.length)
    ⟨0, .slice (some ⟨H.length, 0, some 0⟩) 0 0, rfl, by omega, by simp, by simp, by simp [wpk], by simp, Chg.app _, Ow.new0 (D := Fl.int) (xs := []) rfl rfl rfl rfl, by simp⟩
  rintro n t H' ⟨i, out, rfl, hi, t0, t4, t5, t6, c, oo, no⟩ ih
  have ov := o.chg c (by simp)
  have ll := ov.rd.len (P := Tryz.prog) (ty := 113) (by simp)
  obtain ⟨wle, wll⟩ := wpk_le l i
  have hF : H.length ≤ H'.length := c.1
  simp [t0, t4, t5, t6, ll]
  refine wp_dec ?_ ?_ <;> intro g
  · have hi' : i < l.length := by omega
    obtain ⟨f, hf⟩ : ∃ f, f = (wpk l i).2 := ⟨_, rfl⟩
    have hwp : wpk l (i + 1) = if whole (part l f i) then ((wpk l i).1 ++ [(l.getD f flit0).1], i + 1) else wpk l i := by rw [hf]; rfl
    rw [← hf] at t5 wle
    have e1 : ∀ [Inhabited Unit], IntKind.i64.wrap ((i : Int) + 1) = (i : Int) + 1 := by intro _; exact w64 (by omega) (by omega)
    have e2 : ∀ [Inhabited Unit], IntKind.i64.wrap ((i : Int) + 1 + 1) = ((i + 1 : Nat) : Int) + 1 := by intro _; rw [w64 (by omega) (by omega)]; omega
    obtain ⟨s, hs, os, ids_s⟩ := ov.slice (P := Tryz.prog) (ty := 113) (by simp) (lo := some (.int .i64 (f : Int))) (hi := some (.int .i64 ((i : Int) + 1))) (l := f) (u := i + 1) rfl rfl (by omega) (by omega)
    have iw := fun F => isWhole_c (frz := F) (H := H') s (part l f i) os.rd (by rw [part_len wle hi']; omega)
    have hfl : f < l.length := by omega
    have q1 := ov.rd.idx (P := Tryz.prog) (ty := 113) (e := 157) (by simp) (i := (f : Int)) (by omega) (by omega)
    have q2 := ov.rd.field (P := Tryz.prog) (s := 157) (f := 0) (o := 0) (n := 1) (ag := false) (by simp) (j := f * 5) (by omega)
    have q3 := ov.rd.cell (P := Tryz.prog) (e := 3) (by simp) hfl (c := 0) (by decide)
    simp only [Int.toNat_natCast, flF_n, Nat.add_zero] at q1 q2 q3
    simp only [flF_f] at q3
    simp at q3
    simp [t0, t4, t5, t6, e1, hs, iw]
    refine wp_dec ?_ ?_ <;> intro g2
    · obtain ⟨out', H2, hap, o2, c2, n2⟩ := oo.push (P := Tryz.prog) (frz := H.length) (ty := 24) (a := l[f].1) (by simp) rfl (by omega) no
      simp only [Fl.int_f] at hap
      have l2 := c2.1
      have hsame := whole_same wle hi' g2
      have hgf : l.getD f flit0 = l[f] := by simp [List.getD_eq_getElem?_getD, hfl]
      have hgi : l.getD i flit0 = l[i] := by simp [List.getD_eq_getElem?_getD, hi']
      rw [hgf, hgi] at hsame
      rw [if_pos g2, hgf] at hwp
      simp [-vfieldAddr, vfa_ptr, t0, t4, t5, t6, q1, q2, q3, hap, e1]
      refine ih (l.length - (i + 1)) _ _ ⟨i + 1, out', rfl, by omega, by simp [t0], by simp, by simp [hwp], by simp [e2], c.trans' c2 (fun j hj => .inr (no j hj)), ?_, fun j hj => ?_⟩ (by omega)
      · rw [hwp]; exact o2
      · rcases n2 j hj with h1 | h1
        · exact no j h1
        · omega
    · rw [if_neg g2] at hwp
      simp [t0, t4, t5, t6]
      refine ih (l.length - (i + 1)) _ _ ⟨i + 1, out, rfl, by omega, by simp [t0], by simp [t4], by rw [hwp, ← hf]; simp [t5], by simp [e2], c, by rw [hwp]; exact oo, no⟩ (by omega)
  · have : i = l.length := by omega
    subst this
    simp [t0, t4, t5, t6, ll]
    refine wp_dec ?_ ?_ <;> intro g2
    · have hz : wholePk l = [] := if_pos (by omega)
      simp [t0, t4, t5, t6]
      exact ⟨.slice none 0 0, false, rfl, by rw [hz]; exact .inl ⟨rfl, rfl⟩, by simp, c⟩
    · have hz : wholePk l = (wpk l l.length).1 := if_neg (by omega)
      simp [t0, t4, t5, t6]
      exact ⟨out, true, rfl, by rw [hz]; exact oo, no, c⟩
theorem sWholePackets_w (v : Value) (l : List FlitD) (o : Ow flF 157 H v l) (hl : l.length ≤ 67108864) :
   wp (vcall C frz 182 [v] H) (IntsOk H (wholePk l)) := by
  rw [vcall_go (fn := Tryz.f182) Tryz.func182 rfl (by kernel_rfl) rfl]
  simp
  refine wp_inv (fun n t H' => ∃ (i : Nat) (out : Value), n = l.length - i ∧ i ≤ l.length ∧ t 0 = v ∧ t 4 = out ∧ t 5 = .int .i64 (wpk l i).2 ∧ t 6 = .int .i64 i ∧ Chg H H' [] ∧ Ow Fl.int 3 H' out (wpk l i).1 ∧ (∀ j ∈ ids out, H.length ≤ j)) ?_ (n := l.length)
    ⟨0, .slice (some ⟨H.length, 0, some 0⟩) 0 0, rfl, by omega, by simp, by simp, by simp [wpk], by simp, Chg.app _, Ow.new0 (D := Fl.int) (xs := []) rfl rfl rfl rfl, by simp⟩
  rintro n t H' ⟨i, out, rfl, hi, t0, t4, t5, t6, c, oo, no⟩ ih
  have ov := o.chg c (by simp)
  have ll := ov.rd.len (P := Tryz.prog) (ty := 113) (by simp)
  obtain ⟨wle, wll⟩ := wpk_le l i
  have hF : H.length ≤ H'.length := c.1
  simp [t0, t4, t5, t6, ll]
  refine wp_dec ?_ ?_ <;> intro g
  · have hi' : i < l.length := by omega
    obtain ⟨f, hf⟩ : ∃ f, f = (wpk l i).2 := ⟨_, rfl⟩
    have hwp : wpk l (i + 1) = if whole (part l f i) then ((wpk l i).1 ++ [(l.getD f flit0).1], i + 1) else wpk l i := by rw [hf]; rfl
    rw [← hf] at t5 wle
    have e1 : ∀ [Inhabited Unit], IntKind.i64.wrap ((i : Int) + 1) = (i : Int) + 1 := by intro _; exact w64 (by omega) (by omega)
    have e2 : ∀ [Inhabited Unit], IntKind.i64.wrap ((i : Int) + 1 + 1) = ((i + 1 : Nat) : Int) + 1 := by intro _; rw [w64 (by omega) (by omega)]; omega
    obtain ⟨s, hs, os, ids_s⟩ := ov.slice (P := Tryz.prog) (ty := 113) (by simp) (lo := some (.int .i64 (f : Int))) (hi := some (.int .i64 ((i : Int) + 1))) (l := f) (u := i + 1) rfl rfl (by omega) (by omega)
    have iw := fun F => sIsWhole_c (frz := F) (H := H') s (part l f i) os.rd (by rw [part_len wle hi']; omega)
    have hfl : f < l.length := by omega
    have q1 := ov.rd.idx (P := Tryz.prog) (ty := 113) (e := 157) (by simp) (i := (i : Int)) (by omega) (by omega)
    have q2 := ov.rd.field (P := Tryz.prog) (s := 157) (f := 0) (o := 0) (n := 1) (ag := false) (by simp) (j := i * 5) (by omega)
    have q3 := ov.rd.cell (P := Tryz.prog) (e := 3) (by simp) hi' (c := 0) (by decide)
    simp only [Int.toNat_natCast, flF_n, Nat.add_zero] at q1 q2 q3
    simp only [flF_f] at q3
    simp at q3
    simp [t0, t4, t5, t6, e1, hs, iw]
    refine wp_dec ?_ ?_ <;> intro g2
    · obtain ⟨out', H2, hap, o2, c2, n2⟩ := oo.push (P := Tryz.prog) (frz := H.length) (ty := 24) (a := l[i].1) (by simp) rfl (by omega) no
      simp only [Fl.int_f] at hap
      have l2 := c2.1
      have hsame := whole_same wle hi' g2
      have hgf : l.getD f flit0 = l[f] := by simp [List.getD_eq_getElem?_getD, hfl]
      have hgi : l.getD i flit0 = l[i] := by simp [List.getD_eq_getElem?_getD, hi']
      rw [hgf, hgi] at hsame
      rw [if_pos g2, hgf] at hwp
      simp [-vfieldAddr, vfa_ptr, t0, t4, t5, t6, q1, q2, q3, hap, e1]
      refine ih (l.length - (i + 1)) _ _ ⟨i + 1, out', rfl, by omega, by simp [t0], by simp, by simp [hwp], by simp, c.trans' c2 (fun j hj => .inr (no j hj)), ?_, fun j hj => ?_⟩ (by omega)
      · rw [hwp]; rw [hsame] at o2; exact o2
      · rcases n2 j hj with h1 | h1
        · exact no j h1
        · omega
    · rw [if_neg g2] at hwp
      simp [t0, t4, t5, t6]
      refine ih (l.length - (i + 1)) _ _ ⟨i + 1, out, rfl, by omega, by simp [t0], by simp [t4], by rw [hwp, ← hf]; simp [t5], by simp [e1], c, by rw [hwp]; exact oo, no⟩ (by omega)
  · have : i = l.length := by omega
    subst this
    simp [t0, t4, t5, t6, ll]
    refine wp_dec ?_ ?_ <;> intro g2
    · have hz : wholePk l = [] := if_pos (by omega)
      simp [t0, t4, t5, t6]
      exact ⟨.slice (some ⟨H'.length, 0, some 0⟩) 0 0, false, rfl, by rw [hz]; exact Ow.new0 (D := Fl.int) (xs := []) rfl rfl rfl rfl, by simp; omega, c.trans (Chg.app _)⟩
    · have hz : wholePk l = (wpk l l.length).1 := if_neg (by omega)
      simp [t0, t4, t5, t6]
      exact ⟨out, true, rfl, by rw [hz]; exact oo, no, c⟩
end Go.Proofs.YtcigpclbhfkgaaaGreat.V
/-! What has arrived at a node. -/
set_option linter.all false
namespace Go.Proofs.YtcigpclbhfkgaaaGreat.V
open Go Go.VM Go.Proofs
set_option maxRecDepth 10000
variable {frz : Nat} {H : Heap}
/-- without the flits behind the last tail -/
def trim (l : List FlitD) : List FlitD := (l.reverse.dropWhile fun f => !f.2.2.2.2).reverse
theorem trim_nil : trim [] = [] := rfl
theorem trim_snoc (l : List FlitD) (f : FlitD) : trim (l ++ [f]) = if f.2.2.2.2 = true then l ++ [f] else trim l := by
  unfold trim
  rw [List.reverse_append, List.reverse_singleton, List.singleton_append, List.dropWhile_cons]
  cases h : f.2.2.2.2 <;> simp
def arrIds (arr : SSD) (node : Nat) (c : Int) : List Int := wholePk (trim ((arr.getD node []).filter fun f => f.2.2.1 = c))
theorem sClassOnly_w (v : Value) (xs : List FlitD) (c : Int) (hI : Rd flF H v xs) (hl : xs.length ≤ 1073741824) :
   wp (vcall C frz 181 [v, .int .i64 c] H) (fun r H' => Ow flF 157 H' r (xs.filter fun f => f.2.2.1 = c) ∧ (∀ i ∈ ids r, H.length ≤ i) ∧ Chg H H' []) := by
  rw [vcall_go (fn := Tryz.f181) Tryz.func181 rfl (by kernel_rfl) rfl]
  simp
  refine wp_inv (fun n t H' => ∃ (i : Nat) (r : Value), n = xs.length - i ∧ i ≤ xs.length ∧ t 0 = v ∧ t 1 = .int .i64 c ∧ t 5 = r ∧ t 6 = .int .i64 i ∧ Chg H H' [] ∧ Ow flF 157 H' r ((xs.take i).filter fun f => f.2.2.1 = c) ∧ (∀ j ∈ ids r, H.length ≤ j)) ?_ (n := xs.length)
    ⟨0, .slice (some ⟨H.length, 0, some 0⟩) 0 0, rfl, by omega, by simp, by simp, by simp, by simp, Chg.app _, Ow.new0 (D := flF) (xs := []) rfl rfl rfl rfl, by simp⟩
  rintro n t H' ⟨i, r, rfl, hi, t0, t1, t5, t6, ch, o, nr⟩ ih
  have rd := hI.chg ch (by simp)
  simp [t0, t1, t5, t6, rd.len (P := Tryz.prog) (ty := 113) (by simp)]
  refine wp_dec ?_ ?_ <;> intro g
  · have hi' : i < xs.length := by omega
    have q1 := rd.idx (P := Tryz.prog) (ty := 113) (e := 157) (by simp) (i := (i : Int)) (by omega) (by omega)
    have q2 := rd.load (P := Tryz.prog) (e := 157) (by simp) hi'
    have q3 := rd.field (P := Tryz.prog) (s := 157) (f := 2) (o := 2) (n := 1) (ag := false) (by simp) (j := i * 5) (by omega)
    have q4 := rd.cell (P := Tryz.prog) (e := 3) (by simp) hi' (c := 2) (by decide)
    simp only [Int.toNat_natCast, flF_n] at q1 q2 q4
    simp only [flF_f] at q4
    simp at q4
    have hF : H.length ≤ H'.length := ch.1
    have hfl := List.length_filter_le (fun f : FlitD => decide (f.2.2.1 = c)) (xs.take i)
    have htl : (xs.take i).length ≤ i := by simp; omega
    simp [-vfieldAddr, vfa_ptr, t0, t1, t5, t6, q1, q3, q4]
    refine wp_dec ?_ ?_ <;> intro g1
    · obtain ⟨r', H2, hap, o2, c2, n2⟩ := o.push (P := Tryz.prog) (frz := H.length) (ty := 113) (a := xs[i]) (by simp) rfl (by omega) nr
      simp only [flF_f] at hap
      simp [t0, t1, t5, t6, q1, q2, flF_f, hap]
      refine ih (xs.length - (i + 1)) _ _ ⟨i + 1, r', rfl, by omega, by simp [t0], by simp [t1], by simp, ?_, ch.trans' c2 (fun j hj => .inr (nr j hj)), ?_, fun j hj => ?_⟩ (by omega)
      · simp; rw [w64 (by omega) (by omega)]
      · rw [List.take_succ_eq_append_getElem hi', List.filter_append]; simpa [g1] using o2
      · rcases n2 j hj with h1 | h1
        · exact nr j h1
        · omega
    · simp [t0, t1, t5, t6, g1]
      refine ih (xs.length - (i + 1)) _ _ ⟨i + 1, r, rfl, by omega, by simp [t0], by simp [t1], by simp [t5], ?_, ch, ?_, nr⟩ (by omega)
      · simp; rw [w64 (by omega) (by omega)]
      · rw [List.take_succ_eq_append_getElem hi', List.filter_append]; simpa [g1] using o
  · have : i = xs.length := by omega
    subst this
    rw [List.take_length] at o
    simp [t0, t1, t5, t6]
    exact ⟨o, nr, ch⟩
theorem arrived_w {id : Nat} {w h tm : Int} {u2 u3 u4 u5 u6 u7 u8 : Value} {v9 : SSV} {arr : SSD} {node : Nat} {k : Int} (hr : H[id]? = some ⟨[.int .i64 w, .int .i64 h, u2, u3, u4, u5, u6, u7, u8, v9.1, .int .i64 tm], 0, 46⟩) (h9 : dSS.Ow H v9 arr) (hn : node < arr.length) :
   wp (vcall C frz 147 [.pointer (some ⟨id, 0, some 0⟩), .int .i64 node, .int .i64 k] H) (IntsOk H (arrIds arr node k)) := by
  rw [vcall_go (fn := Tryz.f147) Tryz.func147 rfl (by kernel_rfl) rfl]
  have rl := h9.1.rd
  obtain ⟨u, _, a2, a3, a4⟩ := RdL_at rl (ty := 44) (e := 113) (by simp) (by simp) hn
  have hm := h9.2.2 _ (List.getElem_mem hn)
  have hg : arr.getD node [] = arr[node] := by simp [List.getD_eq_getElem?_getD, hn]
  simp [VM.vnil, VM.look, hr, a2, a3]
  refine wp_thn (classOnly_w u arr[node] k a4 (by omega)) ?_
  rintro s G1 ⟨os, ns, c1⟩
  have cH : Chg H G1 [] := c1
  have ns' : ∀ i ∈ ids s, H.length ≤ i := fun i hi => by have := ns i hi; omega
  have hfl := List.length_filter_le (fun f : FlitD => decide (f.2.2.1 = k)) arr[node]
  unfold arrIds
  rw [hg]
  generalize (arr[node].filter fun f => f.2.2.1 = k) = l0 at *
  simp
  refine wp_inv (fun n t H' => ∃ (s : Value) (l : List FlitD), n = l.length ∧ t 8 = s ∧ H' = G1 ∧ Ow flF 157 G1 s l ∧ trim l = trim l0 ∧ l.length ≤ l0.length) ?_ (n := l0.length)
    ⟨s, l0, rfl, by simp, rfl, os, rfl, Nat.le_refl _⟩
  rintro n t H' ⟨s, l, rfl, t8, rfl, o, ht, hle⟩ ih
  have ll := o.rd.len (P := Tryz.prog) (ty := 113) (by simp)
  simp [t8, ll]
  have fin : trim l0 = l → wp (vcall C H.length 185 [s] H') (fun r H2 => IntsOk H (wholePk (trim l0)) r H2) := fun e => by
    rw [e]
    refine (wholePackets_w s l o (by omega)).mono ?_
    rintro r H2 ⟨u', ok, rfl, o2, n2, c2⟩
    exact ⟨u', ok, rfl, o2, fun i hi => by have := n2 i hi; have := cH.1; omega, cH.trans c2⟩
  by_cases h0 : l = []
  · have hz : trim l0 = l := by rw [← ht, h0]; rfl
    have hl0 : l.length = 0 := by rw [h0]; rfl
    simp [hl0, t8]
    refine wp_thn (fin hz) ?_
    rintro _ H2 ⟨u', ok, rfl, o2, n2, c2⟩
    simp
    exact ⟨u', ok, rfl, o2, n2, c2⟩
  · have hpos : 0 < l.length := List.length_pos_iff.2 h0
    obtain ⟨m, hm1⟩ : ∃ m, l.length = m + 1 := ⟨l.length - 1, by omega⟩
    have hml : m < l.length := by omega
    have hsn : l = l.take m ++ [l[m]] := by
      have := List.take_succ_eq_append_getElem hml
      rw [← this, List.take_of_length_le (by omega)]
    have e1 : ∀ [Inhabited Unit], IntKind.i64.wrap ((m : Int) + 1 - 1) = (m : Int) := by intro _; rw [w64 (by omega) (by omega)]; omega
    have e1' : ∀ [Inhabited Unit], IntKind.i64.wrap (m : Int) = (m : Int) := by intro _; rw [w64 (by omega) (by omega)]
    have q1 := o.rd.idx (P := Tryz.prog) (ty := 113) (e := 157) (by simp) (i := (m : Int)) (by omega) (by omega)
    have q3 := o.rd.field (P := Tryz.prog) (s := 157) (f := 4) (o := 4) (n := 1) (ag := false) (by simp) (j := m * 5) (by omega)
    have q4 := o.rd.cell (P := Tryz.prog) (e := 4) (by simp) hml (c := 4) (by decide)
    simp only [Int.toNat_natCast, flF_n] at q1 q4
    simp only [flF_f] at q4
    simp at q4
    have hgt : (0 : Int) < (m : Int) + 1 := by omega
    have hts := trim_snoc (l.take m) l[m]
    rw [← hsn] at hts
    obtain ⟨f, hf⟩ : ∃ f, f = l[m] := ⟨_, rfl⟩
    rw [← hf] at hts q4
    simp [-vfieldAddr, vfa_ptr, t8, ll, hm1, hgt, e1, e1', q1, q3, q4]
    cases hb : f.2.2.2.2
    · rw [if_neg (by rw [hb]; simp)] at hts
      obtain ⟨s', hs', os', ids_s⟩ := o.slice (P := Tryz.prog) (ty := 113) (by simp) (lo := none) (hi := some (.int .i64 (m : Int))) (l := 0) (u := m) rfl rfl (by omega) (by omega)
      simp only [List.drop_zero, Nat.sub_zero] at os'
      simp [t8, ll, hm1, e1, e1', hs']
      refine ih (l.take m).length _ _ ⟨s', l.take m, rfl, by simp, rfl, os', by rw [← hts, ht], by simp; omega⟩ (by simp; omega)
    · rw [if_pos hb] at hts
      have hz : trim l0 = l := by rw [← ht, hts]
      simp [t8]
      refine wp_thn (fin hz) ?_
      rintro _ H2 ⟨u', ok, rfl, o2, n2, c2⟩
      simp
      exact ⟨u', ok, rfl, o2, n2, c2⟩
theorem sArrived_w {v : NetV} {x : NetD} {node : Nat} {k : Int} (o : dNet.Ow H v x) (hn : node < x.2.2.2.2.2.2.1.length) :
   wp (vcall C frz 136 [dNet.val v x, .int .i64 node, .int .i64 k] H) (IntsOk H (arrIds x.2.2.2.2.2.2.1 node k)) := by
  have ones := dNet_one o
  obtain ⟨_, _, _, _, _, _, h9, _⟩ := o
  rw [dNet_val, vcall_go (fn := Tryz.f136) Tryz.func136 rfl (by kernel_rfl) rfl]
  have rl := h9.1.rd
  obtain ⟨arr, harr⟩ : ∃ a, a = x.2.2.2.2.2.2.1 := ⟨_, rfl⟩
  simp only [← harr] at hn h9 rl ⊢
  have rl' := fun (L : Heap) => rl.app (L := L)
  have hm := h9.2.2 _ (List.getElem_mem hn)
  have hg : arr.getD node [] = arr[node] := by simp [List.getD_eq_getElem?_getD, hn]
  obtain ⟨u, hu, _, _, a4'⟩ := RdL_at rl (ty := 44) (e := 113) (by simp) (by simp) hn
  have aa : ∀ (L : Heap), vindexAddr Tryz.prog (H ++ L) 44 v.2.2.2.2.2.2.1.1 (.int .i64 node) = some (elp v.2.2.2.2.2.2.1.1 node) ∧ vload Tryz.prog (H ++ L) 113 (elp v.2.2.2.2.2.2.1.1 node) = some u := fun L => by
    obtain ⟨u', hu', b2, b3, b4⟩ := RdL_at (rl' L) (ty := 44) (e := 113) (by simp) (by simp) hn
    rw [hu] at hu'; cases hu'
    exact ⟨b2, b3⟩
  have a2 := fun L => (aa L).1
  have a3 := fun L => (aa L).2
  simp [ones, a2, a3]
  refine wp_thn (sClassOnly_w u arr[node] k a4'.app (by omega)) ?_
  rintro s G1 ⟨os, ns, c1⟩
  have cH : Chg H G1 [] := (Chg.app []).trans c1
  have ns' : ∀ i ∈ ids s, H.length ≤ i := fun i hi => by have := ns i hi; simp at this; omega
  have hfl := List.length_filter_le (fun f : FlitD => decide (f.2.2.1 = k)) arr[node]
  unfold arrIds
  rw [hg]
  generalize (arr[node].filter fun f => f.2.2.1 = k) = l0 at *
  simp
  refine wp_inv (fun n t H' => ∃ (s : Value) (l : List FlitD), n = l.length ∧ t 8 = s ∧ H' = G1 ∧ Ow flF 157 G1 s l ∧ trim l = trim l0 ∧ l.length ≤ l0.length) ?_ (n := l0.length)
    ⟨s, l0, rfl, by simp, rfl, os, rfl, Nat.le_refl _⟩
  rintro n t H' ⟨s, l, rfl, t8, rfl, o, ht, hle⟩ ih
  have ll := o.rd.len (P := Tryz.prog) (ty := 113) (by simp)
  simp [t8, ll]
  have fin : trim l0 = l → wp (vcall C H.length 182 [s] H') (fun r H2 => IntsOk H (wholePk (trim l0)) r H2) := fun e => by
    rw [e]
    refine (sWholePackets_w s l o (by omega)).mono ?_
    rintro r H2 ⟨u', ok, rfl, o2, n2, c2⟩
    exact ⟨u', ok, rfl, o2, fun i hi => by have := n2 i hi; have := cH.1; omega, cH.trans c2⟩
  by_cases h0 : l = []
  · have hz : trim l0 = l := by rw [← ht, h0]; rfl
    have hl0 : l.length = 0 := by rw [h0]; rfl
    simp [hl0, t8]
    refine wp_thn (fin hz) ?_
    rintro _ H2 ⟨u', ok, rfl, o2, n2, c2⟩
    simp
    exact ⟨u', ok, rfl, o2, n2, c2⟩
  · have hpos : 0 < l.length := List.length_pos_iff.2 h0
    obtain ⟨m, hm1⟩ : ∃ m, l.length = m + 1 := ⟨l.length - 1, by omega⟩
    have hml : m < l.length := by omega
    have hsn : l = l.take m ++ [l[m]] := by
      have := List.take_succ_eq_append_getElem hml
      rw [← this, List.take_of_length_le (by omega)]
    have e1 : ∀ [Inhabited Unit], IntKind.i64.wrap ((m : Int) + 1 - 1) = (m : Int) := by intro _; rw [w64 (by omega) (by omega)]; omega
    have e1' : ∀ [Inhabited Unit], IntKind.i64.wrap (m : Int) = (m : Int) := by intro _; rw [w64 (by omega) (by omega)]
    have q1 := o.rd.idx (P := Tryz.prog) (ty := 113) (e := 157) (by simp) (i := (m : Int)) (by omega) (by omega)
    have q3 := o.rd.field (P := Tryz.prog) (s := 157) (f := 4) (o := 4) (n := 1) (ag := false) (by simp) (j := m * 5) (by omega)
    have q4 := o.rd.cell (P := Tryz.prog) (e := 4) (by simp) hml (c := 4) (by decide)
    simp only [Int.toNat_natCast, flF_n] at q1 q4
    simp only [flF_f] at q4
    simp at q4
    have hgt : (0 : Int) < (m : Int) + 1 := by omega
    have hts := trim_snoc (l.take m) l[m]
    rw [← hsn] at hts
    obtain ⟨f, hf⟩ : ∃ f, f = l[m] := ⟨_, rfl⟩
    rw [← hf] at hts q4
    simp [-vfieldAddr, vfa_ptr, t8, ll, hm1, hgt, e1, e1', q1, q3, q4]
    cases hb : f.2.2.2.2
    · rw [if_neg (by rw [hb]; simp)] at hts
      obtain ⟨s', hs', os', ids_s⟩ := o.slice (P := Tryz.prog) (ty := 113) (by simp) (lo := none) (hi := some (.int .i64 (m : Int))) (l := 0) (u := m) rfl rfl (by omega) (by omega)
      simp only [List.drop_zero, Nat.sub_zero] at os'
      simp [t8, ll, hm1, e1, e1', hs']
      refine ih (l.take m).length _ _ ⟨s', l.take m, rfl, by simp, rfl, os', by rw [← hts, ht], by simp; omega⟩ (by simp; omega)
    · rw [if_pos hb] at hts
      have hz : trim l0 = l := by rw [← ht, hts]
      simp [t8]
      refine wp_thn (fin hz) ?_
      rintro _ H2 ⟨u', ok, rfl, o2, n2, c2⟩
      simp
      exact ⟨u', ok, rfl, o2, n2, c2⟩
end Go.Proofs.YtcigpclbhfkgaaaGreat.V
/-! Packets of a flow. -/
set_option linter.all false
namespace Go.Proofs.YtcigpclbhfkgaaaGreat.V
open Go Go.VM Go.Proofs
set_option maxRecDepth 10000
variable {frz : Nat} {H : Heap}
def isFlow (a b c : Int) (p : PkD) : Prop := p.2.1 = a ∧ p.2.2.1 = b ∧ p.2.2.2.1 = c
instance (a b c : Int) (p : PkD) : Decidable (isFlow a b c p) := inferInstanceAs (Decidable (_ ∧ _))
def sentP (list : List PkD) (id a b c : Int) : Prop := ∃ p ∈ list, p.1 = id ∧ isFlow a b c p
instance (list : List PkD) (id a b c : Int) : Decidable (sentP list id a b c) := inferInstanceAs (Decidable (∃ p ∈ list, _))
/-- the numbers of the packets of a flow -/
def sentIds (list : List PkD) (a b c : Int) : List Int := (list.filter fun p => isFlow a b c p).map (·.1)
/-- those numbers that belong to packets of a flow -/
def among (all : List Int) (list : List PkD) (a b c : Int) : List Int := all.filter fun id => sentP list id a b c
theorem among_len (all : List Int) (list : List PkD) (a b c : Int) : (among all list a b c).length ≤ all.length := List.length_filter_le _ _
theorem sentIds_len (list : List PkD) (a b c : Int) : (sentIds list a b c).length ≤ list.length := by unfold sentIds; rw [List.length_map]; exact List.length_filter_le _ _
def NewInts (H : Heap) (xs : List Int) (r : Value) (H' : Heap) : Prop := Ow Fl.int 3 H' r xs ∧ (∀ i ∈ ids r, H.length ≤ i) ∧ Chg H H' []
theorem isSent_c (v : Value) (list : List PkD) (id a b c : Int) (hI : Rd pkF H v list) (hl : list.length ≤ 1073741824) :
   vcall C frz 187 [v, .int .i64 id, .int .i64 a, .int .i64 b, .int .i64 c] H = some (.bool (decide (sentP list id a b c)), H) := by
  refine wp.exact (by simp) ?_ rfl
  rw [vcall_go (fn := Tryz.f187) Tryz.func187 rfl (by kernel_rfl) rfl]
  generalize hY : decide (sentP list id a b c) = Y
  simp [hI.len (P := Tryz.prog) (ty := 47) (by simp)]
  refine wp_inv (fun n t H' => ∃ i : Nat, n = list.length - i ∧ i ≤ list.length ∧ t 1 = .int .i64 id ∧ t 2 = .int .i64 a ∧ t 3 = .int .i64 b ∧ t 4 = .int .i64 c ∧ t 13 = v ∧ t 14 = .int .i64 list.length ∧ t 15 = .int .i64 i ∧ Chg H H' [] ∧ ∀ p ∈ list.take i, ¬ (p.1 = id ∧ isFlow a b c p)) ?_ (n := list.length)
    ⟨0, rfl, by omega, by simp, by simp, by simp, by simp, by simp, by simp, by simp, Chg.refl _, by simp⟩
  rintro n t H' ⟨i, rfl, hi, t1, t2, t3, t4, t13, t14, t15, ch, hk⟩ ih
  simp [t1, t2, t3, t4, t13, t14, t15]
  refine wp_dec ?_ ?_ <;> intro g
  · have hi' : i < list.length := by omega
    have rd := hI.chg ch (by simp)
    have q1 := rd.idx (P := Tryz.prog) (ty := 47) (e := 76) (by simp) (i := (i : Int)) (by omega) (by omega)
    have q2 := rd.load (P := Tryz.prog) (e := 76) (by simp) hi'
    simp only [Int.toNat_natCast, pkF_n] at q1 q2
    have hF : H.length ≤ H'.length := ch.1
    have hst := fun {x} (hx : x ∈ list.take (i + 1)) => mem_take_succ hi' hx
    have hmem := List.getElem_mem hi'
    obtain ⟨p, hp⟩ : ∃ p, p = list[i] := ⟨_, rfl⟩
    rw [← hp] at q2 hst hmem
    have ext : ¬ (p.1 = id ∧ isFlow a b c p) → ∀ x ∈ list.take (i + 1), ¬ (x.1 = id ∧ isFlow a b c x) := fun hh x hx => by
      rcases hst hx with hx | rfl
      · exact hk x hx
      · exact hh
    simp [t1, t2, t3, t4, t13, t14, t15, q1, q2, pkF_f, hF, VM.look]
    by_cases g1 : p.1 = id
    rotate_left
    · simp [t1, t2, t3, t4, t13, t14, t15, g1]
      refine ih (list.length - (i + 1)) _ _ ⟨i + 1, rfl, by omega, by simp [t1], by simp [t2], by simp [t3], by simp [t4], by simp [t13], by simp [t14], ?_, ch.trans (Chg.app _), ext (fun k => g1 k.1)⟩ (by omega)
      simp; rw [w64 (by omega) (by omega)]
    simp [t1, t2, t3, t4, t13, t14, t15, VM.look, g1]
    by_cases g2 : p.2.1 = a
    rotate_left
    · simp [t1, t2, t3, t4, t13, t14, t15, g1, g2]
      refine ih (list.length - (i + 1)) _ _ ⟨i + 1, rfl, by omega, by simp [t1], by simp [t2], by simp [t3], by simp [t4], by simp [t13], by simp [t14], ?_, ch.trans (Chg.app _), ext (fun k => g2 k.2.1)⟩ (by omega)
      simp; rw [w64 (by omega) (by omega)]
    simp [t1, t2, t3, t4, t13, t14, t15, VM.look, g1, g2]
    by_cases g3 : p.2.2.1 = b
    rotate_left
    · simp [t1, t2, t3, t4, t13, t14, t15, g1, g2, g3]
      refine ih (list.length - (i + 1)) _ _ ⟨i + 1, rfl, by omega, by simp [t1], by simp [t2], by simp [t3], by simp [t4], by simp [t13], by simp [t14], ?_, ch.trans (Chg.app _), ext (fun k => g3 k.2.2.1)⟩ (by omega)
      simp; rw [w64 (by omega) (by omega)]
    simp [t1, t2, t3, t4, t13, t14, t15, VM.look, g1, g2, g3]
    by_cases g4 : p.2.2.2.1 = c
    rotate_left
    · simp [t1, t2, t3, t4, t13, t14, t15, g1, g2, g3, g4]
      refine ih (list.length - (i + 1)) _ _ ⟨i + 1, rfl, by omega, by simp [t1], by simp [t2], by simp [t3], by simp [t4], by simp [t13], by simp [t14], ?_, ch.trans (Chg.app _), ext (fun k => g4 k.2.2.2)⟩ (by omega)
      simp; rw [w64 (by omega) (by omega)]
    simp [t1, t2, t3, t4, t13, t14, t15, VM.look, g1, g2, g3, g4]
    rw [← hY]; exact decide_eq_true ⟨p, hmem, g1, g2, g3, g4⟩
  · have : i = list.length := by omega
    subst this
    rw [List.take_length] at hk
    simp [t1, t2, t3, t4, t13, t14, t15]
    rw [← hY]; exact decide_eq_false (fun ⟨p, h1, h2⟩ => hk p h1 h2)
theorem sentAmong_w (u v : Value) (all : List Int) (list : List PkD) (a b c : Int) (hA : Rd Fl.int H u all) (hI : Rd pkF H v list) (hla : all.length ≤ 1073741824) (hl : list.length ≤ 1073741824) :
   wp (vcall C frz 149 [u, v, .int .i64 a, .int .i64 b, .int .i64 c] H) (NewInts H (among all list a b c)) := by
  rw [vcall_go (fn := Tryz.f149) Tryz.func149 rfl (by kernel_rfl) rfl]
  simp [hA.app.len (P := Tryz.prog) (ty := 24) (by simp)]
  refine wp_inv (fun n t H' => ∃ (i : Nat) (out : Value), n = all.length - i ∧ i ≤ all.length ∧ t 1 = v ∧ t 2 = .int .i64 a ∧ t 3 = .int .i64 b ∧ t 4 = .int .i64 c ∧ t 11 = out ∧ t 15 = u ∧ t 16 = .int .i64 all.length ∧ t 17 = .int .i64 i ∧ NewInts H (among (all.take i) list a b c) out H') ?_ (n := all.length)
    ⟨0, .slice (some ⟨H.length, 0, some 0⟩) 0 0, rfl, by omega, by simp, by simp, by simp, by simp, by simp, by simp, by simp, by simp, Ow.new0 (D := Fl.int) (xs := []) rfl rfl rfl rfl, by simp, Chg.app _⟩
  rintro n t H' ⟨i, out, rfl, hi, t1, t2, t3, t4, t11, t15, t16, t17, o, no, ch⟩ ih
  simp [t1, t2, t3, t4, t11, t15, t16, t17]
  refine wp_dec ?_ ?_ <;> intro g
  · have hi' : i < all.length := by omega
    have ra := (hA.chg ch (by simp)).isI
    have q1 := ra.idx (P := Tryz.prog) (ty := 24) (e := 3) (by simp) (i := (i : Int)) (by omega) (by omega)
    have q2 := ra.load (P := Tryz.prog) (e := 3) (by simp) hi'
    simp only [Int.toNat_natCast, getD_at hi'] at q1 q2
    have is := fun F => isSent_c (frz := F) (H := H') v list all[i] a b c (hI.chg ch (by simp)) hl
    have hal := among_len (all.take i) list a b c
    have htl : (all.take i).length ≤ i := by simp; omega
    have hF : H.length ≤ H'.length := ch.1
    have hsu : among (all.take (i + 1)) list a b c = among (all.take i) list a b c ++ (if sentP list all[i] a b c then [all[i]] else []) := by
      unfold among; rw [List.take_succ_eq_append_getElem hi', List.filter_append]; congr 1; by_cases h : sentP list all[i] a b c <;> simp [h]
    simp [t1, t2, t3, t4, t11, t15, t16, t17, q1, q2, is]
    refine wp_dec ?_ ?_ <;> intro g1
    · obtain ⟨r', H2, hap, o2, c2, n2⟩ := o.push (P := Tryz.prog) (frz := H.length) (ty := 24) (a := all[i]) (by simp) rfl (by omega) no
      simp only [Fl.int_f] at hap
      simp [t1, t2, t3, t4, t11, t15, t16, t17, hap]
      refine ih (all.length - (i + 1)) _ _ ⟨i + 1, r', rfl, by omega, by simp [t1], by simp [t2], by simp [t3], by simp [t4], by simp, by simp [t15], by simp [t16], ?_, by rw [hsu, if_pos g1]; exact o2, fun j hj => ?_, ch.trans' c2 (fun j hj => .inr (no j hj))⟩ (by omega)
      · simp; rw [w64 (by omega) (by omega)]
      · rcases n2 j hj with h1 | h1
        · exact no j h1
        · omega
    · simp [t1, t2, t3, t4, t11, t15, t16, t17]
      refine ih (all.length - (i + 1)) _ _ ⟨i + 1, out, rfl, by omega, by simp [t1], by simp [t2], by simp [t3], by simp [t4], by simp [t11], by simp [t15], by simp [t16], ?_, by rw [hsu, if_neg g1, List.append_nil]; exact o, no, ch⟩ (by omega)
      simp; rw [w64 (by omega) (by omega)]
  · have : i = all.length := by omega
    subst this
    rw [List.take_length] at o
    simp [t1, t2, t3, t4, t11, t15, t16, t17]
    exact ⟨o, no, ch⟩
theorem sentFrom_w (v : Value) (list : List PkD) (a b c : Int) (hI : Rd pkF H v list) (hl : list.length ≤ 1073741824) :
   wp (vcall C frz 150 [v, .int .i64 a, .int .i64 b, .int .i64 c] H) (NewInts H (sentIds list a b c)) := by
  rw [vcall_go (fn := Tryz.f150) Tryz.func150 rfl (by kernel_rfl) rfl]
  simp [hI.app.len (P := Tryz.prog) (ty := 47) (by simp)]
  refine wp_inv (fun n t H' => ∃ (i : Nat) (out : Value), n = list.length - i ∧ i ≤ list.length ∧ t 1 = .int .i64 a ∧ t 2 = .int .i64 b ∧ t 3 = .int .i64 c ∧ t 9 = out ∧ t 13 = v ∧ t 14 = .int .i64 list.length ∧ t 15 = .int .i64 i ∧ NewInts H (sentIds (list.take i) a b c) out H') ?_ (n := list.length)
    ⟨0, .slice (some ⟨H.length, 0, some 0⟩) 0 0, rfl, by omega, by simp, by simp, by simp, by simp, by simp, by simp, by simp, Ow.new0 (D := Fl.int) (xs := []) rfl rfl rfl rfl, by simp, Chg.app _⟩
  rintro n t H' ⟨i, out, rfl, hi, t1, t2, t3, t9, t13, t14, t15, o, no, ch⟩ ih
  have rd := hI.chg ch (by simp)
  simp [t1, t2, t3, t9, t13, t14, t15, rd.len (P := Tryz.prog) (ty := 47) (by simp)]
  refine wp_dec ?_ ?_ <;> intro g
  · have hi' : i < list.length := by omega
    have q1 := rd.idx (P := Tryz.prog) (ty := 47) (e := 76) (by simp) (i := (i : Int)) (by omega) (by omega)
    have q2 := rd.load (P := Tryz.prog) (e := 76) (by simp) hi'
    have f0 := rd.field (P := Tryz.prog) (s := 76) (f := 0) (o := 0) (n := 1) (ag := false) (by simp) (j := i * 5) (by omega)
    have f1 := rd.field (P := Tryz.prog) (s := 76) (f := 1) (o := 1) (n := 1) (ag := false) (by simp) (j := i * 5) (by omega)
    have f2 := rd.field (P := Tryz.prog) (s := 76) (f := 2) (o := 2) (n := 1) (ag := false) (by simp) (j := i * 5) (by omega)
    have f3 := rd.field (P := Tryz.prog) (s := 76) (f := 3) (o := 3) (n := 1) (ag := false) (by simp) (j := i * 5) (by omega)
    have k0 := rd.cell (P := Tryz.prog) (e := 3) (by simp) hi' (c := 0) (by decide)
    have k1 := rd.cell (P := Tryz.prog) (e := 3) (by simp) hi' (c := 1) (by decide)
    have k2 := rd.cell (P := Tryz.prog) (e := 3) (by simp) hi' (c := 2) (by decide)
    have k3 := rd.cell (P := Tryz.prog) (e := 3) (by simp) hi' (c := 3) (by decide)
    simp only [Int.toNat_natCast, pkF_n, Nat.add_zero] at q1 q2 f0 k0 k1 k2 k3
    simp only [pkF_f] at k0 k1 k2 k3
    simp at k0 k1 k2 k3
    have hsl := sentIds_len (list.take i) a b c
    have htl : (list.take i).length ≤ i := by simp; omega
    have hF : H.length ≤ H'.length := ch.1
    have hsu : sentIds (list.take (i + 1)) a b c = sentIds (list.take i) a b c ++ (if isFlow a b c list[i] then [list[i].1] else []) := by
      unfold sentIds; rw [List.take_succ_eq_append_getElem hi', List.filter_append, List.map_append]; congr 1; by_cases h : isFlow a b c list[i] <;> simp [h]
    obtain ⟨p, hp⟩ : ∃ p, p = list[i] := ⟨_, rfl⟩
    rw [← hp] at q2 k0 k1 k2 k3 hsu
    simp [-vfieldAddr, vfa_ptr, t1, t2, t3, t9, t13, t14, t15, q1, q2, f0, f1, f2, f3, k0, k1, k2, k3, pkF_f, hF, VM.look]
    by_cases g1 : p.2.1 = a
    rotate_left
    · have hno : ¬ isFlow a b c p := fun k => g1 k.1
      simp [t1, t2, t3, t9, t13, t14, t15, g1]
      refine ih (list.length - (i + 1)) _ _ ⟨i + 1, out, rfl, by omega, by simp [t1], by simp [t2], by simp [t3], by simp [t9], by simp [t13], by simp [t14], ?_, by rw [hsu, if_neg hno, List.append_nil]; exact o.app, no, ch.trans (Chg.app _)⟩ (by omega)
      simp; rw [w64 (by omega) (by omega)]
    simp [-vfieldAddr, vfa_ptr, t1, t2, t3, t9, t13, t14, t15, VM.look, q1, f0, f1, f2, f3, k0, k1, k2, k3, g1]
    by_cases g2 : p.2.2.1 = b
    rotate_left
    · have hno : ¬ isFlow a b c p := fun k => g2 k.2.1
      simp [t1, t2, t3, t9, t13, t14, t15, g1, g2]
      refine ih (list.length - (i + 1)) _ _ ⟨i + 1, out, rfl, by omega, by simp [t1], by simp [t2], by simp [t3], by simp [t9], by simp [t13], by simp [t14], ?_, by rw [hsu, if_neg hno, List.append_nil]; exact o.app, no, ch.trans (Chg.app _)⟩ (by omega)
      simp; rw [w64 (by omega) (by omega)]
    simp [-vfieldAddr, vfa_ptr, t1, t2, t3, t9, t13, t14, t15, VM.look, q1, f0, f1, f2, f3, k0, k1, k2, k3, g1, g2]
    by_cases g3 : p.2.2.2.1 = c
    rotate_left
    · have hno : ¬ isFlow a b c p := fun k => g3 k.2.2
      simp [t1, t2, t3, t9, t13, t14, t15, g1, g2, g3]
      refine ih (list.length - (i + 1)) _ _ ⟨i + 1, out, rfl, by omega, by simp [t1], by simp [t2], by simp [t3], by simp [t9], by simp [t13], by simp [t14], ?_, by rw [hsu, if_neg hno, List.append_nil]; exact o.app, no, ch.trans (Chg.app _)⟩ (by omega)
      simp; rw [w64 (by omega) (by omega)]
    simp [-vfieldAddr, vfa_ptr, t1, t2, t3, t9, t13, t14, t15, VM.look, q1, f0, f1, f2, f3, k0, k1, k2, k3, g1, g2, g3]
    obtain ⟨r', H2, hap, o2, c2, n2⟩ := (o.app (L := [⟨[.int .i64 p.1, .int .i64 a, .int .i64 b, .int .i64 c, .int .i64 p.2.2.2.2], 0, 76⟩])).push (P := Tryz.prog) (frz := H.length) (ty := 24) (a := p.1) (by simp) rfl (by omega) no
    simp only [Fl.int_f, List.append_assoc, List.cons_append, List.nil_append, List.length_append, List.length_cons, List.length_nil] at hap
    simp [t1, t2, t3, t9, t13, t14, t15, hap]
    refine ih (list.length - (i + 1)) _ _ ⟨i + 1, r', rfl, by omega, by simp [t1], by simp [t2], by simp [t3], by simp, by simp [t13], by simp [t14], ?_, by rw [hsu, if_pos ⟨g1, g2, g3⟩]; exact o2, fun j hj => ?_, (ch.trans (Chg.app _)).trans' c2 (fun j hj => .inr (no j hj))⟩ (by omega)
    · simp; rw [w64 (by omega) (by omega)]
    · rcases n2 j hj with h1 | h1
      · exact no j h1
      · simp at h1; omega
  · have : i = list.length := by omega
    subst this
    rw [List.take_length] at o
    simp [t1, t2, t3, t9, t13, t14, t15]
    exact ⟨o, no, ch⟩
theorem sSentFrom_w (v : Value) (list : List PkD) (a b c : Int) (hI : Rd pkF H v list) (hl : list.length ≤ 1073741824) :
   wp (vcall C frz 139 [v, .int .i64 a, .int .i64 b, .int .i64 c] H) (NewInts H (sentIds list a b c)) := by
  rw [vcall_go (fn := Tryz.f139) Tryz.func139 rfl (by kernel_rfl) rfl]
  simp
  refine wp_inv (fun n t H' => ∃ (i : Nat) (out : Value), n = list.length - i ∧ i ≤ list.length ∧ t 0 = v ∧ t 1 = .int .i64 a ∧ t 2 = .int .i64 b ∧ t 3 = .int .i64 c ∧ t 9 = out ∧ t 10 = .int .i64 i ∧ NewInts H (sentIds (list.take i) a b c) out H') ?_ (n := list.length)
    ⟨0, .slice (some ⟨H.length, 0, some 0⟩) 0 0, rfl, by omega, by simp, by simp, by simp, by simp, by simp, by simp, Ow.new0 (D := Fl.int) (xs := []) rfl rfl rfl rfl, by simp, Chg.app _⟩
  rintro n t H' ⟨i, out, rfl, hi, t0, t1, t2, t3, t9, t10, o, no, ch⟩ ih
  have rd := hI.chg ch (by simp)
  simp [t0, t1, t2, t3, t9, t10, rd.len (P := Tryz.prog) (ty := 47) (by simp)]
  refine wp_dec ?_ ?_ <;> intro g
  · have hi' : i < list.length := by omega
    have q1 := rd.idx (P := Tryz.prog) (ty := 47) (e := 76) (by simp) (i := (i : Int)) (by omega) (by omega)
    have q2 := rd.load (P := Tryz.prog) (e := 76) (by simp) hi'
    have f0 := rd.field (P := Tryz.prog) (s := 76) (f := 0) (o := 0) (n := 1) (ag := false) (by simp) (j := i * 5) (by omega)
    have f1 := rd.field (P := Tryz.prog) (s := 76) (f := 1) (o := 1) (n := 1) (ag := false) (by simp) (j := i * 5) (by omega)
    have f2 := rd.field (P := Tryz.prog) (s := 76) (f := 2) (o := 2) (n := 1) (ag := false) (by simp) (j := i * 5) (by omega)
    have f3 := rd.field (P := Tryz.prog) (s := 76) (f := 3) (o := 3) (n := 1) (ag := false) (by simp) (j := i * 5) (by omega)
    have k0 := rd.cell (P := Tryz.prog) (e := 3) (by simp) hi' (c := 0) (by decide)
    have k1 := rd.cell (P := Tryz.prog) (e := 3) (by simp) hi' (c := 1) (by decide)
    have k2 := rd.cell (P := Tryz.prog) (e := 3) (by simp) hi' (c := 2) (by decide)
    have k3 := rd.cell (P := Tryz.prog) (e := 3) (by simp) hi' (c := 3) (by decide)
    simp only [Int.toNat_natCast, pkF_n, Nat.add_zero] at q1 q2 f0 k0 k1 k2 k3
    simp only [pkF_f] at k0 k1 k2 k3
    simp at k0 k1 k2 k3
    have hsl := sentIds_len (list.take i) a b c
    have htl : (list.take i).length ≤ i := by simp; omega
    have hF : H.length ≤ H'.length := ch.1
    have hsu : sentIds (list.take (i + 1)) a b c = sentIds (list.take i) a b c ++ (if isFlow a b c list[i] then [list[i].1] else []) := by
      unfold sentIds; rw [List.take_succ_eq_append_getElem hi', List.filter_append, List.map_append]; congr 1; by_cases h : isFlow a b c list[i] <;> simp [h]
    obtain ⟨p, hp⟩ : ∃ p, p = list[i] := ⟨_, rfl⟩
    rw [← hp] at q2 k0 k1 k2 k3 hsu
    simp [-vfieldAddr, vfa_ptr, t0, t1, t2, t3, t9, t10, q1, q2, f0, f1, f2, f3, k0, k1, k2, k3, pkF_f, hF, VM.look]
    by_cases g1 : p.2.1 = a
    rotate_left
    · have hno : ¬ isFlow a b c p := fun k => g1 k.1
      simp [t0, t1, t2, t3, t9, t10, g1]
      refine ih (list.length - (i + 1)) _ _ ⟨i + 1, out, rfl, by omega, by simp [t0], by simp [t1], by simp [t2], by simp [t3], by simp [t9], ?_, by rw [hsu, if_neg hno, List.append_nil]; exact o, no, ch⟩ (by omega)
      simp; rw [w64 (by omega) (by omega)]
    simp [-vfieldAddr, vfa_ptr, t0, t1, t2, t3, t9, t10, VM.look, q1, f0, f1, f2, f3, k0, k1, k2, k3, g1]
    by_cases g2 : p.2.2.1 = b
    rotate_left
    · have hno : ¬ isFlow a b c p := fun k => g2 k.2.1
      simp [t0, t1, t2, t3, t9, t10, g1, g2]
      refine ih (list.length - (i + 1)) _ _ ⟨i + 1, out, rfl, by omega, by simp [t0], by simp [t1], by simp [t2], by simp [t3], by simp [t9], ?_, by rw [hsu, if_neg hno, List.append_nil]; exact o, no, ch⟩ (by omega)
      simp; rw [w64 (by omega) (by omega)]
    simp [-vfieldAddr, vfa_ptr, t0, t1, t2, t3, t9, t10, VM.look, q1, f0, f1, f2, f3, k0, k1, k2, k3, g1, g2]
    by_cases g3 : p.2.2.2.1 = c
    rotate_left
    · have hno : ¬ isFlow a b c p := fun k => g3 k.2.2
      simp [t0, t1, t2, t3, t9, t10, g1, g2, g3]
      refine ih (list.length - (i + 1)) _ _ ⟨i + 1, out, rfl, by omega, by simp [t0], by simp [t1], by simp [t2], by simp [t3], by simp [t9], ?_, by rw [hsu, if_neg hno, List.append_nil]; exact o, no, ch⟩ (by omega)
      simp; rw [w64 (by omega) (by omega)]
    simp [-vfieldAddr, vfa_ptr, t0, t1, t2, t3, t9, t10, VM.look, q1, f0, f1, f2, f3, k0, k1, k2, k3, g1, g2, g3]
    obtain ⟨r', H2, hap, o2, c2, n2⟩ := o.push (P := Tryz.prog) (frz := H.length) (ty := 24) (a := p.1) (by simp) rfl (by omega) no
    simp only [Fl.int_f] at hap
    simp [t0, t1, t2, t3, t9, t10, hap]
    refine ih (list.length - (i + 1)) _ _ ⟨i + 1, r', rfl, by omega, by simp [t0], by simp [t1], by simp [t2], by simp [t3], by simp, ?_, by rw [hsu, if_pos ⟨g1, g2, g3⟩]; exact o2, fun j hj => ?_, (ch).trans' c2 (fun j hj => .inr (no j hj))⟩ (by omega)
    · simp; rw [w64 (by omega) (by omega)]
    · rcases n2 j hj with h1 | h1
      · exact no j h1
      · omega
  · have : i = list.length := by omega
    subst this
    rw [List.take_length] at o
    simp [t0, t1, t2, t3, t9, t10]
    exact ⟨o, no, ch⟩
end Go.Proofs.YtcigpclbhfkgaaaGreat.V
/-! Prefixes; the numbers of a flow as the reference finds them. -/
set_option linter.all false
namespace Go.Proofs.YtcigpclbhfkgaaaGreat.V
open Go Go.VM Go.Proofs
set_option maxRecDepth 10000
variable {frz : Nat} {H : Heap}
def isPre (xs ys : List Int) : Prop := xs = ys.take xs.length
instance (xs ys : List Int) : Decidable (isPre xs ys) := inferInstanceAs (Decidable (_ = _))
theorem isPrefixOf_c (a b : Value) (xs ys : List Int) (ha : Rd Fl.int H a xs) (hb : Ow Fl.int 3 H b ys) (hl : xs.length ≤ 1073741824) :
   vcall C frz 148 [a, b] H = some (.bool (decide (isPre xs ys)), H) := by
  rw [vcall_go (fn := Tryz.f148) Tryz.func148 rfl (by kernel_rfl) rfl]
  have la := ha.len (P := Tryz.prog) (ty := 24) (by simp)
  have lb := hb.rd.len (P := Tryz.prog) (ty := 24) (by simp)
  by_cases g : xs.length ≤ ys.length
  · obtain ⟨s, hs, os, _⟩ := hb.slice (P := Tryz.prog) (ty := 24) (by simp) (lo := none) (hi := some (.int .i64 (xs.length : Int))) (l := 0) (u := xs.length) rfl rfl (by omega) g
    simp only [List.drop_zero, Nat.sub_zero] at os
    have eq := fun F => equalI_c (frz := F) (H := H) a s xs (ys.take xs.length) ha os.rd hl
    simp [la, lb, g, hs, eq]
    exact Iff.rfl
  · have hn : ¬ isPre xs ys := fun k => by have := congrArg List.length k; simp at this; omega
    simp [la, lb, g, hn]
theorem sIsPrefixOf_c (a b : Value) (xs ys : List Int) (ha : Rd Fl.int H a xs) (hb : Rd Fl.int H b ys) (hl : xs.length ≤ 1073741824) :
   vcall C frz 137 [a, b] H = some (.bool (decide (isPre xs ys)), H) := by
  refine wp.exact (by simp) ?_ rfl
  rw [vcall_go (fn := Tryz.f137) Tryz.func137 rfl (by kernel_rfl) rfl]
  have la := ha.len (P := Tryz.prog) (ty := 24) (by simp)
  have lb := hb.len (P := Tryz.prog) (ty := 24) (by simp)
  generalize hY : decide (isPre xs ys) = Y
  have no : ¬ isPre xs ys → Y = false := fun hh => by rw [← hY]; exact decide_eq_false hh
  simp
  refine wp_inv (fun n t H' => ∃ i : Nat, n = xs.length - i ∧ i ≤ xs.length ∧ t 0 = a ∧ t 1 = b ∧ t 5 = .int .i64 i ∧ H' = H ∧ i ≤ ys.length ∧ xs.take i = ys.take i) ?_ (n := xs.length)
    ⟨0, rfl, by omega, by simp, by simp, by simp, rfl, by omega, by simp⟩
  rintro n t H' ⟨i, rfl, hi, t0, t1, t5, rfl, hy, hk⟩ ih
  simp [t0, t1, t5, la]
  refine wp_dec ?_ ?_ <;> intro g
  · have hi' : i < xs.length := by omega
    by_cases g1 : ys.length ≤ i
    · have hn : ¬ isPre xs ys := fun k => by have := congrArg List.length k; simp at this; omega
      simp
      rw [go_draw (h := by kernel_rfl)]
      simp [t0, t1, t5, la, lb, g1, no hn]
    · have hi2 : i < ys.length := by omega
      have q1 := ha.idx (P := Tryz.prog) (ty := 24) (e := 3) (by simp) (i := (i : Int)) (by omega) (by omega)
      have q2 := ha.isI.load (P := Tryz.prog) (e := 3) (by simp) hi'
      have p1 := hb.idx (P := Tryz.prog) (ty := 24) (e := 3) (by simp) (i := (i : Int)) (by omega) (by omega)
      have p2 := hb.isI.load (P := Tryz.prog) (e := 3) (by simp) hi2
      simp only [Int.toNat_natCast, getD_at hi', getD_at hi2, Fl.int_n, Nat.mul_one] at q1 q2 p1 p2
      have g1' : ¬ (ys.length : Int) ≤ i := by omega
      simp
      rw [go_draw (h := by kernel_rfl)]
      simp [t0, t1, t5, la, lb, g1, g1', q1, q2, p1, p2]
      refine wp_dec ?_ ?_ <;> intro g2
      · simp [t0, t1, t5]
        refine ih (xs.length - (i + 1)) _ _ ⟨i + 1, rfl, by omega, by simp [t0], by simp [t1], ?_, rfl, by omega, by rw [List.take_succ_eq_append_getElem hi', List.take_succ_eq_append_getElem hi2, hk, g2]⟩ (by omega)
        simp; rw [w64 (by omega) (by omega)]
      · have hn : ¬ isPre xs ys := fun k => g2 (by
          unfold isPre at k
          have h1 := congrArg (fun l => l[i]?) k
          simp [List.getElem?_take, hi', hi2] at h1
          exact h1)
        simp [t0, t1, t5, no hn]
  · have : i = xs.length := by omega
    subst this
    rw [List.take_length] at hk
    simp [t0, t1, t5, la]
    rw [← hY]; exact (decide_eq_true (p := isPre xs ys) hk)
theorem exists_take_succ {list : List PkD} {j : Nat} (h : j < list.length) {q : PkD → Prop} (h1 : ∀ p ∈ list.take j, ¬ q p) (h2 : ¬ q list[j]) : ∀ p ∈ list.take (j + 1), ¬ q p := fun p hp => by
  rcases mem_take_succ h hp with hp | rfl
  · exact h1 p hp
  · exact h2
theorem sAmong_w (u v : Value) (all : List Int) (list : List PkD) (a b c : Int) (hA : Rd Fl.int H u all) (hI : Rd pkF H v list) (hla : all.length ≤ 1073741824) (hl : list.length ≤ 1073741824) :
   wp (vcall C frz 138 [u, v, .int .i64 a, .int .i64 b, .int .i64 c] H) (NewInts H (among all list a b c)) := by
  rw [vcall_go (fn := Tryz.f138) Tryz.func138 rfl (by kernel_rfl) rfl]
  simp
  refine wp_inv (fun n t H' => ∃ (i : Nat) (out : Value), n = all.length - i ∧ i ≤ all.length ∧ t 0 = u ∧ t 1 = v ∧ t 2 = .int .i64 a ∧ t 3 = .int .i64 b ∧ t 4 = .int .i64 c ∧ t 11 = out ∧ t 12 = .int .i64 i ∧ NewInts H (among (all.take i) list a b c) out H') ?_ (n := all.length)
    ⟨0, .slice (some ⟨H.length, 0, some 0⟩) 0 0, rfl, by omega, by simp, by simp, by simp, by simp, by simp, by simp, by simp, Ow.new0 (D := Fl.int) (xs := []) rfl rfl rfl rfl, by simp, Chg.app _⟩
  rintro n t H' ⟨i, out, rfl, hi, t0, t1, t2, t3, t4, t11, t12, o, no, ch⟩ ih
  have ra := hA.chg ch (by simp)
  simp [t0, t1, t2, t3, t4, t11, t12, ra.len (P := Tryz.prog) (ty := 24) (by simp)]
  refine wp_dec ?_ ?_ <;> intro g
  · have hi' : i < all.length := by omega
    have hal := among_len (all.take i) list a b c
    have htl : (all.take i).length ≤ i := by simp; omega
    have hsu : among (all.take (i + 1)) list a b c = among (all.take i) list a b c ++ (if sentP list all[i] a b c then [all[i]] else []) := by
      unfold among; rw [List.take_succ_eq_append_getElem hi', List.filter_append]; congr 1; by_cases h : sentP list all[i] a b c <;> simp [h]
    simp [t0, t1, t2, t3, t4, t11, t12]
    refine wp_inv (fun n t G => ∃ (j : Nat), n = list.length - j ∧ j ≤ list.length ∧ t 0 = u ∧ t 1 = v ∧ t 2 = .int .i64 a ∧ t 3 = .int .i64 b ∧ t 4 = .int .i64 c ∧ t 11 = out ∧ t 12 = .int .i64 i ∧ t 13 = .int .i64 j ∧ NewInts H (among (all.take i) list a b c) out G ∧ ∀ p ∈ list.take j, ¬ (p.1 = all[i] ∧ isFlow a b c p)) ?_ (n := list.length)
      ⟨0, rfl, by omega, by simp [t0], by simp [t1], by simp [t2], by simp [t3], by simp [t4], by simp [t11], by simp [t12], by simp, ⟨o, no, ch⟩, by simp⟩
    clear o ch t0 t1 t2 t3 t4 t11 t12 ra no
    rintro n s G ⟨j, rfl, hj, t0, t1, t2, t3, t4, t11, t12, t13, ⟨o, no, ch⟩, hk⟩ ih2
    have rd := hI.chg ch (by simp)
    simp [t0, t1, t2, t3, t4, t11, t12, t13, rd.len (P := Tryz.prog) (ty := 47) (by simp)]
    refine wp_dec ?_ ?_ <;> intro g0
    · have hj' : j < list.length := by omega
      have ra := hA.chg ch (by simp)
      have p1 := fun L => (ra.app (L := L)).isI.idx (P := Tryz.prog) (ty := 24) (e := 3) (by simp) (i := (i : Int)) (by omega) (by omega)
      have p2 := fun L => (ra.app (L := L)).isI.load (P := Tryz.prog) (e := 3) (by simp) hi'
      have q1 := rd.idx (P := Tryz.prog) (ty := 47) (e := 76) (by simp) (i := (j : Int)) (by omega) (by omega)
      have q2 := rd.load (P := Tryz.prog) (e := 76) (by simp) hj'
      simp only [Int.toNat_natCast, pkF_n, getD_at hi'] at q1 q2 p1 p2
      have hF : H.length ≤ G.length := ch.1
      have hext := exists_take_succ (q := fun p => p.1 = all[i] ∧ isFlow a b c p) hj' hk
      have hmem := List.getElem_mem hj'
      obtain ⟨p, hp⟩ : ∃ p, p = list[j] := ⟨_, rfl⟩
      rw [← hp] at q2 hext hmem
      simp [t0, t1, t2, t3, t4, t11, t12, t13, q1, q2, pkF_f, hF, VM.look]
      rw [go_draw (h := by kernel_rfl)]
      simp [t0, t1, t2, t3, t4, t11, t12, t13, p1, p2, pkF_f, hF, VM.look]
      by_cases g1 : p.1 = all[i]
      rotate_left
      · simp [t0, t1, t2, t3, t4, t11, t12, t13, g1]
        refine ih2 (list.length - (j + 1)) _ _ ⟨j + 1, rfl, by omega, by simp [t0], by simp [t1], by simp [t2], by simp [t3], by simp [t4], by simp [t11], by simp [t12], ?_, ⟨o.app, no, ch.trans (Chg.app _)⟩, hext (fun k => g1 k.1)⟩ (by omega)
        simp; rw [w64 (by omega) (by omega)]
      simp [t0, t1, t2, t3, t4, t11, t12, t13, VM.look, g1]
      by_cases g2 : p.2.1 = a
      rotate_left
      · simp [t0, t1, t2, t3, t4, t11, t12, t13, g1, g2]
        refine ih2 (list.length - (j + 1)) _ _ ⟨j + 1, rfl, by omega, by simp [t0], by simp [t1], by simp [t2], by simp [t3], by simp [t4], by simp [t11], by simp [t12], ?_, ⟨o.app, no, ch.trans (Chg.app _)⟩, hext (fun k => g2 k.2.1)⟩ (by omega)
        simp; rw [w64 (by omega) (by omega)]
      simp [t0, t1, t2, t3, t4, t11, t12, t13, VM.look, g1, g2]
      by_cases g3 : p.2.2.1 = b
      rotate_left
      · simp [t0, t1, t2, t3, t4, t11, t12, t13, g1, g2, g3]
        refine ih2 (list.length - (j + 1)) _ _ ⟨j + 1, rfl, by omega, by simp [t0], by simp [t1], by simp [t2], by simp [t3], by simp [t4], by simp [t11], by simp [t12], ?_, ⟨o.app, no, ch.trans (Chg.app _)⟩, hext (fun k => g3 k.2.2.1)⟩ (by omega)
        simp; rw [w64 (by omega) (by omega)]
      simp [t0, t1, t2, t3, t4, t11, t12, t13, VM.look, g1, g2, g3]
      by_cases g4 : p.2.2.2.1 = c
      rotate_left
      · simp [t0, t1, t2, t3, t4, t11, t12, t13, g1, g2, g3, g4]
        refine ih2 (list.length - (j + 1)) _ _ ⟨j + 1, rfl, by omega, by simp [t0], by simp [t1], by simp [t2], by simp [t3], by simp [t4], by simp [t11], by simp [t12], ?_, ⟨o.app, no, ch.trans (Chg.app _)⟩, hext (fun k => g4 k.2.2.2)⟩ (by omega)
        simp; rw [w64 (by omega) (by omega)]
      simp [t0, t1, t2, t3, t4, t11, t12, t13, VM.look, g1, g2, g3, g4]
      have hS : sentP list all[i] a b c := ⟨p, hmem, g1, g2, g3, g4⟩
      obtain ⟨r', H2, hap, o2, c2, n2⟩ := (o.app (L := [⟨[.int .i64 all[i], .int .i64 a, .int .i64 b, .int .i64 c, .int .i64 p.2.2.2.2], 0, 76⟩])).push (P := Tryz.prog) (frz := H.length) (ty := 24) (a := all[i]) (by simp) rfl (by omega) no
      simp only [Fl.int_f, List.append_assoc, List.cons_append, List.nil_append, List.length_append, List.length_cons, List.length_nil] at hap
      simp [t0, t1, t2, t3, t4, t11, t12, t13, p1, p2, hap]
      refine ih (all.length - (i + 1)) _ _ ⟨i + 1, r', rfl, by omega, by simp [t0], by simp [t1], by simp [t2], by simp [t3], by simp [t4], by simp, ?_, by rw [hsu, if_pos hS]; exact o2, fun j hj => ?_, (ch.trans (Chg.app _)).trans' c2 (fun j hj => .inr (no j hj))⟩ (by omega)
      · simp [t12]; rw [w64 (by omega) (by omega)]
      · rcases n2 j hj with h1 | h1
        · exact no j h1
        · simp at h1; omega
    · have : j = list.length := by omega
      subst this
      rw [List.take_length] at hk
      have hno : ¬ sentP list all[i] a b c := fun ⟨p, h1, h2⟩ => hk p h1 h2
      simp [t0, t1, t2, t3, t4, t11, t12, t13]
      refine ih (all.length - (i + 1)) _ _ ⟨i + 1, out, rfl, by omega, by simp [t0], by simp [t1], by simp [t2], by simp [t3], by simp [t4], by simp [t11], ?_, by rw [hsu, if_neg hno, List.append_nil]; exact o, no, ch⟩ (by omega)
      simp; rw [w64 (by omega) (by omega)]
  · have : i = all.length := by omega
    subst this
    rw [List.take_length] at o
    simp [t0, t1, t2, t3, t4, t11, t12, ra.len (P := Tryz.prog) (ty := 24) (by simp)]
    exact ⟨o, no, ch⟩
end Go.Proofs.YtcigpclbhfkgaaaGreat.V
/-! The order of the packets of a flow. -/
set_option linter.all false
namespace Go.Proofs.YtcigpclbhfkgaaaGreat.V
open Go Go.VM Go.Proofs
set_option maxRecDepth 10000
variable {frz : Nat} {H : Heap}
theorem dropWhile_len {α : Type} (p : α → Bool) : ∀ l : List α, (l.dropWhile p).length ≤ l.length
  | [] => by simp
  | a :: l => by rw [List.dropWhile_cons]; split; · have := dropWhile_len p l; simp; omega
                 · simp
theorem trim_len (l : List FlitD) : (trim l).length ≤ l.length := by unfold trim; rw [List.length_reverse]; have := dropWhile_len (fun f : FlitD => !f.2.2.2.2) l.reverse; rw [List.length_reverse] at this; exact this
theorem wholePk_len (l : List FlitD) : (wholePk l).length ≤ l.length := by
  unfold wholePk; split
  · simp
  · exact (wpk_le l l.length).2
theorem arrIds_len (arr : SSD) (node : Nat) (c : Int) : (arrIds arr node c).length ≤ (arr.getD node []).length := by
  unfold arrIds
  exact Nat.le_trans (wholePk_len _) (Nat.le_trans (trim_len _) (List.length_filter_le _ _))
def flowOk (arr : SSD) (list : List PkD) (fr to : Nat) (c : Int) : Prop := isPre (among (arrIds arr to c) list fr to c) (sentIds list fr to c)
instance (arr : SSD) (list : List PkD) (fr to : Nat) (c : Int) : Decidable (flowOk arr list fr to c) := inferInstanceAs (Decidable (isPre _ _))
def keepsOk (x : NetD) (list : List PkD) : Prop := netOk x ∧ ∀ to, to < x.2.2.2.2.2.2.1.length → ∀ c : Nat, c < 2 → ∀ fr, fr < x.2.2.2.2.2.2.1.length → flowOk x.2.2.2.2.2.2.1 list fr to c
instance (x : NetD) (list : List PkD) : Decidable (keepsOk x list) := inferInstanceAs (Decidable (_ ∧ _))
theorem keepsOrder_d {v : NetV} {x : NetD} {u : Value} {list : List PkD} (o : dNet.Ow H v x) (hI : Rd pkF H u list) (hl : list.length ≤ 1073741824) : vcall C frz 86 [dNet.val v x, u] H = some (.bool (decide (keepsOk x list)), H) := by
  have ones := dNet_one o
  have nk := fun F L => netOk_d (frz := F) (H := H ++ L) (v := v) (x := x) (Dt.app (T := dNet) o)
  simp only [dNet_val] at nk ⊢
  refine wp.exact (by simp) ?_ rfl
  rw [vcall_go (fn := Tryz.f86) Tryz.func86 rfl (by kernel_rfl) rfl]
  generalize hY : decide (keepsOk x list) = Y
  have no : ¬ keepsOk x list → Y = false := fun hh => by rw [← hY]; exact decide_eq_false hh
  simp [ones, nk]
  by_cases g0 : netOk x
  rotate_left
  · simp [g0, no (fun k => g0 k.1)]
  simp [g0, ones]
  obtain ⟨G, hG⟩ : ∃ G, G = H ++ [⟨[.int .i64 x.1.1, .int .i64 x.1.2.1, v.1, v.2.1.1, v.2.1.2, v.2.2.1.1, v.2.2.2.1, v.2.2.2.2.1, v.2.2.2.2.2.1.1, v.2.2.2.2.2.2.1.1, .int .i64 x.2.2.2.2.2.2.2], 0, 46⟩] := ⟨_, rfl⟩
  rw [← hG]
  have b0 : G[H.length]? = some ⟨[.int .i64 x.1.1, .int .i64 x.1.2.1, v.1, v.2.1.1, v.2.1.2, v.2.2.1.1, v.2.2.2.1, v.2.2.2.2.1, v.2.2.2.2.2.1.1, v.2.2.2.2.2.2.1.1, .int .i64 x.2.2.2.2.2.2.2], 0, 46⟩ := by rw [hG]; simp
  have hGl : H.length < G.length := by rw [hG]; simp
  have h9 : dSS.Ow G v.2.2.2.2.2.2.1 x.2.2.2.2.2.2.1 := by rw [hG]; exact Dt.app (T := dSS) o.2.2.2.2.2.2.1
  have hI' : Rd pkF G u list := by rw [hG]; exact hI.app
  obtain ⟨arr, harr⟩ : ∃ a, a = x.2.2.2.2.2.2.1 := ⟨_, rfl⟩
  rw [← harr] at h9
  have hkeep : (∀ to, to < arr.length → ∀ c : Nat, c < 2 → ∀ fr, fr < arr.length → flowOk arr list fr to c) → Y = true := fun k => by rw [← hY, decide_eq_true]; exact ⟨g0, by rw [← harr]; exact k⟩
  have hfail : ∀ to, to < arr.length → ∀ c : Nat, c < 2 → ∀ fr, fr < arr.length → ¬ flowOk arr list fr to c → Y = false := fun to h1 c h2 fr h3 h4 => no (fun k => h4 (by have := k.2; rw [← harr] at this; exact this to h1 c h2 fr h3))
  have hal := h9.2.1
  have l9 := h9.1.1.rd.len (P := Tryz.prog) (ty := 44) (by simp)
  rw [h9.1.2.1] at l9
  clear hG hY no
  simp [b0, VM.look, l9]
  refine wp_inv (fun n t G1 => ∃ i : Nat, n = arr.length - i ∧ i ≤ arr.length ∧ t 1 = u ∧ t 2 = .pointer (some ⟨H.length, 0, some 0⟩) ∧ t 15 = .int .i64 arr.length ∧ t 16 = .int .i64 i ∧ Chg G G1 [] ∧ ∀ to, to < i → ∀ c : Nat, c < 2 → ∀ fr, fr < arr.length → flowOk arr list fr to c) ?_ (n := arr.length)
    ⟨0, rfl, by omega, by simp, by simp, by simp, by simp, Chg.refl _, fun _ h => absurd h (by omega)⟩
  rintro n t G1 ⟨i, rfl, hi, t1, t2, t15, t16, ch, hk⟩ ih
  simp [t1, t2, t15, t16]
  refine wp_dec ?_ ?_ <;> intro g
  rotate_left
  · have : i = arr.length := by omega
    subst this
    simp [t1, t2, t15, t16]
    exact hkeep hk
  have hi' : i < arr.length := by omega
  simp [t1, t2, t15, t16]
  refine wp_inv (fun n t G1 => ∃ k : Nat, n = 2 - k ∧ k ≤ 2 ∧ t 1 = u ∧ t 2 = .pointer (some ⟨H.length, 0, some 0⟩) ∧ t 5 = .int .i64 i ∧ t 15 = .int .i64 arr.length ∧ t 16 = .int .i64 i ∧ t 19 = .int .i64 k ∧ Chg G G1 [] ∧ ∀ c : Nat, c < k → ∀ fr, fr < arr.length → flowOk arr list fr i c) ?_ (n := 2)
    ⟨0, rfl, by omega, by simp [t1], by simp [t2], by simp, by simp [t15], by simp [t16], by simp, ch, fun _ h => absurd h (by omega)⟩
  clear ch t1 t2 t15 t16
  rintro n t G1 ⟨k, rfl, hk2, t1, t2, t5, t15, t16, t19, ch, hc⟩ ih2
  simp [t1, t2, t5, t15, t16, t19]
  refine wp_dec ?_ ?_ <;> intro g2
  rotate_left
  · have : k = 2 := by omega
    subst this
    simp [t1, t2, t5, t15, t16, t19]
    refine ih (arr.length - (i + 1)) _ _ ⟨i + 1, rfl, by omega, by simp [t1], by simp [t2], by simp [t15], ?_, ch, fun to h => ?_⟩ (by omega)
    · simp; rw [w64 (by omega) (by omega)]
    · rcases Nat.lt_succ_iff_lt_or_eq.1 h with h | rfl
      · exact hk to h
      · exact hc
  have b1 := box_chg b0 ch (by simp)
  have h91 := Dt.chg (T := dSS) h9 ch (by simp)
  have hm := h91.2.2 _ (List.getElem_mem hi')
  have hg : arr.getD i [] = arr[i] := by simp [List.getD_eq_getElem?_getD, hi']
  simp [t1, t2, t5, t15, t16, t19]
  refine wp_thn (arrived_w b1 h91 hi') ?_
  rintro _ G2 ⟨s, ok, rfl, os, ns, c2⟩
  have b2 := box_chg b1 c2 (by simp)
  have h92 := Dt.chg (T := dSS) h91 c2 (by simp)
  have l92 := h92.1.1.rd.len (P := Tryz.prog) (ty := 44) (by simp)
  rw [h92.1.2.1] at l92
  have hal2 := arrIds_len arr i k
  rw [hg] at hal2
  have hb2 : (arrIds arr i k).length ≤ 67108864 := by omega
  simp [t1, t2, t5, t15, t16, t19, b2, VM.look, l92]
  have ch2 : Chg G G2 [] := ch.trans c2
  refine wp_inv (fun n t G3 => ∃ j : Nat, n = arr.length - j ∧ j ≤ arr.length ∧ t 1 = u ∧ t 2 = .pointer (some ⟨H.length, 0, some 0⟩) ∧ t 5 = .int .i64 i ∧ t 6 = .int .i64 k ∧ t 7 = s ∧ t 15 = .int .i64 arr.length ∧ t 16 = .int .i64 i ∧ t 19 = .int .i64 k ∧ t 30 = .int .i64 arr.length ∧ t 31 = .int .i64 j ∧ Chg G2 G3 [] ∧ ∀ fr, fr < j → flowOk arr list fr i k) ?_ (n := arr.length)
    ⟨0, rfl, by omega, by simp [t1], by simp [t2], by simp [t5], by simp, by simp, by simp [t15], by simp [t16], by simp [t19], by simp, by simp, Chg.refl _, fun _ h => absurd h (by omega)⟩
  clear t1 t2 t5 t15 t16 t19
  rintro n t G3 ⟨j, rfl, hj, t1, t2, t5, t6, t7, t15, t16, t19, t30, t31, c3, hf⟩ ih3
  simp [t1, t2, t5, t6, t7, t15, t16, t19, t30, t31]
  refine wp_dec ?_ ?_ <;> intro g3
  rotate_left
  · have : j = arr.length := by omega
    subst this
    simp [t1, t2, t5, t6, t7, t15, t16, t19, t30, t31]
    refine ih2 (2 - (k + 1)) _ _ ⟨k + 1, rfl, by omega, by simp [t1], by simp [t2], by simp [t5], by simp [t15], by simp [t16], ?_, ch2.trans c3, fun c h => ?_⟩ (by omega)
    · simp; rw [w64 (by omega) (by omega)]
    · rcases Nat.lt_succ_iff_lt_or_eq.1 h with h | rfl
      · exact hc c h
      · exact hf
  have hj' : j < arr.length := by omega
  have os3 := os.chg c3 (by simp)
  have hI3 : Rd pkF G3 u list := hI'.chg (ch2.trans c3) (by simp)
  simp [t1, t2, t5, t6, t7, t15, t16, t19, t30, t31]
  refine wp_thn (sentAmong_w s u _ list j i k os3.rd hI3 (by omega) hl) ?_
  rintro r4 G4 ⟨o4, n4, c4⟩
  have hI4 := hI3.chg c4 (by simp)
  simp [t1, t2, t5, t6, t7, t15, t16, t19, t30, t31]
  refine wp_thn (sentFrom_w u list j i k hI4 hl) ?_
  rintro r5 G5 ⟨o5, n5, c5⟩
  have o45 := o4.chg c5 (by simp)
  have hal3 := among_len (arrIds arr i k) list j i k
  have ip := fun F => isPrefixOf_c (frz := F) (H := G5) r4 r5 _ _ o45.rd o5 (by omega)
  simp [t1, t2, t5, t6, t7, t15, t16, t19, t30, t31, ip]
  by_cases g5 : flowOk arr list j i k
  · have g5' : isPre (among (arrIds arr i k) list j i k) (sentIds list j i k) := g5
    simp [t1, t2, t5, t6, t7, t15, t16, t19, t30, t31, g5']
    refine ih3 (arr.length - (j + 1)) _ _ ⟨j + 1, rfl, by omega, by simp [t1], by simp [t2], by simp [t5], by simp [t6], by simp [t7], by simp [t15], by simp [t16], by simp [t19], by simp [t30], ?_, (c3.trans c4).trans c5, fun fr h => ?_⟩ (by omega)
    · simp; rw [w64 (by omega) (by omega)]
    · rcases Nat.lt_succ_iff_lt_or_eq.1 h with h | rfl
      · exact hf fr h
      · exact g5
  · have g5' : ¬ isPre (among (arrIds arr i k) list j i k) (sentIds list j i k) := g5
    simp [t1, t2, t5, t6, t7, t15, t16, t19, t30, t31, g5']
    exact hfail i hi' k (by omega) j hj' g5
theorem sKeepsOrder_d {v : NetV} {x : NetD} {u : Value} {list : List PkD} (o : dNet.Ow H v x) (hI : Rd pkF H u list) (hl : list.length ≤ 1073741824) : vcall C frz 81 [dNet.val v x, u] H = some (.bool (decide (keepsOk x list)), H) := by
  have ones := dNet_one o
  have nk := fun F L => sNetOk_d (frz := F) (H := H ++ L) (v := v) (x := x) (Dt.app (T := dNet) o)
  simp only [dNet_val] at nk ⊢
  refine wp.exact (by simp) ?_ rfl
  rw [vcall_go (fn := Tryz.f81) Tryz.func81 rfl (by kernel_rfl) rfl]
  generalize hY : decide (keepsOk x list) = Y
  have no : ¬ keepsOk x list → Y = false := fun hh => by rw [← hY]; exact decide_eq_false hh
  simp [ones, nk]
  by_cases g0 : netOk x
  rotate_left
  · simp [g0, no (fun k => g0 k.1)]
  have hcnt := g0.2.1.2.2.2.2
  have hcr := cnt_range x.1.1 x.1.2.1
  simp [g0, ones, sNodeCount_c]
  obtain ⟨G, hG⟩ : ∃ G, G = H ++ [⟨[.int .i64 x.1.1, .int .i64 x.1.2.1, v.1, v.2.1.1, v.2.1.2, v.2.2.1.1, v.2.2.2.1, v.2.2.2.2.1, v.2.2.2.2.2.1.1, v.2.2.2.2.2.2.1.1, .int .i64 x.2.2.2.2.2.2.2], 0, 46⟩] := ⟨_, rfl⟩
  rw [← hG]
  have b0 : G[H.length]? = some ⟨[.int .i64 x.1.1, .int .i64 x.1.2.1, v.1, v.2.1.1, v.2.1.2, v.2.2.1.1, v.2.2.2.1, v.2.2.2.2.1, v.2.2.2.2.2.1.1, v.2.2.2.2.2.2.1.1, .int .i64 x.2.2.2.2.2.2.2], 0, 46⟩ := by rw [hG]; simp
  have oG : dNet.Ow G v x := by rw [hG]; exact Dt.app (T := dNet) o
  have hI' : Rd pkF G u list := by rw [hG]; exact hI.app
  have at22 := fun F G' c i (hc : Chg G G' []) (hi : i < x.2.2.2.2.2.2.1.length) => sArrived_w (frz := F) (H := G') (k := c) (Dt.chg (T := dNet) oG hc (by simp)) hi
  have hb9 := oG.2.2.2.2.2.2.1.2.2
  simp only [dNet_val] at at22
  obtain ⟨arr, harr⟩ : ∃ a, a = x.2.2.2.2.2.2.1 := ⟨_, rfl⟩
  rw [← harr] at at22 hcnt hb9
  rw [← hcnt]
  rw [← hcnt] at hcr
  have hkeep : (∀ to, to < arr.length → ∀ c : Nat, c < 2 → ∀ fr, fr < arr.length → flowOk arr list fr to c) → Y = true := fun k => by rw [← hY, decide_eq_true]; exact ⟨g0, by rw [← harr]; exact k⟩
  have hfail : ∀ to, to < arr.length → ∀ c : Nat, c < 2 → ∀ fr, fr < arr.length → ¬ flowOk arr list fr to c → Y = false := fun to h1 c h2 fr h3 h4 => no (fun k => h4 (by have := k.2; rw [← harr] at this; exact this to h1 c h2 fr h3))
  clear hG hY no
  refine wp_inv (fun n t G1 => ∃ i : Nat, n = 2 * arr.length - i ∧ i ≤ 2 * arr.length ∧ t 1 = u ∧ t 2 = .pointer (some ⟨H.length, 0, some 0⟩) ∧ t 5 = .int .i64 arr.length ∧ t 6 = .int .i64 i ∧ Chg G G1 [] ∧ ∀ m, m < i → ∀ fr, fr < arr.length → flowOk arr list fr (m / 2) ((m % 2 : Nat) : Int)) ?_ (n := 2 * arr.length)
    ⟨0, rfl, by omega, by simp, by simp, by simp, by simp, Chg.refl _, fun _ h => absurd h (by omega)⟩
  rintro n t G1 ⟨i, rfl, hi, t1, t2, t5, t6, ch, hk⟩ ih
  have e0 : ∀ [Inhabited Unit], IntKind.i64.wrap (2 * (arr.length : Int)) = 2 * (arr.length : Int) := by intro _; exact w64 (by omega) (by omega)
  simp [t1, t2, t5, t6, e0]
  refine wp_dec ?_ ?_ <;> intro g
  rotate_left
  · simp [t1, t2, t5, t6]
    refine hkeep fun to h1 c h2 fr h3 => ?_
    have := hk (to * 2 + c) (by omega) fr h3
    rw [show (to * 2 + c) / 2 = to by omega, show (to * 2 + c) % 2 = c by omega] at this
    exact this
  obtain ⟨q, hq⟩ : ∃ q, q = i / 2 := ⟨_, rfl⟩
  obtain ⟨r, hr⟩ : ∃ r, r = i % 2 := ⟨_, rfl⟩
  have e1 : ∀ [Inhabited Unit], IntKind.i64.wrap ((i : Int) / 2) = (q : Int) := by intro _; rw [w64 (by omega) (by omega)]; omega
  have e2 : (i : Int).tmod 2 = (r : Int) := by rw [tmod2, hr]; omega
  have hi' : q < arr.length := by omega
  have hr2 : r < 2 := by omega
  have b1 := box_chg b0 ch (by simp)
  have hm := hb9 _ (List.getElem_mem hi')
  have hg : arr.getD q [] = arr[q] := by simp [List.getD_eq_getElem?_getD, hi']
  simp [t1, t2, t5, t6, e1, e2, VM.look, b1, ones]
  refine wp_thn (at22 _ _ _ _ ch hi') ?_
  rintro _ G2 ⟨s, ok, rfl, os, ns, c2⟩
  have b2 := box_chg b1 c2 (by simp)
  have hal2 := arrIds_len arr q r
  rw [hg] at hal2
  have hb2 : (arrIds arr q r).length ≤ 67108864 := by omega
  have ch2 : Chg G G2 [] := ch.trans c2
  have emp : arrIds arr q r = [] → ∀ fr, flowOk arr list fr q r := fun e fr => by unfold flowOk; rw [e]; rfl
  simp [t1, t2, t5, t6]
  refine wp_inv (fun n t G3 => ∃ j : Nat, n = arr.length - j ∧ j ≤ arr.length ∧ t 1 = u ∧ t 2 = .pointer (some ⟨H.length, 0, some 0⟩) ∧ t 5 = .int .i64 arr.length ∧ t 6 = .int .i64 i ∧ t 7 = s ∧ t 9 = .int .i64 j ∧ Chg G2 G3 [] ∧ ∀ fr, fr < j → flowOk arr list fr q r) ?_ (n := arr.length)
    ⟨0, rfl, by omega, by simp [t1], by simp [t2], by simp [t5], by simp [t6], by simp, by simp, Chg.refl _, fun _ h => absurd h (by omega)⟩
  clear t1 t2 t5 t6
  rintro n t G3 ⟨j, rfl, hj, t1, t2, t5, t6, t7, t9, c3, hf⟩ ih3
  have os3 := os.chg c3 (by simp)
  have ls := os3.rd.len (P := Tryz.prog) (ty := 24) (by simp)
  have leave : ∀ t' : Env, t' 1 = u → t' 2 = .pointer (some ⟨H.length, 0, some 0⟩) → t' 5 = .int .i64 arr.length → t' 6 = .int .i64 ((i + 1 : Nat) : Int) → (∀ fr, fr < arr.length → flowOk arr list fr q r) → (∃ i' : Nat, 2 * arr.length - (i + 1) = 2 * arr.length - i' ∧ i' ≤ 2 * arr.length ∧ t' 1 = u ∧ t' 2 = .pointer (some ⟨H.length, 0, some 0⟩) ∧ t' 5 = .int .i64 arr.length ∧ t' 6 = .int .i64 i' ∧ Chg G G3 [] ∧ ∀ m, m < i' → ∀ fr, fr < arr.length → flowOk arr list fr (m / 2) ((m % 2 : Nat) : Int)) := by
    intro t' h1 h2 h5 h6 hh
    refine ⟨i + 1, rfl, by omega, h1, h2, h5, h6, ch2.trans c3, fun m hm fr hfr => ?_⟩
    rcases Nat.lt_succ_iff_lt_or_eq.1 hm with hm | rfl
    · exact hk m hm fr hfr
    · rw [← hq, ← hr]; exact hh fr hfr
  by_cases g3 : j < arr.length
  rotate_left
  · have : j = arr.length := by omega
    subst this
    simp [t1, t2, t5, t6, t7, t9]
    refine ih _ _ _ (leave _ (by simp [t1]) (by simp [t2]) (by simp [t5]) ?_ hf) (by omega)
    simp; rw [w64 (by omega) (by omega)]
  by_cases g4 : arrIds arr q r = []
  · simp [t1, t2, t5, t6, t7, t9, g3, ls, g4]
    refine ih _ _ _ (leave _ (by simp [t1]) (by simp [t2]) (by simp [t5]) ?_ (fun fr _ => emp g4 fr)) (by omega)
    simp; rw [w64 (by omega) (by omega)]
  have g4' := List.length_pos_iff.2 g4
  have hI3 : Rd pkF G3 u list := hI'.chg (ch2.trans c3) (by simp)
  simp [t1, t2, t5, t6, t7, t9, g3, ls, g4', e1, e2]
  refine wp_thn (sAmong_w s u _ list j q r os3.rd hI3 (by omega) hl) ?_
  rintro r4 G4 ⟨o4, n4, c4⟩
  have hI4 := hI3.chg c4 (by simp)
  simp [t1, t2, t5, t6, t7, t9, e1, e2]
  refine wp_thn (sSentFrom_w u list j q r hI4 hl) ?_
  rintro r5 G5 ⟨o5, n5, c5⟩
  have o45 := o4.chg c5 (by simp)
  have hal3 := among_len (arrIds arr q r) list j q r
  have ip := fun F => sIsPrefixOf_c (frz := F) (H := G5) r4 r5 _ _ o45.rd o5.rd (by omega)
  simp [t1, t2, t5, t6, t7, t9, ip]
  by_cases g5 : flowOk arr list j q r
  · have g5' : isPre (among (arrIds arr q r) list j q r) (sentIds list j q r) := g5
    simp [t1, t2, t5, t6, t7, t9, g5']
    refine ih3 (arr.length - (j + 1)) _ _ ⟨j + 1, rfl, by omega, by simp [t1], by simp [t2], by simp [t5], by simp [t6], by simp [t7], ?_, (c3.trans c4).trans c5, fun fr h => ?_⟩ (by omega)
    · simp; rw [w64 (by omega) (by omega)]
    · rcases Nat.lt_succ_iff_lt_or_eq.1 h with h | rfl
      · exact hf fr h
      · exact g5
  · have g5' : ¬ isPre (among (arrIds arr q r) list j q r) (sentIds list j q r) := g5
    simp [t1, t2, t5, t6, t7, t9, g5']
    exact hfail q hi' r hr2 j (by omega) g5
end Go.Proofs.YtcigpclbhfkgaaaGreat.V
/-! Packets that have not arrived. -/
set_option linter.all false
namespace Go.Proofs.YtcigpclbhfkgaaaGreat.V
open Go Go.VM Go.Proofs
set_option maxRecDepth 10000
variable {frz : Nat} {H : Heap}
/-- the first place where a test holds, or -1 -/
def placeK (p : PkD → Bool) (b : List PkD) : Int := if b.any p then b.findIdx p else -1
theorem placeK_range (p : PkD → Bool) (b : List PkD) : -1 ≤ placeK p b ∧ placeK p b < b.length ∧ (0 ≤ placeK p b ↔ b.any p = true) := by
  unfold placeK
  split
  · rename_i h
    obtain ⟨x, hx, hp⟩ := List.any_eq_true.1 h
    have := List.findIdx_lt_length_of_exists ⟨x, hx, hp⟩
    refine ⟨by omega, by omega, ?_⟩
    simp only [h, iff_true]; omega
  · rename_i h
    refine ⟨by omega, by omega, ?_⟩
    simp only [h]; simp
theorem placeK_at {p : PkD → Bool} {b : List PkD} {i : Nat} (h : i < b.length) (h1 : ∀ x ∈ b.take i, p x = false) (h2 : p b[i] = true) : placeK p b = i := by
  unfold placeK
  rw [if_pos (List.any_eq_true.2 ⟨b[i], List.getElem_mem h, h2⟩)]
  congr 1
  rw [List.findIdx_eq h]
  refine ⟨h2, fun j hj => ?_⟩
  refine Bool.eq_false_iff.1 ?_ |> fun hh => by simpa using hh
  exact h1 _ (by rw [List.mem_take_iff_getElem]; exact ⟨j, by omega, rfl⟩)
def missOk (x : NetD) (list : List PkD) : Prop := netOk x ∧ ∀ p ∈ list, packetOk x.1.1 x.1.2.1 p
instance (x : NetD) (list : List PkD) : Decidable (missOk x list) := inferInstanceAs (Decidable (_ ∧ _))
/-- the packet has not arrived -/
def lackP (arr : SSD) (p : PkD) : Bool := !decide (p.1 ∈ arrIds arr p.2.2.1.toNat p.2.2.2.1)
def lacks (x : NetD) (list : List PkD) : List Int := (list.filter (lackP x.2.2.2.2.2.2.1)).map (·.1)
theorem lacks_succ {arr : SSD} {list : List PkD} {i : Nat} (h : i < list.length) : ((list.take (i + 1)).filter (lackP arr)).map (·.1) = ((list.take i).filter (lackP arr)).map (·.1) ++ (if lackP arr list[i] = true then [list[i].1] else []) := by
  rw [List.take_succ_eq_append_getElem h, List.filter_append, List.map_append]; congr 1; cases h : lackP arr list[i] <;> simp [h]
def missing (x : NetD) (list : List PkD) : List Int := if missOk x list then lacks x list else []
theorem lacks_len (x : NetD) (list : List PkD) : (lacks x list).length ≤ list.length := by unfold lacks; rw [List.length_map]; exact List.length_filter_le _ _
end Go.Proofs.YtcigpclbhfkgaaaGreat.V
/-! Valid chips; what is delivered. -/
set_option linter.all false
namespace Go.Proofs.YtcigpclbhfkgaaaGreat.V
open Go Go.VM Go.Proofs
set_option maxRecDepth 10000
variable {frz : Nat} {H : Heap}
abbrev pk0 : PkD := (0, 0, 0, 0, 0)
def sentOk (w h : Int) (list : List PkD) : Prop := ∀ i, i < list.length → packetOk w h (list.getD i pk0) ∧ (list.getD i pk0).1 = (i : Int) + 1
instance (w h : Int) (list : List PkD) : Decidable (sentOk w h list) := inferInstanceAs (Decidable (∀ i, i < _ → _))
def chipOk (a : ChipD) : Prop := netOk a.1 ∧ a.2.length ≤ 200 ∧ sentOk a.1.1.1 a.1.1.2.1 a.2 ∧ keepsOk a.1 a.2
instance (a : ChipD) : Decidable (chipOk a) := inferInstanceAs (Decidable (_ ∧ _))
def delivered (a : ChipD) : Int := if chipOk a then (a.2.length : Int) - (missing a.1 a.2).length else -1
theorem chipOk_d {v : ChipV} {a : ChipD} (o : dChip.Ow H v a) : vcall C frz 32 [dChip.val v a] H = some (.bool (decide (chipOk a)), H) := by
  have oneA := dChip_one o
  have ones := oneA.1
  have one2 := oneA.2
  have o1 := o.1
  have rs := o.2.1.rd
  have nk := fun F L => netOk_d (frz := F) (H := H ++ L) (v := v.1) (x := a.1) (Dt.app (T := dNet) o1)
  have ko := fun F H' (c : Chg H H' []) => keepsOrder_d (frz := F) (H := H') (u := v.2) (list := a.2) (Dt.chg (T := dNet) o1 c (by simp)) (rs.chg c (by simp)) o.2.2
  simp only [dNet_val] at nk ko
  rw [dChip_val]
  refine wp.exact (by simp) ?_ rfl
  rw [vcall_go (fn := Tryz.f32) Tryz.func32 rfl (by kernel_rfl) rfl]
  have hY : ∀ Y, (chipOk a → Y = true) → (¬ chipOk a → Y = false) → Y = decide (chipOk a) := fun Y h1 h2 => by
    by_cases g : chipOk a
    · rw [h1 g, decide_eq_true g]
    · rw [h2 g, decide_eq_false g]
  have hno : ¬ chipOk a → false = decide (chipOk a) := fun g => by rw [decide_eq_false g]
  have hG : (H ++ [⟨[.int .i64 a.1.1.1, .int .i64 a.1.1.2.1, v.1.1, v.1.2.1.1, v.1.2.1.2, v.1.2.2.1.1, v.1.2.2.2.1, v.1.2.2.2.2.1, v.1.2.2.2.2.2.1.1, v.1.2.2.2.2.2.2.1.1, .int .i64 a.1.2.2.2.2.2.2.2, v.2], 0, 49⟩])[H.length]? = some ⟨[.int .i64 a.1.1.1, .int .i64 a.1.1.2.1, v.1.1, v.1.2.1.1, v.1.2.1.2, v.1.2.2.1.1, v.1.2.2.2.1, v.1.2.2.2.2.1, v.1.2.2.2.2.2.1.1, v.1.2.2.2.2.2.2.1.1, .int .i64 a.1.2.2.2.2.2.2.2, v.2], 0, 49⟩ := by simp
  have cG : Chg H (H ++ [⟨[.int .i64 a.1.1.1, .int .i64 a.1.1.2.1, v.1.1, v.1.2.1.1, v.1.2.1.2, v.1.2.2.1.1, v.1.2.2.2.1, v.1.2.2.2.2.1, v.1.2.2.2.2.2.1.1, v.1.2.2.2.2.2.2.1.1, .int .i64 a.1.2.2.2.2.2.2.2, v.2], 0, 49⟩]) [] := Chg.app _
  simp [ones, one2, nk]
  by_cases g0 : netOk a.1
  rotate_left
  · simp [g0]; exact fun k => g0 k.1
  have ls := fun L => (rs.app (L := L)).len (P := Tryz.prog) (ty := 47) (by simp)
  simp [g0, ones, one2, ls]
  by_cases g1 : 200 < a.2.length
  · have g1' : (200 : Int) < a.2.length := by omega
    simp [g1, g1']; exact fun k => by have := k.2.1; omega
  have g1' : ¬ (200 : Int) < a.2.length := by omega
  simp [g1, g1', ones, one2, ls]
  refine wp_inv (fun n t H' => ∃ (i : Nat), n = a.2.length - i ∧ i ≤ a.2.length ∧ t 1 = .pointer (some ⟨H.length, 0, some 0⟩) ∧ t 16 = v.2 ∧ t 17 = .int .i64 a.2.length ∧ t 18 = .int .i64 i ∧ Chg H H' [] ∧ H'[H.length]? = some ⟨[.int .i64 a.1.1.1, .int .i64 a.1.1.2.1, v.1.1, v.1.2.1.1, v.1.2.1.2, v.1.2.2.1.1, v.1.2.2.2.1, v.1.2.2.2.2.1, v.1.2.2.2.2.2.1.1, v.1.2.2.2.2.2.2.1.1, .int .i64 a.1.2.2.2.2.2.2.2, v.2], 0, 49⟩ ∧ ∀ j, j < i → packetOk a.1.1.1 a.1.1.2.1 (a.2.getD j pk0) ∧ (a.2.getD j pk0).1 = (j : Int) + 1) ?_ (n := a.2.length)
    ⟨0, rfl, by omega, by simp, by simp, by simp, by simp, cG, hG, fun _ h => absurd h (by omega)⟩
  rintro n t H' ⟨i, rfl, hi, t1, t16, t17, t18, ch, bb, hk⟩ ih
  have rd := rs.chg ch (by simp)
  have ll := rd.len (P := Tryz.prog) (ty := 47) (by simp)
  simp [t1, t16, t17, t18, VM.look, bb, ll]
  refine wp_dec ?_ ?_ <;> intro g
  rotate_left
  · have : i = a.2.length := by omega
    have hs : sentOk a.1.1.1 a.1.1.2.1 a.2 := fun j hj => hk j (by omega)
    have ko' := fun F => ko F H' ch
    simp [t1, t16, t17, t18, VM.look, bb, ones, one2, ko']
    exact ⟨fun k => ⟨g0, by omega, hs, k⟩, fun k => k.2.2.2⟩
  have hi' : i < a.2.length := by omega
  have hF : H.length ≤ H'.length := ch.1
  have q1 := rd.idx (P := Tryz.prog) (ty := 47) (e := 76) (by simp) (i := (i : Int)) (by omega) (by omega)
  have q2 := rd.load (P := Tryz.prog) (e := 76) (by simp) hi'
  simp only [Int.toNat_natCast, pkF_n] at q1 q2
  have hgd : a.2.getD i pk0 = a.2[i] := by simp [List.getD_eq_getElem?_getD, hi']
  have hfail : ¬ (packetOk a.1.1.1 a.1.1.2.1 a.2[i] ∧ a.2[i].1 = (i : Int) + 1) → ¬ chipOk a := fun k c => k (by have := c.2.2.1 i hi'; rwa [hgd] at this)
  have e1 : ∀ [Inhabited Unit], IntKind.i64.wrap ((i : Int) + 1) = (i : Int) + 1 := by intro _; exact w64 (by omega) (by omega)
  have hnx : packetOk a.1.1.1 a.1.1.2.1 a.2[i] → a.2[i].1 = (i : Int) + 1 → ∀ j, j < i + 1 → packetOk a.1.1.1 a.1.1.2.1 (a.2.getD j pk0) ∧ (a.2.getD j pk0).1 = (j : Int) + 1 := fun k1 k2 j hj => by
    rcases Nat.lt_succ_iff_lt_or_eq.1 hj with hj | rfl
    · exact hk j hj
    · rw [hgd]; exact ⟨k1, k2⟩
  obtain ⟨p, hp⟩ : ∃ p, p = a.2[i] := ⟨_, rfl⟩
  have pk := fun F L => packetOk_c (frz := F) (H := H' ++ L) a.1.1.1 a.1.1.2.1 p
  unfold pkV at pk
  rw [← hp] at q2 hfail hnx
  have bb2 := fun r => get_app' bb [r]
  simp [t1, t16, t17, t18, q1, q2, pkF_f, hF, VM.look, bb2, pk]
  by_cases g2 : packetOk a.1.1.1 a.1.1.2.1 p
  rotate_left
  · simp [g2]; exact hfail (fun k => g2 k.1)
  by_cases g3 : p.1 = (i : Int) + 1
  rotate_left
  · simp [t1, t16, t17, t18, g2, g3, VM.look, e1]; exact hfail (fun k => g3 k.2)
  simp [t1, t16, t17, t18, g2, g3, VM.look, e1]
  refine ih (a.2.length - (i + 1)) _ _ ⟨i + 1, rfl, by omega, by simp [t1], by simp [t16], by simp [t17], by simp [t18], ch.trans (Chg.app _), get_app' bb _, hnx g2 g3⟩ (by omega)
theorem sChipOk_d {v : ChipV} {a : ChipD} (o : dChip.Ow H v a) : vcall C frz 28 [dChip.val v a] H = some (.bool (decide (chipOk a)), H) := by
  have oneA := dChip_one o
  have ones := oneA.1
  have one2 := oneA.2
  have o1 := o.1
  have rs := o.2.1.rd
  have nk := fun F L => sNetOk_d (frz := F) (H := H ++ L) (v := v.1) (x := a.1) (Dt.app (T := dNet) o1)
  have ko := fun F H' (c : Chg H H' []) => sKeepsOrder_d (frz := F) (H := H') (u := v.2) (list := a.2) (Dt.chg (T := dNet) o1 c (by simp)) (rs.chg c (by simp)) o.2.2
  simp only [dNet_val] at nk ko
  rw [dChip_val]
  refine wp.exact (by simp) ?_ rfl
  rw [vcall_go (fn := Tryz.f28) Tryz.func28 rfl (by kernel_rfl) rfl]
  have hY : ∀ Y, (chipOk a → Y = true) → (¬ chipOk a → Y = false) → Y = decide (chipOk a) := fun Y h1 h2 => by
    by_cases g : chipOk a
    · rw [h1 g, decide_eq_true g]
    · rw [h2 g, decide_eq_false g]
  have hno : ¬ chipOk a → false = decide (chipOk a) := fun g => by rw [decide_eq_false g]
  have hG : (H ++ [⟨[.int .i64 a.1.1.1, .int .i64 a.1.1.2.1, v.1.1, v.1.2.1.1, v.1.2.1.2, v.1.2.2.1.1, v.1.2.2.2.1, v.1.2.2.2.2.1, v.1.2.2.2.2.2.1.1, v.1.2.2.2.2.2.2.1.1, .int .i64 a.1.2.2.2.2.2.2.2, v.2], 0, 49⟩])[H.length]? = some ⟨[.int .i64 a.1.1.1, .int .i64 a.1.1.2.1, v.1.1, v.1.2.1.1, v.1.2.1.2, v.1.2.2.1.1, v.1.2.2.2.1, v.1.2.2.2.2.1, v.1.2.2.2.2.2.1.1, v.1.2.2.2.2.2.2.1.1, .int .i64 a.1.2.2.2.2.2.2.2, v.2], 0, 49⟩ := by simp
  have cG : Chg H (H ++ [⟨[.int .i64 a.1.1.1, .int .i64 a.1.1.2.1, v.1.1, v.1.2.1.1, v.1.2.1.2, v.1.2.2.1.1, v.1.2.2.2.1, v.1.2.2.2.2.1, v.1.2.2.2.2.2.1.1, v.1.2.2.2.2.2.2.1.1, .int .i64 a.1.2.2.2.2.2.2.2, v.2], 0, 49⟩]) [] := Chg.app _
  simp [ones, one2, nk]
  by_cases g0 : netOk a.1
  rotate_left
  · simp [g0]; exact fun k => g0 k.1
  have ls := fun L => (rs.app (L := L)).len (P := Tryz.prog) (ty := 47) (by simp)
  simp [g0, ones, one2, ls]
  by_cases g1 : 200 < a.2.length
  · have g1' : (200 : Int) < a.2.length := by omega
    simp [g1, g1']; exact fun k => by have := k.2.1; omega
  have g1' : ¬ (200 : Int) < a.2.length := by omega
  simp [g1, g1', ones, one2, ls]
  refine wp_inv (fun n t H' => ∃ (i : Nat), n = a.2.length - i ∧ i ≤ a.2.length ∧ t 1 = .pointer (some ⟨H.length, 0, some 0⟩) ∧ t 3 = .int .i64 i ∧ Chg H H' [] ∧ H'[H.length]? = some ⟨[.int .i64 a.1.1.1, .int .i64 a.1.1.2.1, v.1.1, v.1.2.1.1, v.1.2.1.2, v.1.2.2.1.1, v.1.2.2.2.1, v.1.2.2.2.2.1, v.1.2.2.2.2.2.1.1, v.1.2.2.2.2.2.2.1.1, .int .i64 a.1.2.2.2.2.2.2.2, v.2], 0, 49⟩ ∧ ∀ j, j < i → packetOk a.1.1.1 a.1.1.2.1 (a.2.getD j pk0) ∧ (a.2.getD j pk0).1 = (j : Int) + 1) ?_ (n := a.2.length)
    ⟨0, rfl, by omega, by simp, by simp, cG, hG, fun _ h => absurd h (by omega)⟩
  rintro n t H' ⟨i, rfl, hi, t1, t3, ch, bb, hk⟩ ih
  have rd := rs.chg ch (by simp)
  have ll := rd.len (P := Tryz.prog) (ty := 47) (by simp)
  simp [t1, t3, VM.look, bb, ll]
  refine wp_dec ?_ ?_ <;> intro g
  rotate_left
  · have : i = a.2.length := by omega
    have hs : sentOk a.1.1.1 a.1.1.2.1 a.2 := fun j hj => hk j (by omega)
    have ko' := fun F => ko F H' ch
    simp [t1, t3, VM.look, bb, ones, one2, ko']
    exact ⟨fun k => ⟨g0, by omega, hs, k⟩, fun k => k.2.2.2⟩
  have hi' : i < a.2.length := by omega
  have hF : H.length ≤ H'.length := ch.1
  have q1 := rd.idx (P := Tryz.prog) (ty := 47) (e := 76) (by simp) (i := (i : Int)) (by omega) (by omega)
  have q2 := rd.load (P := Tryz.prog) (e := 76) (by simp) hi'
  simp only [Int.toNat_natCast, pkF_n] at q1 q2
  have hgd : a.2.getD i pk0 = a.2[i] := by simp [List.getD_eq_getElem?_getD, hi']
  have hfail : ¬ (packetOk a.1.1.1 a.1.1.2.1 a.2[i] ∧ a.2[i].1 = (i : Int) + 1) → ¬ chipOk a := fun k c => k (by have := c.2.2.1 i hi'; rwa [hgd] at this)
  have e1 : ∀ [Inhabited Unit], IntKind.i64.wrap ((i : Int) + 1) = (i : Int) + 1 := by intro _; exact w64 (by omega) (by omega)
  have hnx : packetOk a.1.1.1 a.1.1.2.1 a.2[i] → a.2[i].1 = (i : Int) + 1 → ∀ j, j < i + 1 → packetOk a.1.1.1 a.1.1.2.1 (a.2.getD j pk0) ∧ (a.2.getD j pk0).1 = (j : Int) + 1 := fun k1 k2 j hj => by
    rcases Nat.lt_succ_iff_lt_or_eq.1 hj with hj | rfl
    · exact hk j hj
    · rw [hgd]; exact ⟨k1, k2⟩
  have f0 := rd.field (P := Tryz.prog) (s := 76) (f := 0) (o := 0) (n := 1) (ag := false) (by simp) (j := i * 5) (by omega)
  have k0 := rd.cell (P := Tryz.prog) (e := 3) (by simp) hi' (c := 0) (by decide)
  simp only [pkF_n, Nat.add_zero] at f0 k0
  simp only [pkF_f] at k0
  simp at k0
  obtain ⟨p, hp⟩ : ∃ p, p = a.2[i] := ⟨_, rfl⟩
  have pk := fun F => sPacketOk_c (frz := F) (H := H') a.1.1.1 a.1.1.2.1 p
  unfold pkV at pk
  rw [← hp] at q2 hfail hnx k0
  simp
  rw [go_draw (h := by kernel_rfl)]
  simp [-vfieldAddr, vfa_ptr, t1, t3, q1, q2, pkF_f, VM.look, bb, pk]
  by_cases g2 : packetOk a.1.1.1 a.1.1.2.1 p
  rotate_left
  · simp [g2]; exact hfail (fun k => g2 k.1)
  by_cases g3 : p.1 = (i : Int) + 1
  rotate_left
  · simp [-vfieldAddr, vfa_ptr, t1, t3, g2, g3, VM.look, bb, q1, f0, k0, e1]; exact hfail (fun k => g3 k.2)
  simp [-vfieldAddr, vfa_ptr, t1, t3, g2, g3, VM.look, bb, q1, f0, k0, e1]
  refine ih (a.2.length - (i + 1)) _ _ ⟨i + 1, rfl, by omega, by simp [t1], by simp, ch, bb, hnx g2 g3⟩ (by omega)
end Go.Proofs.YtcigpclbhfkgaaaGreat.V
/-! ChipSend. -/
set_option linter.all false
namespace Go.Proofs.YtcigpclbhfkgaaaGreat.V
open Go Go.VM Go.Proofs
set_option maxRecDepth 10000
variable {frz : Nat} {H : Heap}
def sendsOk (a : ChipD) (p : PkD) : Prop := chipOk a ∧ a.2.length ≠ 200 ∧ sendOk a.1 p
instance (a : ChipD) (p : PkD) : Decidable (sendsOk a p) := inferInstanceAs (Decidable (_ ∧ _))
/-- the next packet of a chip -/
def nextP (a : ChipD) (q2 q3 q4 q5 : Int) : PkD := ((a.2.length : Int) + 1, q2, q3, q4, q5)
def chipSend (a : ChipD) (q2 q3 q4 q5 : Int) : ChipD := if sendsOk a (nextP a q2 q3 q4 q5) then (sendNet a.1 (nextP a q2 q3 q4 q5), a.2 ++ [nextP a q2 q3 q4 q5]) else a
theorem chip_made {K : Heap} {n : ChipV} {y : ChipD} {ok : Bool} {id : Nat} {r : Row} {a : ChipD} {q2 q3 q4 q5 : Int} (hid : id = H.length + 1) (o : dChip.Ow K n y) (c : Chg H K []) (m : ∀ i ∈ dChip.ids n, H.length + 2 ≤ i) (d : (dChip.ids n).Nodup) (e1 : chipSend a q2 q3 q4 q5 = y) (e2 : decide (sendsOk a (nextP a q2 q3 q4 q5)) = ok) :
    Made2 dChip H (chipSend a q2 q3 q4 q5) (decide (sendsOk a (nextP a q2 q3 q4 q5))) (.tuple #[dChip.val n y, .bool ok]) (K.set id r) := by
  subst hid
  refine ⟨dChip.val n y, by rw [e2], n, by rw [e1], ?_, c.trans' (chg_set _ _) (fun i hi => .inr (by simp at hi; omega)), fun i hi => by have := m i hi; omega, d⟩
  rw [e1]; exact Dt.chg (T := dChip) o (chg_set _ _) (fun i hi hh => by have := m i hi; simp at hh; omega)
theorem chipSend_d {v : ChipV} {a : ChipD} {q2 q3 q4 q5 : Int} (o : dChip.Ow H v a) :
   wp (vcall C frz 10 [dChip.val v a, .int .i64 q2, .int .i64 q3, .int .i64 q4, .int .i64 q5] H) (Made2 dChip H (chipSend a q2 q3 q4 q5) (decide (sendsOk a (nextP a q2 q3 q4 q5)))) := by
  have oneA := dChip_one o
  have ones := oneA.1
  have one2 := oneA.2
  have ecopy := fun K (c : Chg H K []) => copyChip_d (frz := H.length) (H := K) (v := v) (a := a) (Dt.chg (T := dChip) o c (by simp))
  have ck := fun F K (c : Chg H K []) => chipOk_d (frz := F) (H := K) (v := v) (a := a) (Dt.chg (T := dChip) o c (by simp))
  have esend := fun (K : Heap) id nv tail hr on nd hf hid hN hs => send_w (frz := H.length) (H := K) (v := nv) (x := a.1) (p := nextP a q2 q3 q4 q5) (id := id) (e := 49) (tail := tail) hr on nd hf hid hN hs
  have hlen := o.2.2
  have e0 : ∀ [Inhabited Unit], IntKind.i64.wrap ((a.2.length : Int) + 1) = (a.2.length : Int) + 1 := by intro _; exact w64 (by omega) (by omega)
  unfold pkV nextP at esend
  simp only at esend
  simp only [dChip_val] at ecopy ck ⊢
  rw [vcall_go (fn := Tryz.f10) Tryz.func10 rfl (by kernel_rfl) rfl]
  obtain ⟨G, hG⟩ : ∃ G, G = H ++ [⟨[.int .i64 a.1.1.1, .int .i64 a.1.1.2.1, v.1.1, v.1.2.1.1, v.1.2.1.2, v.1.2.2.1.1, v.1.2.2.2.1, v.1.2.2.2.2.1, v.1.2.2.2.2.2.1.1, v.1.2.2.2.2.2.2.1.1, .int .i64 a.1.2.2.2.2.2.2.2, v.2], 0, 49⟩, ⟨[.int .i64 0, .int .i64 0, .slice none 0 0, .slice none 0 0, .slice none 0 0, .slice none 0 0, .slice none 0 0, .slice none 0 0, .slice none 0 0, .slice none 0 0, .int .i64 0, .slice none 0 0], 0, 49⟩] := ⟨_, rfl⟩
  have cG : Chg H G [] := by rw [hG]; exact Chg.app _
  have b0 : G[H.length]? = some ⟨[.int .i64 a.1.1.1, .int .i64 a.1.1.2.1, v.1.1, v.1.2.1.1, v.1.2.1.2, v.1.2.2.1.1, v.1.2.2.2.1, v.1.2.2.2.2.1, v.1.2.2.2.2.2.1.1, v.1.2.2.2.2.2.2.1.1, .int .i64 a.1.2.2.2.2.2.2.2, v.2], 0, 49⟩ := by rw [hG]; simp
  have bR : G[H.length + 1]? = some ⟨[.int .i64 0, .int .i64 0, .slice none 0 0, .slice none 0 0, .slice none 0 0, .slice none 0 0, .slice none 0 0, .slice none 0 0, .slice none 0 0, .slice none 0 0, .int .i64 0, .slice none 0 0], 0, 49⟩ := by rw [hG]; simp
  have lG : G.length = H.length + 2 := by rw [hG]; simp
  simp [ones, one2]
  rw [← hG]
  clear hG
  have liv := fun K (c : Chg H K []) => Ow_live (o.2.1.chg c (by simp))
  have lp := fun K (c : Chg H K []) => (o.2.1.rd.chg c (by simp)).len (P := Tryz.prog) (ty := 47) (by simp)
  rw [go_drawF (fl := [3]) (h := ⟨by kernel_rfl, by kernel_rfl, by kernel_rfl, by kernel_rfl⟩)]
  simp [emps, empOp, empB, VM.look, b0, ones, one2]
  refine wp_thnW (ecopy G cG) ?_
  rintro _ K ⟨n, rfl, on, cn, mn, dn⟩
  refine ⟨by simp, ?_⟩
  have cK : Chg H K [] := cG.trans cn
  have b0 := box_chg b0 cn (by simp)
  have bR := box_chg bR cn (by simp)
  have oneN := dChip_one on
  have qn := oneN.1
  have qn2 := oneN.2
  have livK := liv K cK
  have lpK := lp K cK
  have lK := cn.1
  have hFK : H.length ≤ K.length := by omega
  have hFK1 : H.length ≤ K.length + 1 := by omega
  have bA := fun L => get_app' b0 L
  have livA := fun L => liv (K ++ L) (cK.trans (Chg.app _))
  simp [dChip_val, emps, empOp, empB, VM.look, b0, bA, ones, one2, qn, qn2, livK, livA, lpK, e0, hFK, hFK1, List.set_append]
  obtain ⟨K2, hK2⟩ : ∃ K2, K2 = K ++ [⟨[.int .i64 a.1.1.1, .int .i64 a.1.1.2.1, n.1.1, n.1.2.1.1, n.1.2.1.2, n.1.2.2.1.1, n.1.2.2.2.1, n.1.2.2.2.2.1, n.1.2.2.2.2.2.1.1, n.1.2.2.2.2.2.2.1.1, .int .i64 a.1.2.2.2.2.2.2.2, n.2], 0, 49⟩, ⟨[.int .i64 (a.2.length + 1 : Int), .int .i64 q2, .int .i64 q3, .int .i64 q4, .int .i64 q5], 0, 76⟩] := ⟨_, rfl⟩
  have e2 : K ++ [⟨[.int .i64 a.1.1.1, .int .i64 a.1.1.2.1, n.1.1, n.1.2.1.1, n.1.2.1.2, n.1.2.2.1.1, n.1.2.2.2.1, n.1.2.2.2.2.1, n.1.2.2.2.2.2.1.1, n.1.2.2.2.2.2.2.1.1, .int .i64 a.1.2.2.2.2.2.2.2, n.2], 0, 49⟩, ⟨[.int .i64 (a.2.length + 1 : Int), .int .i64 q2, .int .i64 q3, .int .i64 q4, .int .i64 q5], 0, 76⟩] = K2 := hK2.symm
  rw [e2]
  have c12 : Chg K K2 [] := by rw [hK2]; exact Chg.app _
  have cK2 := cK.trans c12
  have l2 : K2.length = K.length + 2 := by rw [hK2]; simp
  have b0 := box_chg b0 c12 (by simp)
  have bR := box_chg bR c12 (by simp)
  have bC : K2[K.length]? = some ⟨[.int .i64 a.1.1.1, .int .i64 a.1.1.2.1, n.1.1, n.1.2.1.1, n.1.2.1.2, n.1.2.2.1.1, n.1.2.2.2.1, n.1.2.2.2.2.1, n.1.2.2.2.2.2.1.1, n.1.2.2.2.2.2.2.1.1, .int .i64 a.1.2.2.2.2.2.2.2, n.2], 0, 49⟩ := by rw [hK2]; simp
  have bP : K2[K.length + 1]? = some ⟨[.int .i64 (a.2.length + 1 : Int), .int .i64 q2, .int .i64 q3, .int .i64 q4, .int .i64 q5], 0, 76⟩ := by rw [hK2]; simp
  have on2 := Dt.chg (T := dChip) on c12 (by simp)
  clear hK2 e2
  have hF : H.length ≤ H.length + 1 := by omega
  have ff : ∀ K3, Chg H K3 [] → K3[H.length + 1]? = some ⟨[.int .i64 0, .int .i64 0, .slice none 0 0, .slice none 0 0, .slice none 0 0, .slice none 0 0, .slice none 0 0, .slice none 0 0, .slice none 0 0, .slice none 0 0, .int .i64 0, .slice none 0 0], 0, 49⟩ → ¬ sendsOk a (nextP a q2 q3 q4 q5) → wp (vcall C H.length 31 [.agg #[.int .i64 a.1.1.1, .int .i64 a.1.1.2.1, v.1.1, v.1.2.1.1, v.1.2.1.2, v.1.2.2.1.1, v.1.2.2.2.1, v.1.2.2.2.2.1, v.1.2.2.2.2.2.1.1, v.1.2.2.2.2.2.2.1.1, .int .i64 a.1.2.2.2.2.2.2.2, v.2]] K3) (fun r K => ∃ n : ChipV, r = dChip.val n a ∧ dChip.Ow K n a ∧ K[H.length + 1]? = some ⟨[.int .i64 0, .int .i64 0, .slice none 0 0, .slice none 0 0, .slice none 0 0, .slice none 0 0, .slice none 0 0, .slice none 0 0, .slice none 0 0, .slice none 0 0, .int .i64 0, .slice none 0 0], 0, 49⟩ ∧ Made2 dChip H (chipSend a q2 q3 q4 q5) (decide (sendsOk a (nextP a q2 q3 q4 q5))) (.tuple #[dChip.val n a, .bool false]) (K.set (H.length + 1) ⟨[.int .i64 a.1.1.1, .int .i64 a.1.1.2.1, n.1.1, n.1.2.1.1, n.1.2.1.2, n.1.2.2.1.1, n.1.2.2.2.1, n.1.2.2.2.2.1, n.1.2.2.2.2.2.1.1, n.1.2.2.2.2.2.2.1.1, .int .i64 a.1.2.2.2.2.2.2.2, n.2], 0, 49⟩)) := by
    intro K3 c3 b3 hb
    refine (ecopy K3 c3).mono ?_
    rintro _ K ⟨n, rfl, on, cn, mn, dn⟩
    have h9 := box_lt b3
    exact ⟨n, rfl, on, box_chg b3 cn (by simp), chip_made rfl on (c3.trans cn) (fun i hi => by have := mn i hi; omega) dn (if_neg hb) (decide_eq_false hb)⟩
  have ck' := fun F => ck F K2 cK2
  have lp2 := lp K2 cK2
  by_cases g0 : chipOk a
  rotate_left
  · have hb : ¬ sendsOk a (nextP a q2 q3 q4 q5) := fun k => g0 k.1
    simp [VM.look, b0, ones, one2, ck', g0]
    refine wp_thn (ff K2 cK2 bR hb) ?_
    rintro _ K4 ⟨n4, rfl, on4, b4, hM⟩
    have q4a := dChip_one on4
    have gR := set_get (r' := ⟨[.int .i64 a.1.1.1, .int .i64 a.1.1.2.1, n4.1.1, n4.1.2.1.1, n4.1.2.1.2, n4.1.2.2.1.1, n4.1.2.2.2.1, n4.1.2.2.2.2.1, n4.1.2.2.2.2.2.1.1, n4.1.2.2.2.2.2.2.1.1, .int .i64 a.1.2.2.2.2.2.2.2, n4.2], 0, 49⟩) b4
    simp [dChip_val, q4a, VM.look, b4, gR, hF]
    simpa [hb, dChip_val] using hM
  by_cases g1 : a.2.length = 200
  · have hb : ¬ sendsOk a (nextP a q2 q3 q4 q5) := fun k => k.2.1 g1
    have g1' : ((a.2.length : Int)) = 200 := by omega
    simp [VM.look, b0, ones, one2, ck', g0, lp2, g1, g1']
    refine wp_thn (ff K2 cK2 bR hb) ?_
    rintro _ K4 ⟨n4, rfl, on4, b4, hM⟩
    have q4a := dChip_one on4
    have gR := set_get (r' := ⟨[.int .i64 a.1.1.1, .int .i64 a.1.1.2.1, n4.1.1, n4.1.2.1.1, n4.1.2.1.2, n4.1.2.2.1.1, n4.1.2.2.2.1, n4.1.2.2.2.2.1, n4.1.2.2.2.2.2.1.1, n4.1.2.2.2.2.2.2.1.1, .int .i64 a.1.2.2.2.2.2.2.2, n4.2], 0, 49⟩) b4
    simp [dChip_val, q4a, VM.look, b4, gR, hF]
    simpa [hb, dChip_val] using hM
  have g1' : ¬ ((a.2.length : Int)) = 200 := by omega
  simp [VM.look, b0, bC, bP, ones, one2, ck', g0, lp2, g1, g1']
  have hd := List.nodup_append.1 dn
  have hm1 : ∀ i ∈ dNet.ids n.1, H.length + 2 ≤ i := fun i hi => by have := mn i (List.mem_append_left _ hi); omega
  have hm2 : ∀ i ∈ VM.ids n.2, H.length + 2 ≤ i := fun i hi => by have := mn i (List.mem_append_right _ hi); omega
  have hl1 : ∀ i ∈ dNet.ids n.1, i < K.length := fun i hi => dNet.lt on.1 i hi
  have hl2 : ∀ i ∈ VM.ids n.2, i < K.length := fun i hi => dPk.lt on.2 i hi
  refine wp_thn (esend K2 K.length n.1 [n.2] bC on2.1 hd.1 (fun i hi => by have := hm1 i hi; omega) (fun hh => by have := hl1 _ hh; omega) g0.1.2.1.2.2.2.1 (fun l hl => (g0.1.2.2.2.1 l hl).1)) ?_
  rintro _ K3 ⟨rfl, hps⟩
  by_cases g2 : sendOk a.1 (nextP a q2 q3 q4 q5)
  rotate_left
  · have hb : ¬ sendsOk a (nextP a q2 q3 q4 q5) := fun k => g2 k.2.2
    have g2' : ¬ sendOk a.1 ((a.2.length : Int) + 1, q2, q3, q4, q5) := g2
    rw [if_neg g2'] at hps
    have b0 := box_chg b0 hps (by simp)
    have bR := box_chg bR hps (by simp)
    simp [g2', VM.look, b0, ones, one2]
    refine wp_thn (ff K3 (cK2.trans hps) bR hb) ?_
    rintro _ K4 ⟨n4, rfl, on4, b4, hM⟩
    have q4a := dChip_one on4
    have gR := set_get (r' := ⟨[.int .i64 a.1.1.1, .int .i64 a.1.1.2.1, n4.1.1, n4.1.2.1.1, n4.1.2.1.2, n4.1.2.2.1.1, n4.1.2.2.2.1, n4.1.2.2.2.2.1, n4.1.2.2.2.2.2.1.1, n4.1.2.2.2.2.2.2.1.1, .int .i64 a.1.2.2.2.2.2.2.2, n4.2], 0, 49⟩) b4
    simp [dChip_val, q4a, VM.look, b4, gR, hF]
    simpa [hb, dChip_val] using hM
  have g2' : sendOk a.1 ((a.2.length : Int) + 1, q2, q3, q4, q5) := g2
  rw [if_pos g2'] at hps
  obtain ⟨hs', o3, d3, i3, c3⟩ := hps
  have hso : sendsOk a (nextP a q2 q3 q4 q5) := ⟨g0, g1, g2⟩
  have insrc := net_inSrc (n := n.1)
  have bR := box_chg bR c3 (fun hh => by have := hm1 _ (insrc _ hh); omega)
  have bC := box_chg bC c3 (fun hh => by have := hl1 _ (insrc _ hh); omega)
  have bP := box_chg bP c3 (fun hh => by have := hl1 _ (insrc _ hh); omega)
  have op3 := Dt.chg (T := dPk) on2.2 c3 (fun i hi hh => hd.2.2 i (insrc _ hh) i hi rfl)
  obtain ⟨r', K4, hap, o4, c4, n4⟩ := op3.1.push (P := Tryz.prog) (frz := H.length) (ty := 47) (a := ((a.2.length : Int) + 1, q2, q3, q4, q5)) (by simp) rfl (by have := g0.2.1; omega) (fun i hi => by have := hm2 i hi; omega)
  simp only [pkF_f] at hap
  have bR4 := box_chg bR c4 (fun hh => by have := hm2 _ hh; omega)
  have bC4 := box_chg bC c4 (fun hh => by have := hl2 _ hh; omega)
  have l3 := c3.1
  have bC3 := fun L => get_app' bC L
  have bP3 := fun L => get_app' bP L
  have qr := And.intro o4.rd.one' o4.rd.cells
  have gC := set_get (r' := ⟨[.int .i64 a.1.1.1, .int .i64 a.1.1.2.1, n.1.1, n.1.2.1.1, n.1.2.1.2, n.1.2.2.1.1, n.1.2.2.2.1, n.1.2.2.2.2.1, n.1.2.2.2.2.2.1.1, n.1.2.2.2.2.2.2.1.1, .int .i64 a.1.2.2.2.2.2.2.2, r'], 0, 49⟩) bC4
  have eC : Chg K4 (K4.set K.length ⟨[.int .i64 a.1.1.1, .int .i64 a.1.1.2.1, n.1.1, n.1.2.1.1, n.1.2.1.2, n.1.2.2.1.1, n.1.2.2.2.1, n.1.2.2.2.2.1, n.1.2.2.2.2.2.1.1, n.1.2.2.2.2.2.2.1.1, .int .i64 a.1.2.2.2.2.2.2.2, r'], 0, 49⟩) [K.length] := chg_set _ _
  have bR5 := box_chg bR4 eC (by simp; omega)
  have gR := set_get (r' := ⟨[.int .i64 a.1.1.1, .int .i64 a.1.1.2.1, n.1.1, n.1.2.1.1, n.1.2.1.2, n.1.2.2.1.1, n.1.2.2.2.1, n.1.2.2.2.2.1, n.1.2.2.2.2.2.1.1, n.1.2.2.2.2.2.2.1.1, .int .i64 a.1.2.2.2.2.2.2.2, r'], 0, 49⟩) bR5
  have hFK : H.length ≤ K.length := by omega
  simp [-vappend_nil, -vappend_mk, g2', VM.look, bC, bC3, bP, bP3, hap, bC4, qr, qn, gC, bR5, gR, hF, hFK]
  have hp1 : ∀ i ∈ dNet.ids (putSrc n.1 (n.1.2.2.2.2.2.1.1, hs')), H.length + 2 ≤ i ∧ i ∉ VM.ids n.2 ∧ i ≠ K.length ∧ i < K3.length := fun i hi => by
    have h9 := dNet.lt o3 i hi
    rcases i3 i hi with g | g
    · exact ⟨hm1 i g, fun hh => hd.2.2 i g i hh rfl, by have := hl1 i g; omega, h9⟩
    · exact ⟨by omega, fun hh => by have := hl2 i hh; omega, by omega, h9⟩
  have hp2 : ∀ i ∈ VM.ids r', (i ∈ VM.ids n.2 ∨ K3.length ≤ i) ∧ i ≠ K.length ∧ H.length + 2 ≤ i := fun i hi => by
    rcases n4 i hi with g | g
    · exact ⟨.inl g, by have := hl2 i g; omega, hm2 i g⟩
    · exact ⟨.inr g, by omega, by omega⟩
  have fo1 := Dt.chg (T := dNet) (Dt.chg (T := dNet) o3 c4 (fun i hi => (hp1 i hi).2.1)) eC (fun i hi hh => by have := (hp1 i hi).2.2.1; simp at hh; omega)
  have fo2 : dPk.Ow (K4.set K.length ⟨[.int .i64 a.1.1.1, .int .i64 a.1.1.2.1, n.1.1, n.1.2.1.1, n.1.2.1.2, n.1.2.2.1.1, n.1.2.2.2.1, n.1.2.2.2.2.1, n.1.2.2.2.2.2.1.1, n.1.2.2.2.2.2.2.1.1, .int .i64 a.1.2.2.2.2.2.2.2, r'], 0, 49⟩) r' (a.2 ++ [((a.2.length : Int) + 1, q2, q3, q4, q5)]) := ⟨o4.chg eC (fun i hi hh => by have := (hp2 i hi).2.1; simp at hh; omega), by have := g0.2.1; simp; omega⟩
  have := chip_made (K := K4.set K.length ⟨[.int .i64 a.1.1.1, .int .i64 a.1.1.2.1, n.1.1, n.1.2.1.1, n.1.2.1.2, n.1.2.2.1.1, n.1.2.2.2.1, n.1.2.2.2.2.1, n.1.2.2.2.2.2.1.1, n.1.2.2.2.2.2.2.1.1, .int .i64 a.1.2.2.2.2.2.2.2, r'], 0, 49⟩) (n := (putSrc n.1 (n.1.2.2.2.2.2.1.1, hs'), r')) (y := (sendNet a.1 ((a.2.length : Int) + 1, q2, q3, q4, q5), a.2 ++ [((a.2.length : Int) + 1, q2, q3, q4, q5)])) (a := a) (q2 := q2) (q3 := q3) (q4 := q4) (q5 := q5) (r := ⟨[.int .i64 a.1.1.1, .int .i64 a.1.1.2.1, n.1.1, n.1.2.1.1, n.1.2.1.2, n.1.2.2.1.1, n.1.2.2.2.1, n.1.2.2.2.2.1, n.1.2.2.2.2.2.1.1, n.1.2.2.2.2.2.2.1.1, .int .i64 a.1.2.2.2.2.2.2.2, r'], 0, 49⟩) (H := H) rfl ⟨fo1, fo2⟩
    (((cK2.trans' c3 (fun i hi => .inr (by have := hm1 _ (insrc _ hi); omega))).trans' c4 (fun i hi => .inr (by have := hm2 _ hi; omega))).trans' eC (fun i hi => .inr (by simp at hi; omega)))
    (fun i hi => by
      rcases List.mem_append.1 hi with hi | hi
      · exact (hp1 i hi).1
      · exact (hp2 i hi).2.2)
    (List.nodup_append.2 ⟨d3, ids_nodup r', fun x hx y hy e => by
      subst e
      rcases (hp2 x hy).1 with g | g
      · exact (hp1 x hx).2.1 g
      · have := (hp1 x hx).2.2.2; omega⟩)
    (if_pos hso) (decide_eq_true hso)
  exact this
theorem sChipSend_d {v : ChipV} {a : ChipD} {q2 q3 q4 q5 : Int} (o : dChip.Ow H v a) :
   wp (vcall C frz 8 [dChip.val v a, .int .i64 q2, .int .i64 q3, .int .i64 q4, .int .i64 q5] H) (Made2 dChip H (chipSend a q2 q3 q4 q5) (decide (sendsOk a (nextP a q2 q3 q4 q5)))) := by
  have oneA := dChip_one o
  have ones := oneA.1
  have one2 := oneA.2
  have ecopy := fun K (c : Chg H K []) => l37Copy_d (frz := H.length) (H := K) (v := v) (a := a) (Dt.chg (T := dChip) o c (by simp))
  have ck := fun F K (c : Chg H K []) => sChipOk_d (frz := F) (H := K) (v := v) (a := a) (Dt.chg (T := dChip) o c (by simp))
  have esend := fun (K : Heap) (c : Chg H K []) => sSendPacket_d (frz := H.length) (H := K) (v := v.1) (x := a.1) (p := nextP a q2 q3 q4 q5) (Dt.chg (T := dNet) o.1 c (by simp))
  have hlen := o.2.2
  have e0 : ∀ [Inhabited Unit], IntKind.i64.wrap ((a.2.length : Int) + 1) = (a.2.length : Int) + 1 := by intro _; exact w64 (by omega) (by omega)
  unfold pkV at esend
  simp only [show (nextP a q2 q3 q4 q5).1 = (a.2.length : Int) + 1 from rfl, show (nextP a q2 q3 q4 q5).2.1 = q2 from rfl, show (nextP a q2 q3 q4 q5).2.2.1 = q3 from rfl, show (nextP a q2 q3 q4 q5).2.2.2.1 = q4 from rfl, show (nextP a q2 q3 q4 q5).2.2.2.2 = q5 from rfl, dNet_val] at esend
  simp only [dChip_val] at ecopy ck ⊢
  rw [vcall_go (fn := Tryz.f8) Tryz.func8 rfl (by kernel_rfl) rfl]
  obtain ⟨G, hG⟩ : ∃ G, G = H ++ [⟨[.int .i64 a.1.1.1, .int .i64 a.1.1.2.1, v.1.1, v.1.2.1.1, v.1.2.1.2, v.1.2.2.1.1, v.1.2.2.2.1, v.1.2.2.2.2.1, v.1.2.2.2.2.2.1.1, v.1.2.2.2.2.2.2.1.1, .int .i64 a.1.2.2.2.2.2.2.2, v.2], 0, 49⟩, ⟨[.int .i64 0, .int .i64 0, .slice none 0 0, .slice none 0 0, .slice none 0 0, .slice none 0 0, .slice none 0 0, .slice none 0 0, .slice none 0 0, .slice none 0 0, .int .i64 0, .slice none 0 0], 0, 49⟩] := ⟨_, rfl⟩
  have cG : Chg H G [] := by rw [hG]; exact Chg.app _
  have b0 : G[H.length]? = some ⟨[.int .i64 a.1.1.1, .int .i64 a.1.1.2.1, v.1.1, v.1.2.1.1, v.1.2.1.2, v.1.2.2.1.1, v.1.2.2.2.1, v.1.2.2.2.2.1, v.1.2.2.2.2.2.1.1, v.1.2.2.2.2.2.2.1.1, .int .i64 a.1.2.2.2.2.2.2.2, v.2], 0, 49⟩ := by rw [hG]; simp
  have bR : G[H.length + 1]? = some ⟨[.int .i64 0, .int .i64 0, .slice none 0 0, .slice none 0 0, .slice none 0 0, .slice none 0 0, .slice none 0 0, .slice none 0 0, .slice none 0 0, .slice none 0 0, .int .i64 0, .slice none 0 0], 0, 49⟩ := by rw [hG]; simp
  have lG : G.length = H.length + 2 := by rw [hG]; simp
  simp [ones, one2]
  rw [← hG]
  clear hG
  have lp := fun K (c : Chg H K []) => (o.2.1.rd.chg c (by simp)).len (P := Tryz.prog) (ty := 47) (by simp)
  try simp [VM.look, b0, ones, one2]
  refine wp_thn (ecopy G cG) ?_
  rintro _ K ⟨n, rfl, on, cn, mn, dn⟩
  have cK : Chg H K [] := cG.trans cn
  have b0 := box_chg b0 cn (by simp)
  have bR := box_chg bR cn (by simp)
  have oneN := dChip_one on
  have qn := oneN.1
  have qn2 := oneN.2
  have lK := cn.1
  have hFK : H.length ≤ K.length := by omega
  obtain ⟨K2, hK2⟩ : ∃ K2, K2 = K ++ [⟨[.int .i64 a.1.1.1, .int .i64 a.1.1.2.1, n.1.1, n.1.2.1.1, n.1.2.1.2, n.1.2.2.1.1, n.1.2.2.2.1, n.1.2.2.2.2.1, n.1.2.2.2.2.2.1.1, n.1.2.2.2.2.2.2.1.1, .int .i64 a.1.2.2.2.2.2.2.2, n.2], 0, 49⟩] := ⟨_, rfl⟩
  have e2 : K ++ [⟨[.int .i64 a.1.1.1, .int .i64 a.1.1.2.1, n.1.1, n.1.2.1.1, n.1.2.1.2, n.1.2.2.1.1, n.1.2.2.2.1, n.1.2.2.2.2.1, n.1.2.2.2.2.2.1.1, n.1.2.2.2.2.2.2.1.1, .int .i64 a.1.2.2.2.2.2.2.2, n.2], 0, 49⟩] = K2 := hK2.symm
  have c12 : Chg K K2 [] := by rw [hK2]; exact Chg.app _
  have cK2 := cK.trans c12
  have l2 : K2.length = K.length + 1 := by rw [hK2]; simp
  have b0 := box_chg b0 c12 (by simp)
  have bR := box_chg bR c12 (by simp)
  have bC : K2[K.length]? = some ⟨[.int .i64 a.1.1.1, .int .i64 a.1.1.2.1, n.1.1, n.1.2.1.1, n.1.2.1.2, n.1.2.2.1.1, n.1.2.2.2.1, n.1.2.2.2.2.1, n.1.2.2.2.2.2.1.1, n.1.2.2.2.2.2.2.1.1, .int .i64 a.1.2.2.2.2.2.2.2, n.2], 0, 49⟩ := by rw [hK2]; simp
  have on2 := Dt.chg (T := dChip) on c12 (by simp)
  have hF : H.length ≤ H.length + 1 := by omega
  have mn' : ∀ i ∈ dChip.ids n, H.length + 2 ≤ i := fun i hi => by have := mn i hi; omega
  have fin : ∀ K3, Chg K2 K3 [] → ¬ sendsOk a (nextP a q2 q3 q4 q5) → Made2 dChip H (chipSend a q2 q3 q4 q5) (decide (sendsOk a (nextP a q2 q3 q4 q5))) (.tuple #[dChip.val n a, .bool false]) (K3.set (H.length + 1) ⟨[.int .i64 a.1.1.1, .int .i64 a.1.1.2.1, n.1.1, n.1.2.1.1, n.1.2.1.2, n.1.2.2.1.1, n.1.2.2.2.1, n.1.2.2.2.2.1, n.1.2.2.2.2.2.1.1, n.1.2.2.2.2.2.2.1.1, .int .i64 a.1.2.2.2.2.2.2.2, n.2], 0, 49⟩) := fun K3 c3 hb =>
    chip_made rfl (Dt.chg (T := dChip) on2 c3 (by simp)) (cK2.trans c3) mn' dn (if_neg hb) (decide_eq_false hb)
  have ck' := fun F => ck F K2 cK2
  have lp2 := lp K2 cK2
  simp [dChip_val, VM.look, qn, qn2, hFK]
  rw [e2]
  clear hK2 e2
  by_cases g0 : chipOk a
  rotate_left
  · have hb : ¬ sendsOk a (nextP a q2 q3 q4 q5) := fun k => g0 k.1
    have gR := set_get (r' := ⟨[.int .i64 a.1.1.1, .int .i64 a.1.1.2.1, n.1.1, n.1.2.1.1, n.1.2.1.2, n.1.2.2.1.1, n.1.2.2.2.1, n.1.2.2.2.2.1, n.1.2.2.2.2.2.1.1, n.1.2.2.2.2.2.2.1.1, .int .i64 a.1.2.2.2.2.2.2.2, n.2], 0, 49⟩) bR
    have hM := fin K2 (Chg.refl _) hb
    simp [VM.look, b0, bC, ones, one2, ck', g0, qn, qn2, bR, gR, hF]
    simpa [hb, dChip_val] using hM
  by_cases g1 : a.2.length = 200
  · have hb : ¬ sendsOk a (nextP a q2 q3 q4 q5) := fun k => k.2.1 g1
    have g1' : ((a.2.length : Int)) = 200 := by omega
    have gR := set_get (r' := ⟨[.int .i64 a.1.1.1, .int .i64 a.1.1.2.1, n.1.1, n.1.2.1.1, n.1.2.1.2, n.1.2.2.1.1, n.1.2.2.2.1, n.1.2.2.2.2.1, n.1.2.2.2.2.2.1.1, n.1.2.2.2.2.2.2.1.1, .int .i64 a.1.2.2.2.2.2.2.2, n.2], 0, 49⟩) bR
    have hM := fin K2 (Chg.refl _) hb
    simp [VM.look, b0, bC, ones, one2, ck', g0, lp2, g1, g1', qn, qn2, bR, gR, hF]
    simpa [hb, dChip_val] using hM
  have g1' : ¬ ((a.2.length : Int)) = 200 := by omega
  have hFK2 : H.length ≤ K2.length := by omega
  simp [VM.look, b0, bC, ones, one2, ck', g0, lp2, g1, g1', e0, hFK2]
  obtain ⟨K3, hK3⟩ : ∃ K3, K3 = K2 ++ [⟨[.int .i64 (a.2.length + 1 : Int), .int .i64 q2, .int .i64 q3, .int .i64 q4, .int .i64 q5], 0, 76⟩] := ⟨_, rfl⟩
  have e3 : K2 ++ [⟨[.int .i64 (a.2.length + 1 : Int), .int .i64 q2, .int .i64 q3, .int .i64 q4, .int .i64 q5], 0, 76⟩] = K3 := hK3.symm
  have c23 : Chg K2 K3 [] := by rw [hK3]; exact Chg.app _
  have l3 : K3.length = K2.length + 1 := by rw [hK3]; simp
  have bP : K3[K2.length]? = some ⟨[.int .i64 (a.2.length + 1 : Int), .int .i64 q2, .int .i64 q3, .int .i64 q4, .int .i64 q5], 0, 76⟩ := by rw [hK3]; simp
  have b0 := box_chg b0 c23 (by simp)
  have bR := box_chg bR c23 (by simp)
  have bC := box_chg bC c23 (by simp)
  rw [e3]
  clear hK3 e3
  simp [VM.look, b0, bP, ones, one2, hFK2]
  refine wp_thn (esend K3 (cK2.trans c23)) ?_
  rintro _ K4 ⟨_, rfl, n2, rfl, o4, c4, m4, d4⟩
  have bP := box_chg bP c4 (by simp)
  have bR := box_chg bR c4 (by simp)
  have bC := box_chg bC c4 (by simp)
  have one4 := dNet_one o4
  have l4 := c4.1
  have hFK4 : H.length ≤ K4.length := by omega
  have bPA := fun L => get_app' bP L
  have bRA := fun L => get_app' bR L
  have bCA := fun L => get_app' bC L
  by_cases g2 : sendOk a.1 (nextP a q2 q3 q4 q5)
  rotate_left
  · have hb : ¬ sendsOk a (nextP a q2 q3 q4 q5) := fun k => g2 k.2.2
    have hz : sendP a.1 (nextP a q2 q3 q4 q5) = a.1 := if_neg (fun k => g2 k.2)
    rw [hz] at o4
    have hM := fin (K4 ++ [⟨[.int .i64 a.1.1.1, .int .i64 a.1.1.2.1, n2.1, n2.2.1.1, n2.2.1.2, n2.2.2.1.1, n2.2.2.2.1, n2.2.2.2.2.1, n2.2.2.2.2.2.1.1, n2.2.2.2.2.2.2.1.1, .int .i64 a.1.2.2.2.2.2.2.2], 0, 46⟩]) ((c23.trans c4).trans (Chg.app _)) hb
    have gR := set_get (r' := ⟨[.int .i64 a.1.1.1, .int .i64 a.1.1.2.1, n.1.1, n.1.2.1.1, n.1.2.1.2, n.1.2.2.1.1, n.1.2.2.2.1, n.1.2.2.2.2.1, n.1.2.2.2.2.2.1.1, n.1.2.2.2.2.2.2.1.1, .int .i64 a.1.2.2.2.2.2.2.2, n.2], 0, 49⟩) (bRA [⟨[.int .i64 a.1.1.1, .int .i64 a.1.1.2.1, n2.1, n2.2.1.1, n2.2.1.2, n2.2.2.1.1, n2.2.2.2.1, n2.2.2.2.2.1, n2.2.2.2.2.2.1.1, n2.2.2.2.2.2.2.1.1, .int .i64 a.1.2.2.2.2.2.2.2], 0, 46⟩])
    simp [dNet_val, hz, g0.1, g2, one4, hFK4, VM.look, bCA, bRA, qn, qn2, gR, hF]
    simpa [hb, dChip_val] using hM
  have hso : sendsOk a (nextP a q2 q3 q4 q5) := ⟨g0, g1, g2⟩
  have hz : sendP a.1 (nextP a q2 q3 q4 q5) = sendNet a.1 (nextP a q2 q3 q4 q5) := if_pos ⟨g0.1, g2⟩
  rw [hz] at o4
  obtain ⟨z, hzz⟩ : ∃ z, z = sendNet a.1 (nextP a q2 q3 q4 q5) := ⟨_, rfl⟩
  rw [← hzz] at o4 hz
  have hd := List.nodup_append.1 dn
  have hm2 : ∀ i ∈ VM.ids n.2, H.length + 2 ≤ i := fun i hi => mn' i (List.mem_append_right _ hi)
  have hl2 : ∀ i ∈ VM.ids n.2, i < K.length := fun i hi => dPk.lt on.2 i hi
  obtain ⟨K5, hK5⟩ : ∃ K5, K5 = K4 ++ [⟨[.int .i64 z.1.1, .int .i64 z.1.2.1, n2.1, n2.2.1.1, n2.2.1.2, n2.2.2.1.1, n2.2.2.2.1, n2.2.2.2.2.1, n2.2.2.2.2.2.1.1, n2.2.2.2.2.2.2.1.1, .int .i64 z.2.2.2.2.2.2.2], 0, 46⟩] := ⟨_, rfl⟩
  have e5 : K4 ++ [⟨[.int .i64 z.1.1, .int .i64 z.1.2.1, n2.1, n2.2.1.1, n2.2.1.2, n2.2.2.1.1, n2.2.2.2.1, n2.2.2.2.2.1, n2.2.2.2.2.2.1.1, n2.2.2.2.2.2.2.1.1, .int .i64 z.2.2.2.2.2.2.2], 0, 46⟩] = K5 := hK5.symm
  have c45 : Chg K4 K5 [] := by rw [hK5]; exact Chg.app _
  have l5 : K5.length = K4.length + 1 := by rw [hK5]; simp
  have b5 : K5[K4.length]? = some ⟨[.int .i64 z.1.1, .int .i64 z.1.2.1, n2.1, n2.2.1.1, n2.2.1.2, n2.2.2.1.1, n2.2.2.2.1, n2.2.2.2.2.1, n2.2.2.2.2.2.1.1, n2.2.2.2.2.2.2.1.1, .int .i64 z.2.2.2.2.2.2.2], 0, 46⟩ := by rw [hK5]; simp
  have bP := box_chg bP c45 (by simp)
  have bR := box_chg bR c45 (by simp)
  have bC := box_chg bC c45 (by simp)
  have o5 := Dt.chg (T := dNet) o4 c45 (by simp)
  have op5 := Dt.chg (T := dPk) (Dt.chg (T := dPk) on2.2 ((c23.trans c4).trans c45) (by simp)) (chg_set (H := K5) K.length ⟨[.int .i64 z.1.1, .int .i64 z.1.2.1, n2.1, n2.2.1.1, n2.2.1.2, n2.2.2.1.1, n2.2.2.2.1, n2.2.2.2.2.1, n2.2.2.2.2.2.1.1, n2.2.2.2.2.2.2.1.1, .int .i64 z.2.2.2.2.2.2.2, n.2], 0, 49⟩) (fun i hi hh => by have := hl2 i hi; simp at hh; omega)
  have gC1 := set_get (r' := ⟨[.int .i64 z.1.1, .int .i64 z.1.2.1, n2.1, n2.2.1.1, n2.2.1.2, n2.2.2.1.1, n2.2.2.2.1, n2.2.2.2.2.1, n2.2.2.2.2.2.1.1, n2.2.2.2.2.2.2.1.1, .int .i64 z.2.2.2.2.2.2.2, n.2], 0, 49⟩) bC
  have hFKK : H.length ≤ K.length := by omega
  simp [dNet_val, hz, g0.1, g2, one4, hFK4, VM.look]
  rw [e5]
  clear hK5 e5
  obtain ⟨K6, hK6⟩ : ∃ K6, K6 = K5.set K.length ⟨[.int .i64 z.1.1, .int .i64 z.1.2.1, n2.1, n2.2.1.1, n2.2.1.2, n2.2.2.1.1, n2.2.2.2.1, n2.2.2.2.2.1, n2.2.2.2.2.2.1.1, n2.2.2.2.2.2.2.1.1, .int .i64 z.2.2.2.2.2.2.2, n.2], 0, 49⟩ := ⟨_, rfl⟩
  have c56 : Chg K5 K6 [K.length] := by rw [hK6]; exact chg_set _ _
  have l6 : K6.length = K5.length := by rw [hK6]; simp
  have b6 := box_chg bP c56 (by simp; omega)
  have b6R := box_chg bR c56 (by simp; omega)
  rw [← hK6] at op5 gC1
  simp [VM.look, b5, bC, qn2, one4, hFKK]
  rw [← hK6]
  have o6 := Dt.chg (T := dNet) o5 c56 (fun i hi hh => by have := m4 i hi; simp at hh; omega)
  obtain ⟨r', K7, hap, o7, c7, n7⟩ := op5.1.push (P := Tryz.prog) (frz := H.length) (ty := 47) (a := ((a.2.length : Int) + 1, q2, q3, q4, q5)) (by simp) rfl (by have := g0.2.1; omega) (fun i hi => by have := hm2 i hi; omega)
  simp only [pkF_f] at hap
  have b6A := fun L => get_app' b6 L
  have gCA := fun L => get_app' gC1 L
  have bC7 := box_chg gC1 c7 (fun hh => by have := hl2 _ hh; omega)
  have bR7 := box_chg b6R c7 (fun hh => by have := hm2 _ hh; omega)
  have qr := And.intro o7.rd.one' o7.rd.cells
  have gC := set_get (r' := ⟨[.int .i64 z.1.1, .int .i64 z.1.2.1, n2.1, n2.2.1.1, n2.2.1.2, n2.2.2.1.1, n2.2.2.2.1, n2.2.2.2.2.1, n2.2.2.2.2.2.1.1, n2.2.2.2.2.2.2.1.1, .int .i64 z.2.2.2.2.2.2.2, r'], 0, 49⟩) bC7
  have eC : Chg K7 (K7.set K.length ⟨[.int .i64 z.1.1, .int .i64 z.1.2.1, n2.1, n2.2.1.1, n2.2.1.2, n2.2.2.1.1, n2.2.2.2.1, n2.2.2.2.2.1, n2.2.2.2.2.2.1.1, n2.2.2.2.2.2.2.1.1, .int .i64 z.2.2.2.2.2.2.2, r'], 0, 49⟩) [K.length] := chg_set _ _
  have bR8 := box_chg bR7 eC (by simp; omega)
  have gR := set_get (r' := ⟨[.int .i64 z.1.1, .int .i64 z.1.2.1, n2.1, n2.2.1.1, n2.2.1.2, n2.2.2.1.1, n2.2.2.2.1, n2.2.2.2.2.1, n2.2.2.2.2.2.1.1, n2.2.2.2.2.2.2.1.1, .int .i64 z.2.2.2.2.2.2.2, r'], 0, 49⟩) bR8
  simp [-vappend_nil, -vappend_mk, VM.look, gC1, gCA, b6, b6A, hap, bC7, qr, one4, gC, bR8, gR, hF, hFKK]
  have hp2 : ∀ i ∈ VM.ids r', (i ∈ VM.ids n.2 ∨ K6.length ≤ i) ∧ i ≠ K.length ∧ H.length + 2 ≤ i := fun i hi => by
    rcases n7 i hi with g | g
    · exact ⟨.inl g, by have := hl2 i g; omega, hm2 i g⟩
    · exact ⟨.inr g, by omega, by omega⟩
  have hp1 : ∀ i ∈ dNet.ids n2, K3.length ≤ i ∧ i < K4.length := fun i hi => ⟨m4 i hi, dNet.lt o4 i hi⟩
  have fo1 := Dt.chg (T := dNet) (Dt.chg (T := dNet) o6 c7 (fun i hi hh => by have := hp1 i hi; have := hl2 i hh; omega)) eC (fun i hi hh => by have := hp1 i hi; simp at hh; omega)
  have fo2 : dPk.Ow (K7.set K.length ⟨[.int .i64 z.1.1, .int .i64 z.1.2.1, n2.1, n2.2.1.1, n2.2.1.2, n2.2.2.1.1, n2.2.2.2.1, n2.2.2.2.2.1, n2.2.2.2.2.2.1.1, n2.2.2.2.2.2.2.1.1, .int .i64 z.2.2.2.2.2.2.2, r'], 0, 49⟩) r' (a.2 ++ [((a.2.length : Int) + 1, q2, q3, q4, q5)]) := ⟨o7.chg eC (fun i hi hh => by have := (hp2 i hi).2.1; simp at hh; omega), by have := g0.2.1; simp; omega⟩
  have eC2 : chipSend a q2 q3 q4 q5 = (z, a.2 ++ [((a.2.length : Int) + 1, q2, q3, q4, q5)]) := by rw [hzz]; exact if_pos hso
  have := chip_made (K := K7.set K.length ⟨[.int .i64 z.1.1, .int .i64 z.1.2.1, n2.1, n2.2.1.1, n2.2.1.2, n2.2.2.1.1, n2.2.2.2.1, n2.2.2.2.2.1, n2.2.2.2.2.2.1.1, n2.2.2.2.2.2.2.1.1, .int .i64 z.2.2.2.2.2.2.2, r'], 0, 49⟩) (n := (n2, r')) (y := (z, a.2 ++ [((a.2.length : Int) + 1, q2, q3, q4, q5)])) (a := a) (q2 := q2) (q3 := q3) (q4 := q4) (q5 := q5) (r := ⟨[.int .i64 z.1.1, .int .i64 z.1.2.1, n2.1, n2.2.1.1, n2.2.1.2, n2.2.2.1.1, n2.2.2.2.1, n2.2.2.2.2.1, n2.2.2.2.2.2.1.1, n2.2.2.2.2.2.2.1.1, .int .i64 z.2.2.2.2.2.2.2, r'], 0, 49⟩) (H := H) rfl ⟨fo1, fo2⟩
    ((((((cK2.trans c23).trans c4).trans c45).trans' c56 (fun i hi => .inr (by simp at hi; omega))).trans' c7 (fun i hi => .inr (by have := hm2 _ hi; omega))).trans' eC (fun i hi => .inr (by simp at hi; omega)))
    (fun i hi => by
      rcases List.mem_append.1 hi with hi | hi
      · have := hp1 i hi; omega
      · exact (hp2 i hi).2.2)
    (List.nodup_append.2 ⟨d4, ids_nodup r', fun x hx y hy e => by
      subst e
      have h1 := hp1 x hx
      rcases (hp2 x hy).1 with g | g
      · have := hl2 x g; omega
      · omega⟩)
    eC2 (decide_eq_true hso)
  exact this
end Go.Proofs.YtcigpclbhfkgaaaGreat.V
/-! Marks: packets, chips. -/
set_option linter.all false
namespace Go.Proofs.YtcigpclbhfkgaaaGreat.V
open Go Go.VM Go.Proofs
set_option maxRecDepth 10000
variable {frz : Nat} {H : Heap}
def mkP (k : Int) : PkD := (k, k + 1, k + 2, k + 3, k + 4)
def marksP (k : Int) : Nat → List PkD
  | 0 => []
  | n + 1 => marksP k n ++ [mkP (k + 5 * n)]
@[simp] theorem marksP_len (k : Int) : ∀ n, (marksP k n).length = n
  | 0 => rfl
  | n + 1 => by simp [marksP, marksP_len k n]
theorem marksP_get (k : Int) {i : Nat} : ∀ n (h : i < n), (marksP k n)[i]'(by simpa using h) = mkP (k + 5 * i)
  | 0, h => by omega
  | n + 1, h => by
    simp only [marksP]
    by_cases hi : i < n
    · rw [List.getElem_append_left (by simpa using hi)]; exact marksP_get k n hi
    · have : i = n := by omega
      subst this
      rw [List.getElem_append_right (by simp)]; simp
theorem marksP_set (k : Int) (xs : List PkD) {i : Nat} (h : i < xs.length) : (marksP k i ++ xs.drop i).set i (mkP (k + 5 * i)) = marksP k (i + 1) ++ xs.drop (i + 1) := by
  rw [List.set_append_right _ _ (by simp), marksP_len, Nat.sub_self, List.drop_eq_getElem_cons h, List.set_cons_zero, marksP]
  simp
theorem markPacketS_w (v : Value) (xs : List PkD) (e : TypeId) (k : Int) (h : Ow pkF e H v xs) (hl : xs.length ≤ 1073741824) (hk : 0 ≤ k ∧ k ≤ 4611686018427387904) (hf : ∀ i ∈ ids v, frz ≤ i) :
   wp (vcall C frz 35 [v, .int .i64 k] H) (fun r H' => r = .int .i64 (k + 5 * xs.length) ∧ Ow pkF e H' v (marksP k xs.length) ∧ Chg H H' (ids v) ∧ H'.length = H.length) := by
  rw [vcall_go (fn := Tryz.f35) Tryz.func35 rfl (by kernel_rfl) rfl]
  simp
  refine wp_inv (fun n t H' => ∃ i : Nat, n = xs.length - i ∧ i ≤ xs.length ∧ t 0 = v ∧ t 1 = .int .i64 (k + 5 * i) ∧ t 5 = .int .i64 i ∧ Ow pkF e H' v (marksP k i ++ xs.drop i) ∧ Chg H H' (ids v) ∧ H'.length = H.length) ?_ (n := xs.length)
    ⟨0, by simp, by omega, by simp, by simp, by simp, by simpa [marksP] using h, Chg.refl _, rfl⟩
  rintro n t H' ⟨i, rfl, hi, h0, h1, h5, o, c, l⟩ ih
  have hlen : (marksP k i ++ xs.drop i).length = xs.length := by simp; omega
  have ll := o.rd.len (P := Tryz.prog) (ty := 47) (by simp)
  rw [hlen] at ll
  simp [h0, h1, h5, ll]
  refine wp_dec ?_ ?_ <;> intro h6
  · have hi' : i < xs.length := by omega
    have hms := marksP_set k xs hi'
    generalize marksP k i ++ xs.drop i = ys at *
    have hy : i < ys.length := by omega
    obtain ⟨K, hK⟩ : ∃ K, K = k + 5 * (i : Int) := ⟨_, rfl⟩
    obtain ⟨K1, hK1⟩ : ∃ K1, K1 = K + 1 := ⟨_, rfl⟩
    obtain ⟨K2, hK2⟩ : ∃ K1, K1 = K + 2 := ⟨_, rfl⟩
    obtain ⟨K3, hK3⟩ : ∃ K1, K1 = K + 3 := ⟨_, rfl⟩
    obtain ⟨K4, hK4⟩ : ∃ K1, K1 = K + 4 := ⟨_, rfl⟩
    have hmk : mkP K = (K, K1, K2, K3, K4) := by rw [hK1, hK2, hK3, hK4]; rfl
    have w1 : ∀ [Inhabited Unit], IntKind.i64.wrap (K + 1) = K1 := by intro _; rw [w64 (by omega) (by omega), hK1]
    have w2 : ∀ [Inhabited Unit], IntKind.i64.wrap (K1 + 1) = K2 := by intro _; rw [w64 (by omega) (by omega)]; omega
    have w3 : ∀ [Inhabited Unit], IntKind.i64.wrap (K2 + 1) = K3 := by intro _; rw [w64 (by omega) (by omega)]; omega
    have w4 : ∀ [Inhabited Unit], IntKind.i64.wrap (K3 + 1) = K4 := by intro _; rw [w64 (by omega) (by omega)]; omega
    have w5 : ∀ [Inhabited Unit], IntKind.i64.wrap (K4 + 1) = k + 5 * ((i + 1 : Nat) : Int) := by intro _; rw [w64 (by omega) (by omega)]; omega
    rw [← hK] at hms h1
    obtain ⟨z, hz⟩ : ∃ z, z = ys[i] := ⟨_, rfl⟩
    have ix := fun {G : Heap} {zs : List PkD} (oo : Ow pkF e G v zs) (hh : i < zs.length) => oo.rd.idx (P := Tryz.prog) (ty := 47) (e := 76) (by simp) (i := (i : Int)) (by omega) (by omega)
    have fa := fun {G : Heap} {zs : List PkD} (oo : Ow pkF e G v zs) (hh : i < zs.length) => (show _ ∧ _ ∧ _ ∧ _ ∧ _ from
      ⟨oo.rd.field (P := Tryz.prog) (s := 76) (f := 0) (o := 0) (n := 1) (ag := false) (by simp) (j := i * 5) (by omega), oo.rd.field (P := Tryz.prog) (s := 76) (f := 1) (o := 1) (n := 1) (ag := false) (by simp) (j := i * 5) (by omega),
       oo.rd.field (P := Tryz.prog) (s := 76) (f := 2) (o := 2) (n := 1) (ag := false) (by simp) (j := i * 5) (by omega), oo.rd.field (P := Tryz.prog) (s := 76) (f := 3) (o := 3) (n := 1) (ag := false) (by simp) (j := i * 5) (by omega),
       oo.rd.field (P := Tryz.prog) (s := 76) (f := 4) (o := 4) (n := 1) (ag := false) (by simp) (j := i * 5) (by omega)⟩)
    obtain ⟨H1, s1, o1, c1, l1⟩ := o.store1 (P := Tryz.prog) (frz := frz) (et := 3) (ag := false) (x := .int .i64 K) (by simp) (j := i) (c := 0) (y := (K, z.2)) hy (by decide) rfl rfl (by rw [← hz]; rfl) hf
    obtain ⟨H2, s2, o2, c2, l2⟩ := o1.store1 (P := Tryz.prog) (frz := frz) (et := 3) (ag := false) (x := .int .i64 K1) (by simp) (j := i) (c := 1) (y := (K, K1, z.2.2)) (by simpa using hy) (by decide) rfl rfl (by simp [pkF_f]) hf
    obtain ⟨H3, s3, o3, c3, l3⟩ := o2.store1 (P := Tryz.prog) (frz := frz) (et := 3) (ag := false) (x := .int .i64 K2) (by simp) (j := i) (c := 2) (y := (K, K1, K2, z.2.2.2)) (by simpa using hy) (by decide) rfl rfl (by simp [pkF_f]) hf
    obtain ⟨H4, s4, o4, c4, l4⟩ := o3.store1 (P := Tryz.prog) (frz := frz) (et := 3) (ag := false) (x := .int .i64 K3) (by simp) (j := i) (c := 3) (y := (K, K1, K2, K3, z.2.2.2.2)) (by simpa using hy) (by decide) rfl rfl (by simp [pkF_f]) hf
    obtain ⟨H5, s5, o5, c5, l5⟩ := o4.store1 (P := Tryz.prog) (frz := frz) (et := 3) (ag := false) (x := .int .i64 K4) (by simp) (j := i) (c := 4) (y := (K, K1, K2, K3, K4)) (by simpa using hy) (by decide) rfl rfl (by simp [pkF_f]) hf
    have i0 := ix o hy
    have i1 := ix o1 (by simpa using hy)
    have i2 := ix o2 (by simpa using hy)
    have i3 := ix o3 (by simpa using hy)
    have i4 := ix o4 (by simpa using hy)
    have f0 := (fa o hy).1
    have f1 := (fa o1 (by simpa using hy)).2.1
    have f2 := (fa o2 (by simpa using hy)).2.2.1
    have f3 := (fa o3 (by simpa using hy)).2.2.2.1
    have f4 := (fa o4 (by simpa using hy)).2.2.2.2
    simp only [Int.toNat_natCast, pkF_n, Nat.add_zero] at i0 i1 i2 i3 i4 s1 s2 s3 s4 s5 f0
    simp [-vfieldAddr, vfa_ptr, h0, h1, h5, i0, i1, i2, i3, i4, f0, f1, f2, f3, f4, s1, s2, s3, s4, s5, w1, w2, w3, w4, w5]
    refine ih (xs.length - (i + 1)) _ _ ⟨i + 1, rfl, by omega, by simp [h0], ?_, ?_, ?_, (((((c.trans c1).trans c2).trans c3).trans c4).trans c5), by omega⟩ (by omega)
    · simp
    · simp; rw [w64 (by omega) (by omega)]
    · rw [← hms, hmk]; simpa only [List.set_set] using o5
  · have : i = xs.length := by omega
    subst this
    simp [h0, h1, h5]
    exact ⟨by simpa using o, c, l⟩
theorem heldPacketS_c (v : Value) (n : Nat) (k : Int) (h : Rd pkF H v (marksP k n)) (hl : n ≤ 1073741824) (hk : 0 ≤ k ∧ k ≤ 4611686018427387904) :
   vcall C frz 36 [v, .int .i64 k] H = some (.int .i64 (k + 5 * n), H) := by
  refine wp.exact (by simp) ?_ rfl
  rw [vcall_go (fn := Tryz.f36) Tryz.func36 rfl (by kernel_rfl) rfl]
  have ll := h.len (P := Tryz.prog) (ty := 47) (by simp)
  rw [marksP_len] at ll
  simp
  refine wp_inv (fun m t H' => ∃ i : Nat, m = n - i ∧ i ≤ n ∧ t 0 = v ∧ t 1 = .int .i64 (k + 5 * i) ∧ t 5 = .int .i64 i ∧ H' = H) ?_ (n := n) ⟨0, rfl, by omega, by simp, by simp, by simp, rfl⟩
  rintro m t H' ⟨i, rfl, hi, h0, h1, h5, rfl⟩ ih
  simp [h0, h1, h5, ll]
  refine wp_dec ?_ ?_ <;> intro h6
  · have hi' : i < n := by omega
    have hy : i < (marksP k n).length := by simpa using hi'
    obtain ⟨K, hK⟩ : ∃ K, K = k + 5 * (i : Int) := ⟨_, rfl⟩
    obtain ⟨K1, hK1⟩ : ∃ K1, K1 = K + 1 := ⟨_, rfl⟩
    obtain ⟨K2, hK2⟩ : ∃ K1, K1 = K + 2 := ⟨_, rfl⟩
    obtain ⟨K3, hK3⟩ : ∃ K1, K1 = K + 3 := ⟨_, rfl⟩
    obtain ⟨K4, hK4⟩ : ∃ K1, K1 = K + 4 := ⟨_, rfl⟩
    have hmk : (marksP k n)[i] = (K, K1, K2, K3, K4) := by rw [marksP_get k n hi', hK1, hK2, hK3, hK4, hK]; rfl
    have w1 : ∀ [Inhabited Unit], IntKind.i64.wrap (K + 1) = K1 := by intro _; rw [w64 (by omega) (by omega), hK1]
    have w2 : ∀ [Inhabited Unit], IntKind.i64.wrap (K1 + 1) = K2 := by intro _; rw [w64 (by omega) (by omega)]; omega
    have w3 : ∀ [Inhabited Unit], IntKind.i64.wrap (K2 + 1) = K3 := by intro _; rw [w64 (by omega) (by omega)]; omega
    have w4 : ∀ [Inhabited Unit], IntKind.i64.wrap (K3 + 1) = K4 := by intro _; rw [w64 (by omega) (by omega)]; omega
    have w5 : ∀ [Inhabited Unit], IntKind.i64.wrap (K4 + 1) = k + 5 * ((i + 1 : Nat) : Int) := by intro _; rw [w64 (by omega) (by omega)]; omega
    rw [← hK] at h1
    have i0 := h.idx (P := Tryz.prog) (ty := 47) (e := 76) (by simp) (i := (i : Int)) (by omega) (by omega)
    have f0 := h.field (P := Tryz.prog) (s := 76) (f := 0) (o := 0) (n := 1) (ag := false) (by simp) (j := i * 5) (by omega)
    have f1 := h.field (P := Tryz.prog) (s := 76) (f := 1) (o := 1) (n := 1) (ag := false) (by simp) (j := i * 5) (by omega)
    have f2 := h.field (P := Tryz.prog) (s := 76) (f := 2) (o := 2) (n := 1) (ag := false) (by simp) (j := i * 5) (by omega)
    have f3 := h.field (P := Tryz.prog) (s := 76) (f := 3) (o := 3) (n := 1) (ag := false) (by simp) (j := i * 5) (by omega)
    have f4 := h.field (P := Tryz.prog) (s := 76) (f := 4) (o := 4) (n := 1) (ag := false) (by simp) (j := i * 5) (by omega)
    have c0 := h.cell (P := Tryz.prog) (e := 3) (by simp) hy (c := 0) (by decide)
    have c1 := h.cell (P := Tryz.prog) (e := 3) (by simp) hy (c := 1) (by decide)
    have c2 := h.cell (P := Tryz.prog) (e := 3) (by simp) hy (c := 2) (by decide)
    have c3 := h.cell (P := Tryz.prog) (e := 3) (by simp) hy (c := 3) (by decide)
    have c4 := h.cell (P := Tryz.prog) (e := 3) (by simp) hy (c := 4) (by decide)
    rw [hmk] at c0 c1 c2 c3 c4
    simp only [Int.toNat_natCast, pkF_n, pkF_f, Nat.add_zero] at i0 f0 c0 c1 c2 c3 c4
    simp at c0 c1 c2 c3 c4
    simp [-vfieldAddr, vfa_ptr, h0, h1, h5, i0, f0, f1, f2, f3, f4, c0, c1, c2, c3, c4, w1, w2, w3, w4, w5]
    refine ih (n - (i + 1)) _ _ ⟨i + 1, rfl, by omega, by simp [h0], ?_, ?_, rfl⟩ (by omega)
    · simp
    · simp; rw [w64 (by omega) (by omega)]
  · have : i = n := by omega
    subst this
    simp [h0, h1, h5]
theorem markPk_d {v : Value} {a : List PkD} {k : Int} (h : dPk.Ow H v a) (hd : (dPk.ids v).Nodup) (hk : 0 ≤ k ∧ k ≤ 2305843009213693952) (hf : ∀ i ∈ dPk.ids v, frz ≤ i) :
    wp (vcall C frz 35 [v, .int .i64 k] H) (Marks 5368709120 dPk 36 H v a k) := by
  refine (markPacketS_w v a _ k h.1 h.2 ⟨by omega, by omega⟩ hf).mono ?_
  rintro r H' ⟨rfl, o, c, l⟩
  have := h.2
  refine ⟨5 * (a.length : Int), marksP k a.length, rfl, by omega, rfl, ⟨o, by simpa using h.2⟩, c, fun F H2 h2 => ?_⟩
  exact heldPacketS_c v a.length k h2.1.rd h.2 ⟨by omega, by omega⟩
theorem markChip_d {v : ChipV} {a : ChipD} {k : Int} (h : dChip.Ow H v a) (hd : (dChip.ids v).Nodup) (hk : 0 ≤ k ∧ k ≤ 576460752303423488) (hf : ∀ i ∈ dChip.ids v, frz ≤ i) :
    wp (vcall C frz 12 [dChip.val v a, .int .i64 k] H) (Marks 9007199254740992 dChip 13 H v a k) := by
  have oneA := dChip_one h
  obtain ⟨v1, v2⟩ := v
  obtain ⟨⟨⟨w, g, b⟩, r2, r3, r4, r5, r6, r7, tm⟩, a2⟩ := a
  obtain ⟨h1, h2⟩ := h
  have ones := oneA.1
  have one2 := oneA.2
  simp only at h1 h2 ones one2
  rw [dChip_val]
  rw [vcall_go (fn := Tryz.f12) Tryz.func12 rfl (by kernel_rfl) rfl]
  have rest7 : dChip.ids (v1, v2) = dNet.ids v1 ++ dPk.ids v2 := rfl
  rw [rest7] at hd hf
  obtain ⟨d1, d2, x1⟩ := List.nodup_append.1 hd
  have z2_1 : ∀ i ∈ dPk.ids v2, i ∉ dNet.ids v1 := fun i hi hh => x1 i hh i hi rfl
  have z1_2 : ∀ i ∈ dNet.ids v1, i ∉ dPk.ids v2 := fun i hh hi => x1 i hh i hi rfl
  have lt1 := dNet.lt h1
  have lt2 := dPk.lt h2
  simp [ones, one2]
  obtain ⟨G0, hG0⟩ : ∃ G, G = H ++ [⟨[.int .i64 w, .int .i64 g, v1.1, v1.2.1.1, v1.2.1.2, v1.2.2.1.1, v1.2.2.2.1, v1.2.2.2.2.1, v1.2.2.2.2.2.1.1, v1.2.2.2.2.2.2.1.1, .int .i64 tm, v2], 0, 49⟩] := ⟨_, rfl⟩
  have b0 : G0[H.length]? = some ⟨[.int .i64 w, .int .i64 g, v1.1, v1.2.1.1, v1.2.1.2, v1.2.2.1.1, v1.2.2.2.1, v1.2.2.2.2.1, v1.2.2.2.2.2.1.1, v1.2.2.2.2.2.2.1.1, .int .i64 tm, v2], 0, 49⟩ := by rw [hG0]; simp
  have cH : Chg H G0 (dChip.ids (v1, v2)) := by rw [hG0]; exact Chg.app _
  have h1 := (by rw [hG0]; exact Dt.app (T := dNet) h1 : dNet.Ow G0 v1 ((w, g, b), r2, r3, r4, r5, r6, r7, tm))
  have h2 := (by rw [hG0]; exact Dt.app (T := dPk) h2 : dPk.Ow G0 v2 a2)
  rw [← hG0]
  clear hG0
  have m1 := markNet_d (frz := frz) (k := k) h1 d1 (by omega) (fun i hi => hf i (List.mem_append.2 (.inl hi)))
  simp only [dNet_val] at m1
  refine wp_thn m1 ?_
  rintro _ G1 ⟨n1, a1', rfl, hn1, hv1, o1, c1, he1⟩
  clear m1
  have b0 := box_chg b0 c1 (fun hh => by have := lt1 _ hh; omega)
  have h2 := Dt.chg (T := dPk) h2 c1 z2_1
  have cH := cH.trans (c1.mono (fun i hi => List.mem_append.2 (.inl hi)))
  have m2 := markPk_d (frz := frz) (k := k + n1) h2 d2 (by omega) (fun i hi => hf i (List.mem_append.2 (.inr hi)))
  simp [VM.look, b0, ones, one2]
  refine wp_thn m2 ?_
  rintro _ G2 ⟨n2, a2', rfl, hn2, hv2, o2, c2, he2⟩
  clear m2
  have o1 := Dt.chg (T := dNet) o1 c2 z1_2
  have cH := cH.trans (c2.mono (fun i hi => List.mem_append.2 (.inr hi)))
  simp
  obtain ⟨⟨w', g', b'⟩, s2, s3, s4, s5, s6, s7, tm'⟩ := a1'
  obtain ⟨e1, e2, e3⟩ : w' = w ∧ g' = g ∧ tm' = tm := by simpa [dNet_val] using hv1
  subst e1 e2 e3
  refine ⟨n1 + n2, (((w', g', b'), s2, s3, s4, s5, s6, s7, tm'), a2'), by congr 1; omega, by omega, by rw [dChip_val, dChip_val], ⟨o1, o2⟩, cH, fun F H3 q => ?_⟩
  obtain ⟨p1, p2⟩ := q
  simp only at p1 p2
  rw [dChip_val]
  rw [vcall_go (fn := Tryz.f13) Tryz.func13 rfl (by kernel_rfl) rfl]
  have y1 := fun F => he1 F (H3 ++ [⟨[.int .i64 w', .int .i64 g', v1.1, v1.2.1.1, v1.2.1.2, v1.2.2.1.1, v1.2.2.2.1, v1.2.2.2.2.1, v1.2.2.2.2.2.1.1, v1.2.2.2.2.2.2.1.1, .int .i64 tm', v2], 0, 49⟩]) (Dt.app (T := dNet) p1)
  simp only [dNet_val] at y1
  have f1 : ¬ k + n1 < 0 := by omega
  have y2 := fun F => he2 F (H3 ++ [⟨[.int .i64 w', .int .i64 g', v1.1, v1.2.1.1, v1.2.1.2, v1.2.2.1.1, v1.2.2.2.1, v1.2.2.2.2.1, v1.2.2.2.2.2.1.1, v1.2.2.2.2.2.2.1.1, .int .i64 tm', v2], 0, 49⟩]) (Dt.app (T := dPk) p2)
  simp only [show ∀ (v : Value) (a : List PkD), dPk.val v a = v from fun _ _ => rfl] at y2
  have f2 : ¬ k + n1 + n2 < 0 := by omega
  simp [ones, one2, y1, f1]
  simp [ones, one2, y2, f2]
  omega
end Go.Proofs.YtcigpclbhfkgaaaGreat.V
/-! The law FnExactChipSend. -/
set_option linter.all false
namespace Go.Proofs.YtcigpclbhfkgaaaGreat.V
open Go Go.VM Go.Proofs
set_option maxRecDepth 10000
variable {frz : Nat} {H : Heap}
theorem law_FnExactChipSend_w {a0_0 : Int} {a0_1 : Int} {a0_2 : List (Int)} {u0_2 : Value} {a0_3 : List (Int)} {u0_3 : Value} {a0_4 : List (Int)} {u0_4 : Value} {a0_5 : List (List (Int × Int × Int × Bool × Bool))} {u0_5 : Value} {a0_6 : List (Int)} {u0_6 : Value} {a0_7 : List (Int)} {u0_7 : Value} {a0_8 : List (List (Int × Int × Int × Bool × Bool))} {u0_8 : Value} {a0_9 : List (List (Int × Int × Int × Bool × Bool))} {u0_9 : Value} {a0_10 : Int} {a0_11 : List (Int × Int × Int × Int × Int)} {u0_11 : Value} {a1 : Int} {a2 : Int} {a3 : Int} {a4 : Int} (s0_2 : IsS (Kn.int .i64) H u0_2 a0_2) (s0_3 : IsS (Kn.int .i64) H u0_3 a0_3) (s0_4 : IsS (Kn.int .i64) H u0_4 a0_4) (s0_5 : IsS (Kn.slice (Kn.pair (Kn.int .i64) (Kn.pair (Kn.int .i64) (Kn.pair (Kn.int .i64) (Kn.pair Kn.bool Kn.bool))))) H u0_5 a0_5) (s0_6 : IsS (Kn.int .i64) H u0_6 a0_6) (s0_7 : IsS (Kn.int .i64) H u0_7 a0_7) (s0_8 : IsS (Kn.slice (Kn.pair (Kn.int .i64) (Kn.pair (Kn.int .i64) (Kn.pair (Kn.int .i64) (Kn.pair Kn.bool Kn.bool))))) H u0_8 a0_8) (s0_9 : IsS (Kn.slice (Kn.pair (Kn.int .i64) (Kn.pair (Kn.int .i64) (Kn.pair (Kn.int .i64) (Kn.pair Kn.bool Kn.bool))))) H u0_9 a0_9) (s0_11 : IsS (Kn.pair (Kn.int .i64) (Kn.pair (Kn.int .i64) (Kn.pair (Kn.int .i64) (Kn.pair (Kn.int .i64) (Kn.int .i64))))) H u0_11 a0_11)
    (w0 : (((((Lit.int .i64 a0_0).wf = true) ∧ ((Lit.int .i64 a0_1).wf = true)) ∧ (a0_2.length ≤ maxLen ∧ ∀ x1 ∈ a0_2, (Lit.int .i64 x1).wf = true)) ∧ (((a0_3.length ≤ maxLen ∧ ∀ x2 ∈ a0_3, (Lit.int .i64 x2).wf = true)) ∧ ((a0_4.length ≤ maxLen ∧ ∀ x3 ∈ a0_4, (Lit.int .i64 x3).wf = true))) ∧ (a0_5.length ≤ maxLen ∧ ∀ x4 ∈ a0_5, x4.length ≤ maxLen ∧ ∀ x5 ∈ x4, ((Lit.int .i64 x5.1).wf = true) ∧ ((Lit.int .i64 x5.2.1).wf = true) ∧ ((Lit.int .i64 x5.2.2.1).wf = true) ∧ (True) ∧ (True)) ∧ (a0_6.length ≤ maxLen ∧ ∀ x6 ∈ a0_6, (Lit.int .i64 x6).wf = true) ∧ (a0_7.length ≤ maxLen ∧ ∀ x7 ∈ a0_7, (Lit.int .i64 x7).wf = true) ∧ (a0_8.length ≤ maxLen ∧ ∀ x8 ∈ a0_8, x8.length ≤ maxLen ∧ ∀ x9 ∈ x8, ((Lit.int .i64 x9.1).wf = true) ∧ ((Lit.int .i64 x9.2.1).wf = true) ∧ ((Lit.int .i64 x9.2.2.1).wf = true) ∧ (True) ∧ (True)) ∧ (a0_9.length ≤ maxLen ∧ ∀ x10 ∈ a0_9, x10.length ≤ maxLen ∧ ∀ x11 ∈ x10, ((Lit.int .i64 x11.1).wf = true) ∧ ((Lit.int .i64 x11.2.1).wf = true) ∧ ((Lit.int .i64 x11.2.2.1).wf = true) ∧ (True) ∧ (True)) ∧ ((Lit.int .i64 a0_10).wf = true)) ∧ (a0_11.length ≤ maxLen ∧ ∀ x12 ∈ a0_11, ((Lit.int .i64 x12.1).wf = true) ∧ ((Lit.int .i64 x12.2.1).wf = true) ∧ ((Lit.int .i64 x12.2.2.1).wf = true) ∧ ((Lit.int .i64 x12.2.2.2.1).wf = true) ∧ ((Lit.int .i64 x12.2.2.2.2).wf = true))) (w1 : (Lit.int .i64 a1).wf = true) (w2 : (Lit.int .i64 a2).wf = true) (w3 : (Lit.int .i64 a3).wf = true) (w4 : (Lit.int .i64 a4).wf = true) :
    wp (vcall C frz 3 [.agg #[.int .i64 a0_0, .int .i64 a0_1, u0_2, u0_3, u0_4, u0_5, u0_6, u0_7, u0_8, u0_9, .int .i64 a0_10, u0_11], .int .i64 a1, .int .i64 a2, .int .i64 a3, .int .i64 a4] H) (fun r _ => r = .bool true) := by
  have r0_2 := s0_2.ints.rd
  have r0_3 := s0_3.ints.rd
  have r0_4 := s0_4.ints.rd
  obtain ⟨h0_5, r0_5⟩ := IsS.rdL_of (fun hh => IsS.rd_of rfl knF_is hh) s0_5
  have r0_6 := s0_6.ints.rd
  have r0_7 := s0_7.ints.rd
  obtain ⟨h0_8, r0_8⟩ := IsS.rdL_of (fun hh => IsS.rd_of rfl knF_is hh) s0_8
  obtain ⟨h0_9, r0_9⟩ := IsS.rdL_of (fun hh => IsS.rd_of rfl knF_is hh) s0_9
  have r0_11 := IsS.rd_of (D := pkF) rfl knP_is s0_11
  have rl0_2 := fun (L : Heap) => (Rd.app (L := L) r0_2).len (P := Tryz.prog) (ty := 24) (by simp)
  have rm0_2 := r0_2.len (P := Tryz.prog) (ty := 24) (by simp)
  have rl0_3 := fun (L : Heap) => (Rd.app (L := L) r0_3).len (P := Tryz.prog) (ty := 24) (by simp)
  have rm0_3 := r0_3.len (P := Tryz.prog) (ty := 24) (by simp)
  have rl0_4 := fun (L : Heap) => (Rd.app (L := L) r0_4).len (P := Tryz.prog) (ty := 24) (by simp)
  have rm0_4 := r0_4.len (P := Tryz.prog) (ty := 24) (by simp)
  have rl0_6 := fun (L : Heap) => (Rd.app (L := L) r0_6).len (P := Tryz.prog) (ty := 24) (by simp)
  have rm0_6 := r0_6.len (P := Tryz.prog) (ty := 24) (by simp)
  have rl0_7 := fun (L : Heap) => (Rd.app (L := L) r0_7).len (P := Tryz.prog) (ty := 24) (by simp)
  have rm0_7 := r0_7.len (P := Tryz.prog) (ty := 24) (by simp)
  have rl0_11 := fun (L : Heap) => (Rd.app (L := L) r0_11).len (P := Tryz.prog) (ty := 34) (by simp)
  have rm0_11 := r0_11.len (P := Tryz.prog) (ty := 34) (by simp)
  rw [vcall_go (fn := Tryz.f3) Tryz.func3 rfl (by kernel_rfl) rfl]
  have ro0_2 := And.intro r0_2.one' r0_2.cells
  have ro0_3 := And.intro r0_3.one' r0_3.cells
  have ro0_4 := And.intro r0_4.one' r0_4.cells
  have ro0_5 := And.intro r0_5.1.one' r0_5.1.cells
  have ro0_6 := And.intro r0_6.one' r0_6.cells
  have ro0_7 := And.intro r0_7.one' r0_7.cells
  have ro0_8 := And.intro r0_8.1.one' r0_8.1.cells
  have ro0_9 := And.intro r0_9.1.one' r0_9.1.cells
  have ro0_11 := And.intro r0_11.one' r0_11.cells
  simp [VM.look, ro0_2, rl0_2, rm0_2, ro0_3, rl0_3, rm0_3, ro0_4, rl0_4, rm0_4, ro0_5, ro0_6, rl0_6, rm0_6, ro0_7, rl0_7, rm0_7, ro0_8, ro0_9, ro0_11, rl0_11, rm0_11]
  have sz0 := fun F (L : Heap) => szChip_c (frz := F) (H := H ++ L) a0_0 a0_1 a0_10 1048576 u0_2 u0_3 u0_4 u0_5 u0_6 u0_7 u0_8 u0_9 u0_11 h0_5 h0_8 h0_9 a0_2 a0_3 a0_4 a0_6 a0_7 a0_5 a0_8 a0_9 a0_11 (IsI.rd (Rd.isI (Rd.chg r0_2 ((Chg.refl (H := H) []).trans (Chg.app [])) (by simp)))) (IsI.rd (Rd.isI (Rd.chg r0_3 ((Chg.refl (H := H) []).trans (Chg.app [])) (by simp)))) (IsI.rd (Rd.isI (Rd.chg r0_4 ((Chg.refl (H := H) []).trans (Chg.app [])) (by simp)))) (RdL.chg r0_5 ((Chg.refl (H := H) []).trans (Chg.app [])) (by simp)) (IsI.rd (Rd.isI (Rd.chg r0_6 ((Chg.refl (H := H) []).trans (Chg.app [])) (by simp)))) (IsI.rd (Rd.isI (Rd.chg r0_7 ((Chg.refl (H := H) []).trans (Chg.app [])) (by simp)))) (RdL.chg r0_8 ((Chg.refl (H := H) []).trans (Chg.app [])) (by simp)) (RdL.chg r0_9 ((Chg.refl (H := H) []).trans (Chg.app [])) (by simp)) (Rd.chg r0_11 ((Chg.refl (H := H) []).trans (Chg.app [])) (by simp)) (by have := w0.1.1.2.1; simpa [maxLen] using this) (by have := w0.1.2.1.1.1; simpa [maxLen] using this) (by have := w0.1.2.1.2.1; simpa [maxLen] using this) (by have := w0.1.2.2.1.1; simpa [maxLen] using this) (fun x hx => by have := (w0.1.2.2.1.2 x hx).1; simpa [maxLen] using this) (by have := w0.1.2.2.2.1.1; simpa [maxLen] using this) (by have := w0.1.2.2.2.2.1.1; simpa [maxLen] using this) (by have := w0.1.2.2.2.2.2.1.1; simpa [maxLen] using this) (fun x hx => by have := (w0.1.2.2.2.2.2.1.2 x hx).1; simpa [maxLen] using this) (by have := w0.1.2.2.2.2.2.2.1.1; simpa [maxLen] using this) (fun x hx => by have := (w0.1.2.2.2.2.2.2.1.2 x hx).1; simpa [maxLen] using this) (by have := w0.2.1; simpa [maxLen] using this) (by omega) (by omega)
  simp [VM.look, ro0_2, rl0_2, rm0_2, ro0_3, rl0_3, rm0_3, ro0_4, rl0_4, rm0_4, ro0_5, ro0_6, rl0_6, rm0_6, ro0_7, rl0_7, rm0_7, ro0_8, ro0_9, ro0_11, rl0_11, rm0_11, sz0]
  refine wp_dec ?_ ?_ <;> intro g1 <;> simp [g1]
  have t0 : (a0_2.length : Int) + ((a0_3.length : Int) + (a0_4.length : Int)) + (tot a0_5 : Int) + (a0_6.length : Int) + (a0_7.length : Int) + (tot a0_8 : Int) + (tot a0_9 : Int) + (a0_11.length : Int) ≤ 1048576 := by split at g1 <;> omega
  have f0 : ¬ (1048576 : Int) < (a0_2.length : Int) + ((a0_3.length : Int) + (a0_4.length : Int)) + (tot a0_5 : Int) + (a0_6.length : Int) + (a0_7.length : Int) + (tot a0_8 : Int) + (tot a0_9 : Int) + (a0_11.length : Int) := by omega
  simp only [if_neg f0]
  try simp [VM.look, ro0_2, rl0_2, rm0_2, ro0_3, rl0_3, rm0_3, ro0_4, rl0_4, rm0_4, ro0_5, ro0_6, rl0_6, rm0_6, ro0_7, rl0_7, rm0_7, ro0_8, ro0_9, ro0_11, rl0_11, rm0_11, f0]
  refine wp_thn (toChip_w a0_0 a0_1 a0_10 u0_2 u0_3 u0_4 u0_5 u0_6 u0_7 u0_8 u0_9 u0_11 h0_5 h0_8 h0_9 a0_2 a0_3 a0_4 a0_6 a0_7 a0_5 a0_8 a0_9 a0_11 (IsI.rd (Rd.isI (Rd.chg r0_2 ((Chg.refl (H := H) []).trans (Chg.app [])) (by simp)))) (IsI.rd (Rd.isI (Rd.chg r0_3 ((Chg.refl (H := H) []).trans (Chg.app [])) (by simp)))) (IsI.rd (Rd.isI (Rd.chg r0_4 ((Chg.refl (H := H) []).trans (Chg.app [])) (by simp)))) (RdL.chg r0_5 ((Chg.refl (H := H) []).trans (Chg.app [])) (by simp)) (IsI.rd (Rd.isI (Rd.chg r0_6 ((Chg.refl (H := H) []).trans (Chg.app [])) (by simp)))) (IsI.rd (Rd.isI (Rd.chg r0_7 ((Chg.refl (H := H) []).trans (Chg.app [])) (by simp)))) (RdL.chg r0_8 ((Chg.refl (H := H) []).trans (Chg.app [])) (by simp)) (RdL.chg r0_9 ((Chg.refl (H := H) []).trans (Chg.app [])) (by simp)) (Rd.chg r0_11 ((Chg.refl (H := H) []).trans (Chg.app [])) (by simp)) (by omega) (by omega) (by omega) (by have := tot_len a0_5; omega) (fun x hx => by have := tot_in a0_5 x hx; omega) (by omega) (by omega) (by have := tot_len a0_8; omega) (fun x hx => by have := tot_in a0_8 x hx; omega) (by have := tot_len a0_9; omega) (fun x hx => by have := tot_in a0_9 x hx; omega) (by omega)) ?_
  rintro _ H1 ⟨v_x0, rfl, o_x0, c1, n_x0, d_x0⟩
  have l1 := c1.1
  try simp at l1
  have b1_5 := box_chg ((app_get0 _ _).trans rfl) c1 (by simp)
  have cH1 : Chg H H1 [] := ((Chg.refl (H := H) []).trans (Chg.app [])).trans c1
  have h_x0 := dChip.lt o_x0
  try simp at n_x0
  have one_x0 := dChip_one o_x0
  simp [VM.look, b1_5, get_app' b1_5, cH1.1, Nat.le_add_right_of_le cH1.1, one_x0, ro0_2, ro0_3, ro0_4, ro0_5, ro0_6, ro0_7, ro0_8, ro0_9, ro0_11, dChip_val, f0]
  have ex2 := sChipSend_d (frz := H.length) (H := H1) (q2 := a1) (q3 := a2) (q4 := a3) (q5 := a4) o_x0
  try simp only [dChip_val] at ex2
  refine wp_thn ex2 ?_
  rintro _ H2 ⟨_, rfl, v_w1, rfl, o_w1, c2, n_w1, d_w1⟩
  clear ex2
  have l2 := c2.1
  try simp at l2
  have b2_5 := box_chg b1_5 c2 (by simp)
  have o2_x0 := Dt.chg0 o_x0 c2
  have cH2 : Chg H H2 [] := (cH1).trans c2
  have h_w1 := dChip.lt o_w1
  try simp at n_w1
  have one_w1 := dChip_one o_w1
  simp [VM.look, b2_5, get_app' b2_5, cH2.1, Nat.le_add_right_of_le cH2.1, one_x0, one_w1, ro0_2, ro0_3, ro0_4, ro0_5, ro0_6, ro0_7, ro0_8, ro0_9, ro0_11, dChip_val, f0]
  refine wp_thn (toChip_w a0_0 a0_1 a0_10 u0_2 u0_3 u0_4 u0_5 u0_6 u0_7 u0_8 u0_9 u0_11 h0_5 h0_8 h0_9 a0_2 a0_3 a0_4 a0_6 a0_7 a0_5 a0_8 a0_9 a0_11 (IsI.rd (Rd.isI (Rd.chg r0_2 (cH2.trans (Chg.app [])) (by simp)))) (IsI.rd (Rd.isI (Rd.chg r0_3 (cH2.trans (Chg.app [])) (by simp)))) (IsI.rd (Rd.isI (Rd.chg r0_4 (cH2.trans (Chg.app [])) (by simp)))) (RdL.chg r0_5 (cH2.trans (Chg.app [])) (by simp)) (IsI.rd (Rd.isI (Rd.chg r0_6 (cH2.trans (Chg.app [])) (by simp)))) (IsI.rd (Rd.isI (Rd.chg r0_7 (cH2.trans (Chg.app [])) (by simp)))) (RdL.chg r0_8 (cH2.trans (Chg.app [])) (by simp)) (RdL.chg r0_9 (cH2.trans (Chg.app [])) (by simp)) (Rd.chg r0_11 (cH2.trans (Chg.app [])) (by simp)) (by omega) (by omega) (by omega) (by have := tot_len a0_5; omega) (fun x hx => by have := tot_in a0_5 x hx; omega) (by omega) (by omega) (by have := tot_len a0_8; omega) (fun x hx => by have := tot_in a0_8 x hx; omega) (by have := tot_len a0_9; omega) (fun x hx => by have := tot_in a0_9 x hx; omega) (by omega)) ?_
  rintro _ H3 ⟨v_x2, rfl, o_x2, c3, n_x2, d_x2⟩
  have l3 := c3.1
  try simp at l3
  have b3_12 := box_chg ((app_get0 _ _).trans rfl) c3 (by simp)
  have b3_5 := box_chg (get_app' b2_5 _) c3 (by simp)
  have o3_x0 := Dt.chg0 (Dt.app o2_x0) c3
  have o3_w1 := Dt.chg0 (Dt.app o_w1) c3
  have cH3 : Chg H H3 [] := (cH2.trans (Chg.app [])).trans c3
  have h_x2 := dChip.lt o_x2
  try simp at n_x2
  have one_x2 := dChip_one o_x2
  simp [VM.look, b3_5, b3_12, get_app' b3_5, get_app' b3_12, cH3.1, Nat.le_add_right_of_le cH3.1, one_x0, one_w1, one_x2, ro0_2, ro0_3, ro0_4, ro0_5, ro0_6, ro0_7, ro0_8, ro0_9, ro0_11, dChip_val, f0]
  have ex4 := fun (L : Heap) => chipSend_d (frz := H.length) (H := H3 ++ L) (q2 := a1) (q3 := a2) (q4 := a3) (q5 := a4) (Dt.app o_x2)
  try simp only [dChip_val] at ex4
  refine wp_thn (ex4 _) ?_
  rintro _ H4 ⟨_, rfl, v_g3, rfl, o_g3, c4, n_g3, d_g3⟩
  clear ex4
  have l4 := c4.1
  try simp at l4
  have b4_14 := box_chg ((app_get0 _ _).trans rfl) c4 (by simp)
  have b4_5 := box_chg (get_app' b3_5 _) c4 (by simp)
  have b4_12 := box_chg (get_app' b3_12 _) c4 (by simp)
  have o4_x0 := Dt.chg0 (Dt.app o3_x0) c4
  have o4_w1 := Dt.chg0 (Dt.app o3_w1) c4
  have o4_x2 := Dt.chg0 (Dt.app o_x2) c4
  have cH4 : Chg H H4 [] := (cH3.trans (Chg.app [])).trans c4
  have h_g3 := dChip.lt o_g3
  try simp at n_g3
  have one_g3 := dChip_one o_g3
  simp [VM.look, b4_5, b4_12, b4_14, get_app' b4_5, get_app' b4_12, get_app' b4_14, cH4.1, Nat.le_add_right_of_le cH4.1, one_x0, one_w1, one_x2, one_g3, ro0_2, ro0_3, ro0_4, ro0_5, ro0_6, ro0_7, ro0_8, ro0_9, ro0_11, dChip_val, f0]
  have eq5 := fun F (L : Heap) => eqChip_d (frz := F) (H := H4 ++ L) (Dt.app o_g3) (Dt.app o4_w1)
  try simp only [dChip_val] at eq5
  simp [eq5, VM.look, b4_5, b4_12, b4_14, get_app' b4_5, get_app' b4_12, get_app' b4_14, cH4.1, Nat.le_add_right_of_le cH4.1, one_x0, one_w1, one_x2, one_g3, ro0_2, ro0_3, ro0_4, ro0_5, ro0_6, ro0_7, ro0_8, ro0_9, ro0_11, dChip_val, f0]
  rw [go_draw (h := by kernel_rfl)]
  simp [VM.look, b4_5, b4_12, b4_14, get_app' b4_5, get_app' b4_12, get_app' b4_14, cH4.1, Nat.le_add_right_of_le cH4.1, one_x0, one_w1, one_x2, one_g3, ro0_2, ro0_3, ro0_4, ro0_5, ro0_6, ro0_7, ro0_8, ro0_9, ro0_11, dChip_val, f0]
  refine wp_thn (toChip_w a0_0 a0_1 a0_10 u0_2 u0_3 u0_4 u0_5 u0_6 u0_7 u0_8 u0_9 u0_11 h0_5 h0_8 h0_9 a0_2 a0_3 a0_4 a0_6 a0_7 a0_5 a0_8 a0_9 a0_11 (IsI.rd (Rd.isI (Rd.chg r0_2 (cH4.trans (Chg.app [])) (by simp)))) (IsI.rd (Rd.isI (Rd.chg r0_3 (cH4.trans (Chg.app [])) (by simp)))) (IsI.rd (Rd.isI (Rd.chg r0_4 (cH4.trans (Chg.app [])) (by simp)))) (RdL.chg r0_5 (cH4.trans (Chg.app [])) (by simp)) (IsI.rd (Rd.isI (Rd.chg r0_6 (cH4.trans (Chg.app [])) (by simp)))) (IsI.rd (Rd.isI (Rd.chg r0_7 (cH4.trans (Chg.app [])) (by simp)))) (RdL.chg r0_8 (cH4.trans (Chg.app [])) (by simp)) (RdL.chg r0_9 (cH4.trans (Chg.app [])) (by simp)) (Rd.chg r0_11 (cH4.trans (Chg.app [])) (by simp)) (by omega) (by omega) (by omega) (by have := tot_len a0_5; omega) (fun x hx => by have := tot_in a0_5 x hx; omega) (by omega) (by omega) (by have := tot_len a0_8; omega) (fun x hx => by have := tot_in a0_8 x hx; omega) (by have := tot_len a0_9; omega) (fun x hx => by have := tot_in a0_9 x hx; omega) (by omega)) ?_
  rintro _ H6 ⟨v_x4, rfl, o_x4, c6, n_x4, d_x4⟩
  have l6 := c6.1
  try simp at l6
  have b6_15 := box_chg ((app_get0 _ _).trans rfl) c6 (by simp)
  have b6_5 := box_chg (get_app' b4_5 _) c6 (by simp)
  have b6_12 := box_chg (get_app' b4_12 _) c6 (by simp)
  have b6_14 := box_chg (get_app' b4_14 _) c6 (by simp)
  have o6_x0 := Dt.chg0 (Dt.app o4_x0) c6
  have o6_w1 := Dt.chg0 (Dt.app o4_w1) c6
  have o6_x2 := Dt.chg0 (Dt.app o4_x2) c6
  have o6_g3 := Dt.chg0 (Dt.app o_g3) c6
  have cH6 : Chg H H6 [] := (cH4.trans (Chg.app [])).trans c6
  have h_x4 := dChip.lt o_x4
  try simp at n_x4
  have one_x4 := dChip_one o_x4
  simp [VM.look, b6_5, b6_12, b6_14, b6_15, get_app' b6_5, get_app' b6_12, get_app' b6_14, get_app' b6_15, cH6.1, Nat.le_add_right_of_le cH6.1, one_x0, one_w1, one_x2, one_g3, one_x4, ro0_2, ro0_3, ro0_4, ro0_5, ro0_6, ro0_7, ro0_8, ro0_9, ro0_11, dChip_val, f0]
  have eq7 := fun F => eqChip_d (frz := F) (H := H6) o6_x2 o_x4
  try simp only [dChip_val] at eq7
  simp [eq7, VM.look, b6_5, b6_12, b6_14, b6_15, get_app' b6_5, get_app' b6_12, get_app' b6_14, get_app' b6_15, cH6.1, Nat.le_add_right_of_le cH6.1, one_x0, one_w1, one_x2, one_g3, one_x4, ro0_2, ro0_3, ro0_4, ro0_5, ro0_6, ro0_7, ro0_8, ro0_9, ro0_11, dChip_val, f0]
  have mk8 := markChip_d (frz := H.length) (H := H6) (k := 1) o6_x2 d_x2 (by omega) (fun i hi => by have := n_x2 i hi; have := cH6.1; omega)
  try simp only [dChip_val] at mk8
  refine wp_thn mk8 ?_
  rintro _ H8 ⟨m8, a_x2, rfl, hm8, hv8, o8_x2, c8, he8⟩
  clear mk8
  have l8 := c8.1
  try simp at l8
  have b8_5 := box_chg b6_5 c8 (fun hh => by have := n_x2 _ hh; have := h_x2 _ hh; omega)
  have b8_12 := box_chg b6_12 c8 (fun hh => by have := n_x2 _ hh; have := h_x2 _ hh; omega)
  have b8_14 := box_chg b6_14 c8 (fun hh => by have := n_x2 _ hh; have := h_x2 _ hh; omega)
  have b8_15 := box_chg b6_15 c8 (fun hh => by have := n_x2 _ hh; have := h_x2 _ hh; omega)
  have o8_x0 := Dt.chg o6_x0 c8 (fun i hi hh => by have := n_x0 i hi; have := h_x0 i hi; have := n_x2 i hh; have := h_x2 i hh; omega)
  have o8_w1 := Dt.chg o6_w1 c8 (fun i hi hh => by have := n_w1 i hi; have := h_w1 i hi; have := n_x2 i hh; have := h_x2 i hh; omega)
  have o8_g3 := Dt.chg o6_g3 c8 (fun i hi hh => by have := n_g3 i hi; have := h_g3 i hi; have := n_x2 i hh; have := h_x2 i hh; omega)
  have o8_x4 := Dt.chg o_x4 c8 (fun i hi hh => by have := n_x4 i hi; have := h_x4 i hi; have := n_x2 i hh; have := h_x2 i hh; omega)
  have cH8 : Chg H H8 [] := (cH6).trans' c8 (fun i hi => .inr (by have := n_x2 i hi; have := cH6.1; omega))
  try simp only [hv8, dChip_val] at he8
  have fl8 : ¬ (1 + m8 < 0) := by omega
  simp [VM.look, b8_5, b8_12, b8_14, b8_15, get_app' b8_5, get_app' b8_12, get_app' b8_14, get_app' b8_15, cH8.1, Nat.le_add_right_of_le cH8.1, one_x0, one_w1, one_x2, one_g3, one_x4, ro0_2, ro0_3, ro0_4, ro0_5, ro0_6, ro0_7, ro0_8, ro0_9, ro0_11, dChip_val, f0, fl8]
  have eq9 := fun F => eqChip_d (frz := F) (H := H8) o8_g3 o8_w1
  try simp only [dChip_val] at eq9
  simp [eq9, VM.look, b8_5, b8_12, b8_14, b8_15, get_app' b8_5, get_app' b8_12, get_app' b8_14, get_app' b8_15, cH8.1, Nat.le_add_right_of_le cH8.1, one_x0, one_w1, one_x2, one_g3, one_x4, ro0_2, ro0_3, ro0_4, ro0_5, ro0_6, ro0_7, ro0_8, ro0_9, ro0_11, dChip_val, f0, fl8]
  have mk10 := markChip_d (frz := H.length) (H := H8) (k := 1) o8_g3 d_g3 (by omega) (fun i hi => by have := n_g3 i hi; have := cH8.1; omega)
  try simp only [dChip_val] at mk10
  refine wp_thn mk10 ?_
  rintro _ H10 ⟨m10, a_g3, rfl, hm10, hv10, o10_g3, c10, he10⟩
  clear mk10
  have l10 := c10.1
  try simp at l10
  have b10_5 := box_chg b8_5 c10 (fun hh => by have := n_g3 _ hh; have := h_g3 _ hh; omega)
  have b10_12 := box_chg b8_12 c10 (fun hh => by have := n_g3 _ hh; have := h_g3 _ hh; omega)
  have b10_14 := box_chg b8_14 c10 (fun hh => by have := n_g3 _ hh; have := h_g3 _ hh; omega)
  have b10_15 := box_chg b8_15 c10 (fun hh => by have := n_g3 _ hh; have := h_g3 _ hh; omega)
  have o10_x0 := Dt.chg o8_x0 c10 (fun i hi hh => by have := n_x0 i hi; have := h_x0 i hi; have := n_g3 i hh; have := h_g3 i hh; omega)
  have o10_w1 := Dt.chg o8_w1 c10 (fun i hi hh => by have := n_w1 i hi; have := h_w1 i hi; have := n_g3 i hh; have := h_g3 i hh; omega)
  have o10_x2 := Dt.chg o8_x2 c10 (fun i hi hh => by have := n_x2 i hi; have := h_x2 i hi; have := n_g3 i hh; have := h_g3 i hh; omega)
  have o10_x4 := Dt.chg o8_x4 c10 (fun i hi hh => by have := n_x4 i hi; have := h_x4 i hi; have := n_g3 i hh; have := h_g3 i hh; omega)
  have cH10 : Chg H H10 [] := (cH8).trans' c10 (fun i hi => .inr (by have := n_g3 i hi; have := cH8.1; omega))
  try simp only [hv10, dChip_val] at he10
  have fl10 : ¬ (1 + m10 < 0) := by omega
  simp [VM.look, b10_5, b10_12, b10_14, b10_15, get_app' b10_5, get_app' b10_12, get_app' b10_14, get_app' b10_15, cH10.1, Nat.le_add_right_of_le cH10.1, one_x0, one_w1, one_x2, one_g3, one_x4, ro0_2, ro0_3, ro0_4, ro0_5, ro0_6, ro0_7, ro0_8, ro0_9, ro0_11, dChip_val, f0, fl8, fl10]
  have hd11 := fun F => he10 F _ o10_g3
  simp [hd11, VM.look, b10_5, b10_12, b10_14, b10_15, get_app' b10_5, get_app' b10_12, get_app' b10_14, get_app' b10_15, cH10.1, Nat.le_add_right_of_le cH10.1, one_x0, one_w1, one_x2, one_g3, one_x4, ro0_2, ro0_3, ro0_4, ro0_5, ro0_6, ro0_7, ro0_8, ro0_9, ro0_11, dChip_val, f0, fl8, fl10]
  refine wp_thn (toChip_w a0_0 a0_1 a0_10 u0_2 u0_3 u0_4 u0_5 u0_6 u0_7 u0_8 u0_9 u0_11 h0_5 h0_8 h0_9 a0_2 a0_3 a0_4 a0_6 a0_7 a0_5 a0_8 a0_9 a0_11 (IsI.rd (Rd.isI (Rd.chg r0_2 cH10 (by simp)))) (IsI.rd (Rd.isI (Rd.chg r0_3 cH10 (by simp)))) (IsI.rd (Rd.isI (Rd.chg r0_4 cH10 (by simp)))) (RdL.chg r0_5 cH10 (by simp)) (IsI.rd (Rd.isI (Rd.chg r0_6 cH10 (by simp)))) (IsI.rd (Rd.isI (Rd.chg r0_7 cH10 (by simp)))) (RdL.chg r0_8 cH10 (by simp)) (RdL.chg r0_9 cH10 (by simp)) (Rd.chg r0_11 cH10 (by simp)) (by omega) (by omega) (by omega) (by have := tot_len a0_5; omega) (fun x hx => by have := tot_in a0_5 x hx; omega) (by omega) (by omega) (by have := tot_len a0_8; omega) (fun x hx => by have := tot_in a0_8 x hx; omega) (by have := tot_len a0_9; omega) (fun x hx => by have := tot_in a0_9 x hx; omega) (by omega)) ?_
  rintro _ H12 ⟨v_x5, rfl, o_x5, c12, n_x5, d_x5⟩
  have l12 := c12.1
  try simp at l12
  have b12_5 := box_chg b10_5 c12 (by simp)
  have b12_12 := box_chg b10_12 c12 (by simp)
  have b12_14 := box_chg b10_14 c12 (by simp)
  have b12_15 := box_chg b10_15 c12 (by simp)
  have o12_x0 := Dt.chg0 o10_x0 c12
  have o12_w1 := Dt.chg0 o10_w1 c12
  have o12_x2 := Dt.chg0 o10_x2 c12
  have o12_g3 := Dt.chg0 o10_g3 c12
  have o12_x4 := Dt.chg0 o10_x4 c12
  have cH12 : Chg H H12 [] := (cH10).trans c12
  have h_x5 := dChip.lt o_x5
  try simp at n_x5
  have one_x5 := dChip_one o_x5
  simp [VM.look, b12_5, b12_12, b12_14, b12_15, get_app' b12_5, get_app' b12_12, get_app' b12_14, get_app' b12_15, cH12.1, Nat.le_add_right_of_le cH12.1, one_x0, one_w1, one_x2, one_g3, one_x4, one_x5, ro0_2, ro0_3, ro0_4, ro0_5, ro0_6, ro0_7, ro0_8, ro0_9, ro0_11, dChip_val, f0, fl8, fl10]
  have ex13 := chipSend_d (frz := H.length) (H := H12) (q2 := a1) (q3 := a2) (q4 := a3) (q5 := a4) o_x5
  try simp only [dChip_val] at ex13
  refine wp_thn ex13 ?_
  rintro _ H13 ⟨_, rfl, v_g6, rfl, o_g6, c13, n_g6, d_g6⟩
  clear ex13
  have l13 := c13.1
  try simp at l13
  have b13_5 := box_chg b12_5 c13 (by simp)
  have b13_12 := box_chg b12_12 c13 (by simp)
  have b13_14 := box_chg b12_14 c13 (by simp)
  have b13_15 := box_chg b12_15 c13 (by simp)
  have o13_x0 := Dt.chg0 o12_x0 c13
  have o13_w1 := Dt.chg0 o12_w1 c13
  have o13_x2 := Dt.chg0 o12_x2 c13
  have o13_g3 := Dt.chg0 o12_g3 c13
  have o13_x4 := Dt.chg0 o12_x4 c13
  have o13_x5 := Dt.chg0 o_x5 c13
  have cH13 : Chg H H13 [] := (cH12).trans c13
  have h_g6 := dChip.lt o_g6
  try simp at n_g6
  have one_g6 := dChip_one o_g6
  simp [VM.look, b13_5, b13_12, b13_14, b13_15, get_app' b13_5, get_app' b13_12, get_app' b13_14, get_app' b13_15, cH13.1, Nat.le_add_right_of_le cH13.1, one_x0, one_w1, one_x2, one_g3, one_x4, one_x5, one_g6, ro0_2, ro0_3, ro0_4, ro0_5, ro0_6, ro0_7, ro0_8, ro0_9, ro0_11, dChip_val, f0, fl8, fl10]
  have eq14 := fun F (L : Heap) => eqChip_d (frz := F) (H := H13 ++ L) (Dt.app o_g6) (Dt.app o13_w1)
  try simp only [dChip_val] at eq14
  simp [eq14, VM.look, b13_5, b13_12, b13_14, b13_15, get_app' b13_5, get_app' b13_12, get_app' b13_14, get_app' b13_15, cH13.1, Nat.le_add_right_of_le cH13.1, one_x0, one_w1, one_x2, one_g3, one_x4, one_x5, one_g6, ro0_2, ro0_3, ro0_4, ro0_5, ro0_6, ro0_7, ro0_8, ro0_9, ro0_11, dChip_val, f0, fl8, fl10]
  have hd15 := fun F (L : Heap) => he10 F (H13 ++ L) (Dt.app o13_g3)
  simp [hd15, VM.look, b13_5, b13_12, b13_14, b13_15, get_app' b13_5, get_app' b13_12, get_app' b13_14, get_app' b13_15, cH13.1, Nat.le_add_right_of_le cH13.1, one_x0, one_w1, one_x2, one_g3, one_x4, one_x5, one_g6, ro0_2, ro0_3, ro0_4, ro0_5, ro0_6, ro0_7, ro0_8, ro0_9, ro0_11, dChip_val, f0, fl8, fl10]
theorem law_FnExactChipSend {a0_0 : Int} {a0_1 : Int} {a0_2 : List (Int)} {u0_2 : Value} {a0_3 : List (Int)} {u0_3 : Value} {a0_4 : List (Int)} {u0_4 : Value} {a0_5 : List (List (Int × Int × Int × Bool × Bool))} {u0_5 : Value} {a0_6 : List (Int)} {u0_6 : Value} {a0_7 : List (Int)} {u0_7 : Value} {a0_8 : List (List (Int × Int × Int × Bool × Bool))} {u0_8 : Value} {a0_9 : List (List (Int × Int × Int × Bool × Bool))} {u0_9 : Value} {a0_10 : Int} {a0_11 : List (Int × Int × Int × Int × Int)} {u0_11 : Value} {a1 : Int} {a2 : Int} {a3 : Int} {a4 : Int} (s0_2 : IsS (Kn.int .i64) H u0_2 a0_2) (s0_3 : IsS (Kn.int .i64) H u0_3 a0_3) (s0_4 : IsS (Kn.int .i64) H u0_4 a0_4) (s0_5 : IsS (Kn.slice (Kn.pair (Kn.int .i64) (Kn.pair (Kn.int .i64) (Kn.pair (Kn.int .i64) (Kn.pair Kn.bool Kn.bool))))) H u0_5 a0_5) (s0_6 : IsS (Kn.int .i64) H u0_6 a0_6) (s0_7 : IsS (Kn.int .i64) H u0_7 a0_7) (s0_8 : IsS (Kn.slice (Kn.pair (Kn.int .i64) (Kn.pair (Kn.int .i64) (Kn.pair (Kn.int .i64) (Kn.pair Kn.bool Kn.bool))))) H u0_8 a0_8) (s0_9 : IsS (Kn.slice (Kn.pair (Kn.int .i64) (Kn.pair (Kn.int .i64) (Kn.pair (Kn.int .i64) (Kn.pair Kn.bool Kn.bool))))) H u0_9 a0_9) (s0_11 : IsS (Kn.pair (Kn.int .i64) (Kn.pair (Kn.int .i64) (Kn.pair (Kn.int .i64) (Kn.pair (Kn.int .i64) (Kn.int .i64))))) H u0_11 a0_11)
    (w0 : (((((Lit.int .i64 a0_0).wf = true) ∧ ((Lit.int .i64 a0_1).wf = true)) ∧ (a0_2.length ≤ maxLen ∧ ∀ x1 ∈ a0_2, (Lit.int .i64 x1).wf = true)) ∧ (((a0_3.length ≤ maxLen ∧ ∀ x2 ∈ a0_3, (Lit.int .i64 x2).wf = true)) ∧ ((a0_4.length ≤ maxLen ∧ ∀ x3 ∈ a0_4, (Lit.int .i64 x3).wf = true))) ∧ (a0_5.length ≤ maxLen ∧ ∀ x4 ∈ a0_5, x4.length ≤ maxLen ∧ ∀ x5 ∈ x4, ((Lit.int .i64 x5.1).wf = true) ∧ ((Lit.int .i64 x5.2.1).wf = true) ∧ ((Lit.int .i64 x5.2.2.1).wf = true) ∧ (True) ∧ (True)) ∧ (a0_6.length ≤ maxLen ∧ ∀ x6 ∈ a0_6, (Lit.int .i64 x6).wf = true) ∧ (a0_7.length ≤ maxLen ∧ ∀ x7 ∈ a0_7, (Lit.int .i64 x7).wf = true) ∧ (a0_8.length ≤ maxLen ∧ ∀ x8 ∈ a0_8, x8.length ≤ maxLen ∧ ∀ x9 ∈ x8, ((Lit.int .i64 x9.1).wf = true) ∧ ((Lit.int .i64 x9.2.1).wf = true) ∧ ((Lit.int .i64 x9.2.2.1).wf = true) ∧ (True) ∧ (True)) ∧ (a0_9.length ≤ maxLen ∧ ∀ x10 ∈ a0_9, x10.length ≤ maxLen ∧ ∀ x11 ∈ x10, ((Lit.int .i64 x11.1).wf = true) ∧ ((Lit.int .i64 x11.2.1).wf = true) ∧ ((Lit.int .i64 x11.2.2.1).wf = true) ∧ (True) ∧ (True)) ∧ ((Lit.int .i64 a0_10).wf = true)) ∧ (a0_11.length ≤ maxLen ∧ ∀ x12 ∈ a0_11, ((Lit.int .i64 x12.1).wf = true) ∧ ((Lit.int .i64 x12.2.1).wf = true) ∧ ((Lit.int .i64 x12.2.2.1).wf = true) ∧ ((Lit.int .i64 x12.2.2.2.1).wf = true) ∧ ((Lit.int .i64 x12.2.2.2.2).wf = true))) (w1 : (Lit.int .i64 a1).wf = true) (w2 : (Lit.int .i64 a2).wf = true) (w3 : (Lit.int .i64 a3).wf = true) (w4 : (Lit.int .i64 a4).wf = true) :
    vcall C frz 3 [.agg #[.int .i64 a0_0, .int .i64 a0_1, u0_2, u0_3, u0_4, u0_5, u0_6, u0_7, u0_8, u0_9, .int .i64 a0_10, u0_11], .int .i64 a1, .int .i64 a2, .int .i64 a3, .int .i64 a4] H = some (.bool true, H) :=
  (law_FnExactChipSend_w s0_2 s0_3 s0_4 s0_5 s0_6 s0_7 s0_8 s0_9 s0_11 w0 w1 w2 w3 w4).exact (by simp) rfl
end Go.Proofs.YtcigpclbhfkgaaaGreat.V
