/- Texts of a proof, joined. -/
import Derived.Test.YtcigpclbhfkgaaaGreatKM0
import Derived.Test.YtcigpclbhfkgaaaGreatKM1
import Derived.Test.YtcigpclbhfkgaaaGreatKFnExactChipRun0
import Derived.Test.YtcigpclbhfkgaaaGreatKFnExactChipRun1
/-! What a network's inputs want: the program. -/
set_option linter.all false
namespace Go.Proofs.YtcigpclbhfkgaaaGreat.V
open Go Go.VM Go.Proofs
set_option maxRecDepth 10000
variable {frz : Nat} {H : Heap}
/-- the flit in front, as the machine reads it -/
theorem front {K : Heap} {u : Value} {xs : List FlitD} (rd : Rd flF K u xs) (h : xs ≠ []) :
    vindexAddr Tryz.prog K 113 u (.int .i64 0) = some (elp u 0) ∧ vfieldAddr Tryz.prog K 157 1 (elp u 0) = some (elp u 1) ∧ vfieldAddr Tryz.prog K 157 2 (elp u 0) = some (elp u 2) ∧
    vfieldAddr Tryz.prog K 157 3 (elp u 0) = some (elp u 3) ∧ vload Tryz.prog K 3 (elp u 1) = some (.int .i64 (headL xs).2.1) ∧ vload Tryz.prog K 3 (elp u 2) = some (.int .i64 (headL xs).2.2.1) ∧
    vload Tryz.prog K 4 (elp u 3) = some (.bool (headL xs).2.2.2.1) ∧ vload Tryz.prog K 157 (elp u 0) = some (.agg (flF.f (headL xs)).toArray) := by
  have h0 : 0 < xs.length := List.length_pos_iff.2 h
  have z0 := rd.idx (P := Tryz.prog) (ty := 113) (e := 157) (by simp) (i := 0) (by omega) (by omega)
  have f1 := rd.field (P := Tryz.prog) (s := 157) (f := 1) (o := 1) (n := 1) (ag := false) (by simp) (j := 0) h0
  have f2 := rd.field (P := Tryz.prog) (s := 157) (f := 2) (o := 2) (n := 1) (ag := false) (by simp) (j := 0) h0
  have f3 := rd.field (P := Tryz.prog) (s := 157) (f := 3) (o := 3) (n := 1) (ag := false) (by simp) (j := 0) h0
  have c1 := rd.cell (P := Tryz.prog) (e := 3) (by simp) h0 (c := 1) (by decide)
  have c2 := rd.cell (P := Tryz.prog) (e := 3) (by simp) h0 (c := 2) (by decide)
  have c3 := rd.cell (P := Tryz.prog) (e := 4) (by simp) h0 (c := 3) (by decide)
  have q2 := rd.load (P := Tryz.prog) (e := 157) (by simp) h0
  have e : headL xs = xs[0] := by cases xs with
    | nil => exact absurd rfl h
    | cons a l => rfl
  rw [e]
  simp only [Int.toNat_natCast, flF_n, Int.toNat_zero, Nat.zero_mul, Nat.zero_add, Nat.add_zero] at z0 f1 f2 f3 c1 c2 c3 q2
  simp only [flF_f] at c1 c2 c3
  simp at c1 c2 c3
  exact ⟨z0, f1, f2, f3, c1, c2, c3, q2⟩
theorem find_range {P : Nat → Bool} {n p : Nat} (hp : p < n) (h : P p = true) (hn : ∀ q, q < p → P q = false) : (List.range n).find? P = some p := by
  rw [List.find?_eq_some_iff_append]
  refine ⟨h, List.range p, (List.range' (p + 1) (n - (p + 1))), ?_, fun q hq => by simpa using hn q (List.mem_range.1 hq)⟩
  rw [List.range_eq_range', List.range_eq_range']
  have e : n = p + (1 + (n - (p + 1))) := by omega
  conv => lhs; rw [e, ← List.range'_append_1]
  rw [Nat.add_comm 1, List.range'_succ]; simp
theorem find_range_none {P : Nat → Bool} {n : Nat} (hn : ∀ q, q < n → P q = false) : (List.range n).find? P = none := by
  rw [List.find?_eq_none]; intro q hq; simp [hn q (List.mem_range.1 hq)]
theorem bufferAt_c (n p c : Int) : vcall C frz 154 [.int .i64 n, .int .i64 p, .int .i64 c] H = some (.int .i64 (if inR 0 n 15 ∧ inR 0 p 4 ∧ inR 0 c 1 then 10 * n + 2 * p + c else -1), H) := by
  rw [vcall_go (fn := Tryz.f154) Tryz.func154 rfl (by kernel_rfl) rfl]
  by_cases h1 : inR 0 n 15
  · by_cases h2 : inR 0 p 4
    · by_cases h3 : inR 0 c 1
      · simp [inside_c, h1, h2, h3]
        unfold inR at h1 h2 h3
        have e1 : ∀ [Inhabited Unit], IntKind.i64.wrap (5 * n) = 5 * n := by intro _; exact w64 (by omega) (by omega)
        have e2 : ∀ [Inhabited Unit], IntKind.i64.wrap (5 * n + p) = 5 * n + p := by intro _; exact w64 (by omega) (by omega)
        have e3 : ∀ [Inhabited Unit], IntKind.i64.wrap ((5 * n + p) * 2) = 10 * n + 2 * p := by intro _; rw [w64 (by omega) (by omega)]; omega
        have e4 : ∀ [Inhabited Unit], IntKind.i64.wrap (10 * n + 2 * p + c) = 10 * n + 2 * p + c := by intro _; exact w64 (by omega) (by omega)
        simp [e1, e2, e3, e4]
      · simp [inside_c, h1, h2, h3]
    · simp [inside_c, h1, h2]
  · simp [inside_c, h1]
theorem bufferAt_n {n p c : Nat} (h1 : n < 16) (h2 : p < 5) (h3 : c < 2) : vcall C frz 154 [.int .i64 (n : Int), .int .i64 (p : Int), .int .i64 (c : Int)] H = some (.int .i64 (outAt n p c : Nat), H) := by
  rw [bufferAt_c, if_pos ⟨⟨by omega, by omega⟩, ⟨by omega, by omega⟩, ⟨by omega, by omega⟩⟩]
  congr 3
theorem live_c (w h : Int) (v : Value) (b : List Int) (c : Int) (hI : IsI H v b) (hl : b.length ≤ 1073741824) :
   vcall C frz 189 [.agg #[.int .i64 w, .int .i64 h, v], .int .i64 c] H = some (.bool (decide (has w h b c)), H) := by
  rw [vcall_go (fn := Tryz.f189) Tryz.func189 rfl (by kernel_rfl) rfl]
  simp [hI.one', hI.cells, leads_c]
  refine gd_dec _ _ ?_ ?_ <;> intro h2 <;> simp [h2, has, contains_c _ _ _ (hI.app _) hl, -Bool.decide_and]
theorem behind_c {v : NetV} {x : NetD} {id a p c : Nat} {e : TypeId} {tail : List Value} (hr : H[id]? = some ⟨netCells v x ++ tail, 0, e⟩) (o : dNet.Ow H v x) (ha : (a : Int) < cnt x.1.1 x.1.2.1) (hp : p < 5) (hc : c < 2) :
   vcall C frz 153 [.pointer (some ⟨id, 0, some 0⟩), .int .i64 a, .int .i64 p, .int .i64 c] H = some (.int .i64 (if p ≠ 4 ∧ has x.1.1 x.1.2.1 x.1.2.2 (4 * (a : Int) + p) then (tgt x a p c : Int) else -1), H) := by
  have ones := dNet_one o
  have hl := o.1.2
  have hI := Rd.isI o.1.1.rd
  have cr := cnt_range x.1.1 x.1.2.1
  rw [vcall_go (fn := Tryz.f153) Tryz.func153 rfl (by kernel_rfl) rfl]
  unfold netCells at hr
  simp only [List.cons_append, List.nil_append] at hr
  have e1 : ∀ [Inhabited Unit], IntKind.i64.wrap (4 * (a : Int)) = 4 * (a : Int) := by intro _; exact w64 (by omega) (by omega)
  have e2 : ∀ [Inhabited Unit], IntKind.i64.wrap (4 * (a : Int) + (p : Int)) = 4 * (a : Int) + p := by intro _; exact w64 (by omega) (by omega)
  have lv := fun F => live_c (frz := F) (H := H) x.1.1 x.1.2.1 v.1 x.1.2.2 (4 * (a : Int) + p) hI hl
  by_cases h4 : p = 4
  · subst h4; simp
  have h4' : ¬ (p : Int) = 4 := by omega
  by_cases hh : has x.1.1 x.1.2.1 x.1.2.2 (4 * (a : Int) + p)
  · obtain ⟨t1, t2⟩ := step_next (w := x.1.1) (h := x.1.2.1) (a := a) (p := p) (b := x.1.2.2) ⟨by omega, by omega⟩ hh
    obtain ⟨t2, t3⟩ := t2
    obtain ⟨u1, u2, u3⟩ := tgt_val (c := c) hh (by omega) hc
    obtain ⟨s1, s2, s3⟩ := tgt_ok (c := c) hh (by omega)
    have en := fun F => endOf_c (frz := F) (H := H) x.1.1 x.1.2.1 v.1 x.1.2.2 (4 * (a : Int) + p) hI hh.1
    rw [t1, t2] at en
    have ex : (10 * next x.1.1 x.1.2.1 a p + 2 * opp p + c) = (tgt x a p c : Int) := u1.symm
    have hin : inR 0 (next x.1.1 x.1.2.1 a p) 15 ∧ inR 0 (opp p) 4 ∧ inR 0 (c : Int) 1 := ⟨⟨s1.1, by have := s1.2; omega⟩, ⟨s2, by omega⟩, ⟨by omega, by omega⟩⟩
    simp [VM.look, VM.vnil, hr, ones, e1, e2, lv, hh, h4, h4', en, opposite_c, bufferAt_c, hin, ex]
  · simp [VM.look, VM.vnil, hr, ones, e1, e2, lv, hh, h4, h4']
theorem hasRoom_c {v : NetV} {x : NetD} {id a p c : Nat} {e : TypeId} {tail : List Value} (hr : H[id]? = some ⟨netCells v x ++ tail, 0, e⟩) (o : dNet.Ow H v x) (hx : runOk x) (ha : (a : Int) < cnt x.1.1 x.1.2.1) (hp : p < 5) (hc : c < 2) :
   vcall C frz 259 [.pointer (some ⟨id, 0, some 0⟩), .int .i64 a, .int .i64 p, .int .i64 c] H = some (.bool (decide (roomN x a p c)), H) := by
  have ones := dNet_one o
  have bh := fun F => behind_c (frz := F) hr o ha hp hc
  rw [vcall_go (fn := Tryz.f259) Tryz.func259 rfl (by kernel_rfl) rfl]
  unfold netCells at hr
  simp only [List.cons_append, List.nil_append] at hr
  by_cases h4 : p = 4
  · subst h4; simp [roomN]
  have h4' : ¬ (p : Int) = 4 := by omega
  by_cases hh : has x.1.1 x.1.2.1 x.1.2.2 (4 * (a : Int) + p)
  · obtain ⟨u1, u2, u3⟩ := tgt_val (c := c) hh (by omega) hc
    have hl : tgt x a p c < x.2.2.1.length := by have := hx.2.1.1; omega
    obtain ⟨u, a1, a2, a3, a4⟩ := RdL_at o.2.2.1.1.rd (ty := 44) (e := 113) (by simp) (by simp) hl
    have la := a4.len (P := Tryz.prog) (ty := 113) (by simp)
    have hgd : x.2.2.1[tgt x a p c]?.getD [] = x.2.2.1[tgt x a p c] := by simp [hl]
    simp [VM.look, VM.vnil, hr, ones, h4, h4', bh, hh, a2, a3, la, roomN, hgd]
    try omega
  · simp [VM.look, VM.vnil, hr, ones, h4, h4', bh, hh, roomN]
theorem tableForK_w (u1 u2 : Value) (A B : List Int) (c : Int) (h1 : IsI H u1 A) (h2 : IsI H u2 B) :
   wp (vcall C frz 262 [.agg #[u1, u2], .int .i64 c] H) (fun r H' => r = .agg #[if c = 1 then u2 else u1] ∧ ∃ L, H' = H ++ L) := by
  rw [vcall_go (fn := Tryz.f262) Tryz.func262 rfl (by kernel_rfl) rfl]
  have one := And.intro (And.intro h1.one' h1.cells) (And.intro h2.one' h2.cells)
  simp [one]
  refine wp_dec ?_ ?_ <;> intro g <;> simp [g, one]
theorem wanted_c {v : NetV} {x : NetD} {id a i : Nat} {e : TypeId} {tail : List Value} (hr : H[id]? = some ⟨netCells v x ++ tail, 0, e⟩) (o : dNet.Ow H v x) (hx : runOk x) (ha : (a : Int) < cnt x.1.1 x.1.2.1) (hi : i < 10) :
   vcall C frz 258 [.pointer (some ⟨id, 0, some 0⟩), .int .i64 a, .int .i64 i] H = some (.int .i64 (wantedN x a i), H) := by
  refine wp.exact (by simp) ?_ rfl
  have ones := dNet_one o
  have cr := cnt_range x.1.1 x.1.2.1
  rw [vcall_go (fn := Tryz.f258) Tryz.func258 rfl (by kernel_rfl) rfl]
  unfold netCells at hr
  simp only [List.cons_append, List.nil_append] at hr
  obtain ⟨d, hd⟩ : ∃ d, d = 10 * a + i := ⟨_, rfl⟩
  obtain ⟨c, hc⟩ : ∃ c, c = i % 2 := ⟨_, rfl⟩
  obtain ⟨q, hq⟩ : ∃ q, q = i / 2 := ⟨_, rfl⟩
  generalize hY : wantedN x a i = Y
  unfold wantedN at hY
  rw [← hd, ← hc, ← hq] at hY
  have e1 : ∀ [Inhabited Unit], IntKind.i64.wrap (10 * (a : Int)) = 10 * (a : Int) := by intro _; exact w64 (by omega) (by omega)
  have e2 : ∀ [Inhabited Unit], IntKind.i64.wrap (10 * (a : Int) + (i : Int)) = (d : Int) := by intro _; rw [w64 (by omega) (by omega)]; omega
  have e3 : ∀ [Inhabited Unit], (i : Int).tmod 2 = (c : Int) := by intro _; rw [tmod2]; omega
  have e4 : ∀ [Inhabited Unit], IntKind.i64.wrap ((i : Int) / 2) = (q : Int) := by intro _; rw [w64 (by omega) (by omega)]; omega
  have hl : d < x.2.2.1.length := by have := hx.2.1.1; omega
  obtain ⟨u, a1, a2, a3, a4⟩ := RdL_at o.2.2.1.1.rd (ty := 44) (e := 113) (by simp) (by simp) hl
  have la := a4.len (P := Tryz.prog) (ty := 113) (by simp)
  have hgd : x.2.2.1.getD d [] = x.2.2.1[d] := by simp [List.getD_eq_getElem?_getD, hl]
  have hho : headOf x d = headL x.2.2.1[d] := by unfold headOf; rw [hgd]
  have qa : VM.one u = true ∧ u.cells = #[u] := ⟨a4.one', a4.cells⟩
  simp [VM.look, VM.vnil, hr, ones, e1, e2, a2, a3, la]
  rw [hgd, hho] at hY
  by_cases g0 : x.2.2.1[d] = []
  · rw [if_pos g0] at hY
    simp [g0, hY]
  rw [if_neg g0] at hY
  have g0' : ¬ (x.2.2.1[d].length : Int) = 0 := by
    have := List.length_pos_iff.2 g0; omega
  have g0n : ¬ x.2.2.1[d].length = 0 := by omega
  have fr := fun L => front (a4.app (L := L)) g0
  have zL := fun L => (fr L).1
  have fL := fun L => (fr L).2.1
  have cL := fun L => (fr L).2.2.2.2.1
  clear fr
  obtain ⟨z0, f1, f2, f3, c1, c2, c3, _⟩ := front a4 g0
  obtain ⟨k1, k2⟩ := hx.2.2.1 d _ (by rw [hgd]; exact headL_mem g0)
  generalize headL x.2.2.1[d] = f at *
  simp [-vfieldAddr, vfa_ptr, g0', g0n, g0, z0, f3, c3]
  by_cases g1 : f.2.2.2.1 = true
  · rw [if_pos g1] at hY
    simp only [g1]
    simp
    rw [go_draw (h := by kernel_rfl)]
    have hcl : f.2.2.1 = (c : Int) := by rw [k1]; omega
    have hi1 : IsI H v.2.1.1 x.2.1.1 := Rd.isI o.2.1.1.1.rd
    have hi2 : IsI H v.2.1.2 x.2.1.2 := Rd.isI o.2.1.2.1.rd
    simp [-vfieldAddr, vfa_ptr, VM.look, VM.vnil, hr, ones, z0, f1, f2, c1, c2, hcl]
    refine wp_thn (tableForK_w v.2.1.1 v.2.1.2 x.2.1.1 x.2.1.2 (c : Int) hi1 hi2) ?_
    rintro _ K ⟨rfl, L, rfl⟩
    have hT : IsI H (if (c : Int) = 1 then v.2.1.2 else v.2.1.1) (if c = 1 then x.2.1.2 else x.2.1.1) := by
      by_cases h1 : c = 1
      · simp [h1, hi2]
      · rw [if_neg (by omega), if_neg h1]; exact hi1
    have hok : tableOk x.1.1 x.1.2.1 x.1.2.2 (if c = 1 then x.2.1.2 else x.2.1.1) := by split; exact hx.1.2; exact hx.1.1
    have hin := port_ok hok (a := a) (c := f.2.1) ⟨by omega, ha⟩ k2.1
    generalize (if (c : Int) = 1 then v.2.1.2 else v.2.1.1) = uT at *
    generalize (if c = 1 then x.2.1.2 else x.2.1.1) = T at *
    have pt := fun F => portAt_c (frz := F) (H := H ++ L) x.1.1 x.1.2.1 v.1 uT x.1.2.2 T a f.2.1 (Rd.isI o.1.1.rd.app) (hT.app _) o.1.2 hok.1 ⟨by omega, ha⟩ k2.1
    rw [hY, if_pos (hY ▸ hin)] at pt
    simp [-vfieldAddr, vfa_ptr, ones, hT.one', hT.cells, pt, zL, fL, cL]
  · rw [if_neg g1] at hY
    simp only [g1]
    simp
    refine wp_inv (fun n t H' => ∃ p : Nat, n = 5 - p ∧ p ≤ 5 ∧ t 0 = .pointer (some ⟨id, 0, some 0⟩) ∧ t 1 = .int .i64 a ∧ t 2 = .int .i64 i ∧ t 8 = .int .i64 p ∧ H' = H ∧ ∀ r, r < p → decide (x.2.2.2.1.getD (outAt a r c) 0 = (q : Int)) = false) ?_ (n := 5) ⟨0, by simp, by omega, by simp, by simp, by simp, by simp, rfl, by omega⟩
    rintro n t H' ⟨p, rfl, hp, t0, t1, t2, t8, rfl, hk⟩ ih
    simp [t0, t1, t2, t8]
    refine wp_dec ?_ ?_ <;> intro g
    · have hp' : p < 5 := by omega
      have bA := fun F => bufferAt_n (frz := F) (H := H') (n := a) (p := p) (c := c) (by omega) hp' (by omega)
      have hz : outAt a p c < x.2.2.2.1.length := by have := hx.2.1.2.1; unfold outAt; omega
      have hgo : x.2.2.2.1.getD (outAt a p c) 0 = x.2.2.2.1[outAt a p c] := by simp [List.getD_eq_getElem?_getD, hz]
      have hk2 := hk
      generalize hzz : outAt a p c = z at *
      have rd := Rd.isI o.2.2.2.1.1.rd
      have q1 := rd.idx (P := Tryz.prog) (ty := 24) (e := 3) (by simp) (i := (z : Int)) (by omega) (by omega)
      have q2 := rd.load (P := Tryz.prog) (e := 3) (by simp) hz
      simp only [Int.toNat_natCast] at q1 q2
      rw [hgo] at q2
      simp [t0, t1, t2, t8]
      rw [go_draw (h := by kernel_rfl)]
      simp [VM.look, VM.vnil, hr, ones, t0, t1, t2, t8, e3, e4, bA, q1, q2]
      refine wp_dec ?_ ?_ <;> intro g2
      · simp [t0, t1, t2, t8]
        rw [find_range hp' (by rw [hzz, hgo]; exact decide_eq_true g2) hk] at hY
        exact hY
      · simp [t0, t1, t2, t8]
        refine ih (5 - (p + 1)) _ _ ⟨p + 1, rfl, by omega, by simp [t0], by simp [t1], by simp [t2], ?_, rfl, fun r hr' => ?_⟩ (by omega)
        · simp; rw [w64 (by omega) (by omega)]
        · by_cases hrp : r < p
          · exact hk r hrp
          · have : r = p := by omega
            subst this
            rw [hzz, hgo]; exact decide_eq_false g2
    · have : p = 5 := by omega
      subst this
      rw [find_range_none hk] at hY
      simp [t0, t1, t2, t8, hY]
end Go.Proofs.YtcigpclbhfkgaaaGreat.V
/-! Requests, and the first from a turn. -/
set_option linter.all false
namespace Go.Proofs.YtcigpclbhfkgaaaGreat.V
open Go Go.VM Go.Proofs
set_option maxRecDepth 10000
variable {frz : Nat} {H : Heap}
theorem isRequest_c {v : NetV} {x : NetD} {id a i p : Nat} {e : TypeId} {tail : List Value} (hr : H[id]? = some ⟨netCells v x ++ tail, 0, e⟩) (o : dNet.Ow H v x) (hx : runOk x) (ha : (a : Int) < cnt x.1.1 x.1.2.1) (hi : i < 10) (hp : p < 5) :
   vcall C frz 255 [.pointer (some ⟨id, 0, some 0⟩), .int .i64 a, .int .i64 i, .int .i64 p] H = some (.bool (decide (reqN x a i p)), H) := by
  refine wp.exact (by simp) ?_ rfl
  have ones := dNet_one o
  have cr := cnt_range x.1.1 x.1.2.1
  obtain ⟨d, hd⟩ : ∃ d, d = 10 * a + i := ⟨_, rfl⟩
  obtain ⟨c, hc⟩ : ∃ c, c = i % 2 := ⟨_, rfl⟩
  obtain ⟨q, hq⟩ : ∃ q, q = i / 2 := ⟨_, rfl⟩
  have wn := fun F => wanted_c (frz := F) hr o hx ha hi
  have rm := fun F => hasRoom_c (frz := F) (c := c) hr o hx ha hp (by omega)
  have bA := fun F => bufferAt_n (frz := F) (H := H) (n := a) (p := p) (c := c) (by omega) hp (by omega)
  rw [vcall_go (fn := Tryz.f255) Tryz.func255 rfl (by kernel_rfl) rfl]
  unfold netCells at hr
  simp only [List.cons_append, List.nil_append] at hr
  generalize hY : decide (reqN x a i p) = Y
  have no : ¬ reqN x a i p → Y = false := fun hh => by rw [← hY]; exact decide_eq_false hh
  have e0 : ¬ (p : Int) < 0 := by omega
  have e1 : ∀ [Inhabited Unit], IntKind.i64.wrap (10 * (a : Int)) = 10 * (a : Int) := by intro _; exact w64 (by omega) (by omega)
  have e2 : ∀ [Inhabited Unit], IntKind.i64.wrap (10 * (a : Int) + (i : Int)) = (d : Int) := by intro _; rw [w64 (by omega) (by omega)]; omega
  have e3 : ∀ [Inhabited Unit], (i : Int).tmod 2 = (c : Int) := by intro _; rw [tmod2]; omega
  have e4 : ∀ [Inhabited Unit], IntKind.i64.wrap ((i : Int) / 2) = (q : Int) := by intro _; rw [w64 (by omega) (by omega)]; omega
  by_cases g1 : wantedN x a i = (p : Int)
  rotate_left
  · simp [e0, wn, g1]; exact no (fun k => g1 k.1)
  by_cases g2 : roomN x a p c
  rotate_left
  · simp [e0, wn, g1, e3, rm, g2]; exact no (fun k => g2 (hc ▸ k.2.1))
  have hl : d < x.2.2.1.length := by have := hx.2.1.1; omega
  obtain ⟨u, a1, a2, a3, a4⟩ := RdL_at o.2.2.1.1.rd (ty := 44) (e := 113) (by simp) (by simp) hl
  have hgd : x.2.2.1.getD d [] = x.2.2.1[d] := by simp [List.getD_eq_getElem?_getD, hl]
  have hho : headOf x d = headL x.2.2.1[d] := by unfold headOf; rw [hgd]
  have g0 : x.2.2.1[d] ≠ [] := fun hh => by
    unfold wantedN at g1
    rw [← hd, hgd, if_pos hh] at g1
    omega
  obtain ⟨z0, f1, f2, f3, c1, c2, c3, _⟩ := front a4 g0
  have hz : outAt a p c < x.2.2.2.1.length := by have := hx.2.1.2.1; unfold outAt; omega
  have hgo : x.2.2.2.1.getD (outAt a p c) 0 = x.2.2.2.1[outAt a p c] := by simp [List.getD_eq_getElem?_getD, hz]
  have key : reqN x a i p ↔ x.2.2.2.1[outAt a p c] = if (headL x.2.2.1[d]).2.2.2.1 then -1 else (q : Int) := by
    unfold reqN; rw [← hd, ← hc, ← hq, hgo, hho]
    exact ⟨fun k => k.2.2, fun k => ⟨g1, g2, k⟩⟩
  generalize hzz : outAt a p c = z at *
  generalize headL x.2.2.1[d] = f at *
  have rd := Rd.isI o.2.2.2.1.1.rd
  have q1 := rd.idx (P := Tryz.prog) (ty := 24) (e := 3) (by simp) (i := (z : Int)) (by omega) (by omega)
  have q2 := rd.load (P := Tryz.prog) (e := 3) (by simp) hz
  simp only [Int.toNat_natCast] at q1 q2
  rw [hgo] at q2
  have qa : VM.one u = true ∧ u.cells = #[u] := ⟨a4.one', a4.cells⟩
  simp [e0, wn, g1, e3, rm, g2]
  rw [go_draw (h := by kernel_rfl)]
  simp [VM.look, VM.vnil, hr, ones, e3, bA, q1, q2]
  simp [-vfieldAddr, vfa_ptr, VM.look, VM.vnil, hr, ones, e1, e2, a2, a3, z0, f3, c3]
  by_cases g3 : f.2.2.2.1 = true
  · simp only [g3, if_true] at key ⊢
    simp [e4]
    rw [← hY]; simp only [key]
  · simp only [g3, if_false] at key ⊢
    simp [e4]
    rw [← hY]; simp only [key]
    try simp
theorem requests_w {v : NetV} {x : NetD} {id a p : Nat} {e : TypeId} {tail : List Value} (hr : H[id]? = some ⟨netCells v x ++ tail, 0, e⟩) (o : dNet.Ow H v x) (hx : runOk x) (ha : (a : Int) < cnt x.1.1 x.1.2.1) (hp : p < 5) :
   wp (vcall C frz 231 [.pointer (some ⟨id, 0, some 0⟩), .int .i64 a, .int .i64 p] H) (fun r H' => Ow Fl.int 3 H' r ((reqsN x a p).map Int.ofNat) ∧ (∀ i ∈ ids r, H.length ≤ i) ∧ Chg H H' []) := by
  rw [vcall_go (fn := Tryz.f231) Tryz.func231 rfl (by kernel_rfl) rfl]
  simp
  refine wp_inv (fun n t H' => ∃ (i : Nat) (r : Value), n = 10 - i ∧ i ≤ 10 ∧ t 0 = .pointer (some ⟨id, 0, some 0⟩) ∧ t 1 = .int .i64 a ∧ t 2 = .int .i64 p ∧ t 7 = r ∧ t 10 = .int .i64 i ∧ Chg H H' [] ∧ Ow Fl.int 3 H' r (((List.range i).filter fun i => reqN x a i p).map Int.ofNat) ∧ (∀ j ∈ ids r, H.length ≤ j)) ?_ (n := 10)
    ⟨0, .slice (some ⟨H.length, 0, some 0⟩) 0 0, rfl, by omega, by simp, by simp, by simp, by simp, by simp, Chg.app _, Ow.new0 (D := Fl.int) (xs := []) rfl rfl rfl rfl, by simp⟩
  rintro n t H' ⟨i, r, rfl, hi, t0, t1, t2, t7, t10, ch, oo, nr⟩ ih
  simp [t0, t1, t2, t7, t10]
  refine wp_dec ?_ ?_ <;> intro g
  · have hi' : i < 10 := by omega
    have rq := fun F => isRequest_c (frz := F) (i := i) (box_chg hr ch (by simp)) (Dt.chg (T := dNet) o ch (by simp)) hx ha hi' hp
    have hfl := List.length_filter_le (fun i => decide (reqN x a i p)) (List.range i)
    rw [List.length_range] at hfl
    simp [t0, t1, t2, t7, t10, rq]
    refine wp_dec ?_ ?_ <;> intro g1
    · obtain ⟨r', H2, hap, o2, c2, n2⟩ := oo.push (P := Tryz.prog) (frz := H.length) (ty := 24) (a := (i : Int)) (by simp) rfl (by simp; omega) nr
      simp only [Fl.int_f] at hap
      have l0 := ch.1
      simp [t0, t1, t2, t7, t10, hap]
      refine ih (10 - (i + 1)) _ _ ⟨i + 1, r', rfl, by omega, by simp [t0], by simp [t1], by simp [t2], by simp, ?_, ch.trans' c2 (fun j hj => .inr (nr j hj)), ?_, fun j hj => ?_⟩ (by omega)
      · simp [t10]; rw [w64 (by omega) (by omega)]
      · rw [List.range_succ, List.filter_append, List.map_append]; simpa [g1] using o2
      · rcases n2 j hj with h1 | h1
        · exact nr j h1
        · have := ch.1; omega
    · simp [t0, t1, t2, t7, t10]
      refine ih (10 - (i + 1)) _ _ ⟨i + 1, r, rfl, by omega, by simp [t0], by simp [t1], by simp [t2], by simp [t7], ?_, ch, ?_, nr⟩ (by omega)
      · simp [t10]; rw [w64 (by omega) (by omega)]
      · rw [List.range_succ, List.filter_append, List.map_append]; simpa [g1] using oo
  · have : i = 10 := by omega
    subst this
    simp [t0, t1, t2, t7, t10]
    exact ⟨oo, nr, ch⟩
theorem turn_val {y t : Int} (h1 : inR 0 y 9) (h2 : inR 0 t 9) : ∀ [Inhabited Unit], (IntKind.i64.wrap (IntKind.i64.wrap (y - t) + 10)).tmod 10 = (y - t + 10) % 10 := by
  intro _
  unfold inR at h1 h2
  rw [w64 (x := y - t) (by omega) (by omega), w64 (by omega) (by omega), Int.tmod_eq_emod_of_nonneg (by omega)]
/-- the first from a turn, seen up to a place -/
def firstTo (t : Int) (l : List Int) (i : Nat) : Int := firstF t (l.take i)
theorem firstTo_succ (t : Int) {l : List Int} {i : Nat} (h : i < l.length) : firstTo t l (i + 1) = if firstTo t l i < 0 ∨ (l[i] - t + 10) % 10 < (firstTo t l i - t + 10) % 10 then l[i] else firstTo t l i := by
  unfold firstTo firstF
  rw [List.take_succ_eq_append_getElem h, List.foldl_append]; rfl
theorem firstTo_in {t : Int} {l : List Int} {i : Nat} (h : ∀ y ∈ l, inR 0 y 9) : firstTo t l i = -1 ∨ inR 0 (firstTo t l i) 9 := by
  rcases firstF_in t (l.take i) (-1) with g | g
  · exact .inl g
  · exact .inr (h _ (List.mem_of_mem_take g))
theorem firstFrom_c (v : Value) (l : List Int) (k : Int) (hI : IsI H v l) (hl : l.length ≤ 1073741824) (h1 : ∀ y ∈ l, inR 0 y 9) (h2 : inR 0 k 9) :
   vcall C frz 233 [v, .int .i64 k] H = some (.int .i64 (firstF k l), H) := by
  refine wp.exact (by simp) ?_ rfl
  rw [vcall_go (fn := Tryz.f233) Tryz.func233 rfl (by kernel_rfl) rfl]
  have ai : ∀ F, vcall C F 145 [v, .int .i64 0, .int .i64 9] H = some (.bool true, H) := fun F => by rw [areInside_c v l 0 9 hI hl, decide_eq_true h1]
  simp [ai, inside_c, h1, h2, hI.len]
  refine wp_inv (fun n t H' => ∃ i : Nat, n = l.length - i ∧ i ≤ l.length ∧ t 1 = .int .i64 k ∧ t 5 = .int .i64 (firstTo k l i) ∧ t 16 = v ∧ t 17 = .int .i64 l.length ∧ t 18 = .int .i64 i ∧ H' = H) ?_ (n := l.length)
    ⟨0, rfl, by omega, by simp, by simp [firstTo, firstF], by simp, by simp, by simp, rfl⟩
  rintro n t H' ⟨i, rfl, hi, t1, t5, t16, t17, t18, rfl⟩ ih
  simp [t1, t5, t16, t17, t18]
  refine wp_dec ?_ ?_ <;> intro g
  · have hi' : i < l.length := by omega
    have hs := firstTo_succ k hi'
    have hy := h1 _ (List.getElem_mem hi')
    have tv := turn_val hy h2
    simp [t1, t5, t16, t17, t18, hI.idx, hI.load, getD_get, hi']
    rcases firstTo_in (t := k) (i := i) h1 with g1 | g1
    · rw [g1] at hs
      simp [g1] at hs
      simp [t1, t5, t16, t17, t18, g1]
      refine ih (l.length - (i + 1)) _ _ ⟨i + 1, rfl, by omega, by simp [t1], by simp [hs], by simp [t16], by simp [t17], ?_, rfl⟩ (by omega)
      simp [t18]; rw [w64 (by omega) (by omega)]
    · have tb := turn_val g1 h2
      have g2 : ¬ firstTo k l i < 0 := by unfold inR at g1; omega
      simp [t1, t5, t16, t17, t18, g2, tv, tb]
      refine wp_dec ?_ ?_ <;> intro g3
      · rw [if_pos (.inr (by omega))] at hs
        simp [t1, t5, t16, t17, t18]
        refine ih (l.length - (i + 1)) _ _ ⟨i + 1, rfl, by omega, by simp [t1], by simp [hs], by simp [t16], by simp [t17], ?_, rfl⟩ (by omega)
        simp [t18]; rw [w64 (by omega) (by omega)]
      · rw [if_neg (by omega)] at hs
        simp [t1, t5, t16, t17, t18]
        refine ih (l.length - (i + 1)) _ _ ⟨i + 1, rfl, by omega, by simp [t1], by simp [hs, t5], by simp [t16], by simp [t17], ?_, rfl⟩ (by omega)
        simp [t18]; rw [w64 (by omega) (by omega)]
  · have : i = l.length := by omega
    subst this
    simp [t1, t5, t16, t17, t18, firstTo]
theorem sFirstFrom_c (v : Value) (l : List Int) (k : Int) (hI : IsI H v l) (hl : l.length ≤ 1073741824) (h1 : ∀ y ∈ l, inR 0 y 9) (h2 : inR 0 k 9) :
   vcall C frz 220 [v, .int .i64 k] H = some (.int .i64 (firstF k l), H) := by
  refine wp.exact (by simp) ?_ rfl
  rw [vcall_go (fn := Tryz.f220) Tryz.func220 rfl (by kernel_rfl) rfl]
  simp
  refine wp_inv (fun n t H' => ∃ i : Nat, n = l.length - i ∧ i ≤ l.length ∧ t 0 = v ∧ t 1 = .int .i64 k ∧ t 5 = .int .i64 (firstTo k l i) ∧ t 6 = .int .i64 i ∧ H' = H) ?_ (n := l.length)
    ⟨0, rfl, by omega, by simp, by simp, by simp [firstTo, firstF], by simp, rfl⟩
  rintro n t H' ⟨i, rfl, hi, t0, t1, t5, t6, rfl⟩ ih
  simp [t0, t1, t5, t6, hI.len]
  refine wp_dec ?_ ?_ <;> intro g
  · have hi' : i < l.length := by omega
    have hs := firstTo_succ k hi'
    have hy := h1 _ (List.getElem_mem hi')
    have tv := turn_val hy h2
    simp [t0, t1, t5, t6, hI.idx, hI.load, getD_get, hi', l01In_c, hy, h2]
    rcases firstTo_in (t := k) (i := i) h1 with g1 | g1
    · rw [g1] at hs
      simp [g1] at hs
      simp [t0, t1, t5, t6, g1, hI.idx, hI.load, getD_get, hi']
      refine ih (l.length - (i + 1)) _ _ ⟨i + 1, rfl, by omega, by simp [t0], by simp [t1], by simp [hs], ?_, rfl⟩ (by omega)
      simp [t6]; rw [w64 (by omega) (by omega)]
    · have tb := turn_val g1 h2
      have g2 : ¬ firstTo k l i < 0 := by unfold inR at g1; omega
      simp [t0, t1, t5, t6, g2, tv, tb, hI.idx, hI.load, getD_get, hi']
      refine wp_dec ?_ ?_ <;> intro g3
      · rw [if_pos (.inr (by omega))] at hs
        simp [t0, t1, t5, t6, hI.idx, hI.load, getD_get, hi']
        refine ih (l.length - (i + 1)) _ _ ⟨i + 1, rfl, by omega, by simp [t0], by simp [t1], by simp [hs], ?_, rfl⟩ (by omega)
        simp [t6]; rw [w64 (by omega) (by omega)]
      · rw [if_neg (by omega)] at hs
        simp [t0, t1, t5, t6]
        refine ih (l.length - (i + 1)) _ _ ⟨i + 1, rfl, by omega, by simp [t0], by simp [t1], by simp [hs, t5], ?_, rfl⟩ (by omega)
        simp [t6]; rw [w64 (by omega) (by omega)]
  · have : i = l.length := by omega
    subst this
    simp [t0, t1, t5, t6, firstTo]
end Go.Proofs.YtcigpclbhfkgaaaGreat.V
/-! Sorting: lists of numbers whose elements change places. -/
set_option linter.all false
namespace Go.Proofs.YtcigpclbhfkgaaaGreat.V
open Go Go.VM Go.Proofs
def G (xs : List Int) (i : Nat) : Int := xs.getD i 0
theorem G_get {xs : List Int} {i : Nat} (h : i < xs.length) : G xs i = xs[i] := by simp [G, List.getD_eq_getElem?_getD, h]
def swp (xs : List Int) (i j : Nat) : List Int := (xs.set i (G xs j)).set j (G xs i)
@[simp] theorem swp_len (xs : List Int) (i j : Nat) : (swp xs i j).length = xs.length := by simp [swp]
theorem G_swp {xs : List Int} {i j : Nat} (hi : i < xs.length) (hj : j < xs.length) (k : Nat) : G (swp xs i j) k = if k = j then G xs i else if k = i then G xs j else G xs k := by
  unfold swp
  by_cases hk : k < xs.length
  · rw [G_get (by simpa using hk), List.getElem_set, List.getElem_set]
    by_cases h1 : k = j
    · rw [if_pos h1.symm, if_pos h1]
    · rw [if_neg (Ne.symm h1), if_neg h1]
      by_cases h2 : k = i
      · rw [if_pos h2.symm, if_pos h2]
      · rw [if_neg (Ne.symm h2), if_neg h2, G_get hk]
  · rw [if_neg (by omega), if_neg (by omega)]
    simp [G, List.getD_eq_getElem?_getD, hk]
theorem swp_perm {xs : List Int} {i j : Nat} (hi : i < xs.length) (hj : j < xs.length) : (swp xs i j).Perm xs := by
  unfold swp
  rw [G_get hi, G_get hj]
  exact List.set_set_perm hi hj
/-- elements of [a, b) have changed places -/
inductive Sw (a b : Nat) (xs : List Int) : List Int → Prop
  | refl : Sw a b xs xs
  | step {ys : List Int} (i j : Nat) (h : Sw a b xs ys) (hi : a ≤ i ∧ i < b) (hj : a ≤ j ∧ j < b) : Sw a b xs (swp ys i j)
variable {a b c d : Nat} {xs ys zs : List Int}
theorem Sw.len (h : Sw a b xs ys) : ys.length = xs.length := by
  induction h with
  | refl => rfl
  | step i j _ _ _ ih => rw [swp_len, ih]
theorem Sw.trans (h : Sw a b xs ys) (h' : Sw a b ys zs) : Sw a b xs zs := by
  induction h' with
  | refl => exact h
  | step i j _ hi hj ih => exact .step i j ih hi hj
theorem Sw.mono (h : Sw a b xs ys) (ha : c ≤ a) (hb : b ≤ d) : Sw c d xs ys := by
  induction h with
  | refl => exact .refl
  | step i j _ hi hj ih => exact .step i j ih (by omega) (by omega)
theorem Sw.perm (h : Sw a b xs ys) (hb : b ≤ xs.length) : ys.Perm xs := by
  induction h with
  | refl => exact List.Perm.refl _
  | step i j g hi hj ih => exact (swp_perm (by rw [g.len]; omega) (by rw [g.len]; omega)).trans ih
theorem Sw.out (h : Sw a b xs ys) (hb : b ≤ xs.length) {k : Nat} (hk : k < a ∨ b ≤ k) : G ys k = G xs k := by
  induction h with
  | refl => rfl
  | step i j g hi hj ih => rw [G_swp (by rw [g.len]; omega) (by rw [g.len]; omega), if_neg (by omega), if_neg (by omega), ih]
theorem Sw.all (h : Sw a b xs ys) (hb : b ≤ xs.length) {p : Int → Prop} (hp : ∀ k, a ≤ k → k < b → p (G xs k)) : ∀ k, a ≤ k → k < b → p (G ys k) := by
  induction h with
  | refl => exact hp
  | step i j g hi hj ih =>
    intro k h1 h2
    rw [G_swp (by rw [g.len]; omega) (by rw [g.len]; omega)]
    split
    · exact ih i hi.1 hi.2
    · split
      · exact ih j hj.1 hj.2
      · exact ih k h1 h2
/-- a larger window that holds the changed one -/
theorem Sw.all' (h : Sw a b xs ys) (hb : b ≤ xs.length) {p : Int → Prop} (hc : c ≤ a) (hd : b ≤ d) (hp : ∀ k, c ≤ k → k < d → p (G xs k)) : ∀ k, c ≤ k → k < d → p (G ys k) := by
  intro k h1 h2
  by_cases hk : a ≤ k ∧ k < b
  · exact h.all hb (fun q g1 g2 => hp q (by omega) (by omega)) k hk.1 hk.2
  · rw [h.out hb (by omega)]; exact hp k h1 h2
/-- sorted in [a, b) -/
def Srt (ys : List Int) (a b : Nat) : Prop := ∀ p q, a ≤ p → p < q → q < b → G ys p ≤ G ys q
theorem Srt.short (h : b ≤ a + 1) : Srt ys a b := fun p q h1 h2 h3 => by omega
theorem Srt.frame (h : Srt ys a b) (he : ∀ k, a ≤ k → k < b → G zs k = G ys k) : Srt zs a b := fun p q h1 h2 h3 => by
  rw [he p h1 (by omega), he q (by omega) h3]; exact h p q h1 h2 h3
/-- sorted parts, the left one below the right one -/
theorem Srt.join (h1 : Srt ys a b) (h2 : Srt ys b c) (h : ∀ p q, a ≤ p → p < b → b ≤ q → q < c → G ys p ≤ G ys q) : Srt ys a c := fun p q h3 h4 h5 => by
  by_cases hq : q < b
  · exact h1 p q h3 h4 hq
  · by_cases hp : p < b
    · exact h p q h3 hp (by omega) h5
    · exact h2 p q (by omega) h4 h5
theorem Srt.pairwise (h : Srt ys 0 ys.length) : ys.Pairwise (· ≤ ·) := by
  rw [List.pairwise_iff_getElem]
  intro i j hi hj hij
  have := h i j (Nat.zero_le _) hij hj
  rwa [G_get hi, G_get hj] at this
/-- insertion: sorted up to i, but for the element at j -/
def Ins (ys : List Int) (a i j : Nat) : Prop := ∀ p q, a ≤ p → p < q → q ≤ i → q ≠ j → G ys p ≤ G ys q
theorem Ins.start (h : Srt ys a b) : Ins ys a b b := fun p q h1 h2 h3 h4 => h p q h1 h2 (by omega)
theorem Ins.step {i j : Nat} (h : Ins ys a i j) (hi : i < ys.length) (ha : a < j) (hj : j ≤ i) (hlt : G ys j < G ys (j - 1)) : Ins (swp ys j (j - 1)) a i (j - 1) := by
  intro p q h1 h2 h3 h4
  rw [G_swp (by omega) (by omega), G_swp (by omega) (by omega)]
  rw [if_neg h4]
  by_cases hp : p = j - 1
  · rw [if_pos hp]
    by_cases hq : q = j
    · rw [if_pos hq]; omega
    · rw [if_neg hq]; have := h (j - 1) q (by omega) (by omega) h3 hq; omega
  · rw [if_neg hp]
    by_cases hpj : p = j
    · rw [if_pos hpj]
      rw [if_neg (by omega)]
      exact h (j - 1) q (by omega) (by omega) h3 (by omega)
    · rw [if_neg hpj]
      by_cases hq : q = j
      · rw [if_pos hq]; exact h p (j - 1) h1 (by omega) (by omega) (by omega)
      · rw [if_neg hq]; exact h p q h1 h2 h3 hq
theorem Ins.done {i j : Nat} (h : Ins ys a i j) (hj : j = a ∨ (a < j ∧ G ys (j - 1) ≤ G ys j)) : Srt ys a (i + 1) := by
  intro p q h1 h2 h3
  by_cases hq : q = j
  · subst hq
    rcases hj with hj | ⟨hj, hle⟩
    · omega
    · by_cases hp : p = q - 1
      · rw [hp]; exact hle
      · have := h p (q - 1) h1 (by omega) (by omega) (by omega); omega
  · exact h p q h1 h2 (by omega) hq
/-- heaps: f is the first place, n the size; lo the least root -/
def Hp (ys : List Int) (f lo n : Nat) : Prop := ∀ r c, lo ≤ r → (c = 2 * r + 1 ∨ c = 2 * r + 2) → c < n → G ys (f + c) ≤ G ys (f + r)
/-- a heap but for the root r -/
def HpB (ys : List Int) (f lo n r : Nat) : Prop :=
  (∀ s c, lo ≤ s → s ≠ r → (c = 2 * s + 1 ∨ c = 2 * s + 2) → c < n → G ys (f + c) ≤ G ys (f + s)) ∧
  (∀ s c, lo ≤ s → (r = 2 * s + 1 ∨ r = 2 * s + 2) → (c = 2 * r + 1 ∨ c = 2 * r + 2) → c < n → G ys (f + c) ≤ G ys (f + s))
theorem HpB.start {f lo n : Nat} (h : Hp ys f (lo + 1) n) : HpB ys f lo n lo :=
  ⟨fun s c h1 h2 h3 h4 => h s c (by omega) h3 h4, fun s c h1 h2 => by omega⟩
theorem HpB.done {f lo n r : Nat} (h : HpB ys f lo n r) (hd : ∀ c, (c = 2 * r + 1 ∨ c = 2 * r + 2) → c < n → G ys (f + c) ≤ G ys (f + r)) : Hp ys f lo n := fun s c h1 h2 h3 => by
  by_cases hs : s = r
  · subst hs; exact hd c h2 h3
  · exact h.1 s c h1 hs h2 h3
theorem HpB.step {f lo n r c : Nat} (h : HpB ys f lo n r) (hl : f + n ≤ ys.length) (hlo : lo ≤ r) (hc : c = 2 * r + 1 ∨ c = 2 * r + 2) (hn : c < n) (hlt : G ys (f + r) < G ys (f + c))
    (hbig : ∀ q, (q = 2 * r + 1 ∨ q = 2 * r + 2) → q < n → G ys (f + q) ≤ G ys (f + c)) : HpB (swp ys (f + r) (f + c)) f lo n c := by
  have gc : G (swp ys (f + r) (f + c)) (f + c) = G ys (f + r) := by rw [G_swp (by omega) (by omega), if_pos rfl]
  have gr : G (swp ys (f + r) (f + c)) (f + r) = G ys (f + c) := by rw [G_swp (by omega) (by omega), if_neg (by omega), if_pos rfl]
  have go : ∀ k, k ≠ c → k ≠ r → G (swp ys (f + r) (f + c)) (f + k) = G ys (f + k) := fun k h1 h2 => by rw [G_swp (by omega) (by omega), if_neg (by omega), if_neg (by omega)]
  refine ⟨fun s q h1 h2 h3 h4 => ?_, fun s q h1 h2 h3 h4 => ?_⟩
  · by_cases hq : q = c
    · have hs : s = r := by omega
      subst hq hs
      rw [gc, gr]; omega
    · by_cases hs : s = r
      · subst hs
        rw [gr, go q hq (by omega)]
        exact hbig q h3 h4
      · by_cases hqr : q = r
        · subst hqr
          rw [gr, go s h2 hs]
          exact h.2 s c h1 h3 hc hn
        · rw [go q hq hqr, go s h2 hs]; exact h.1 s q h1 hs h3 h4
  · have hs : s = r := by omega
    subst hs
    rw [gr, go q (by omega) (by omega)]
    exact h.1 c q (by omega) (by omega) h3 h4
theorem Hp.top {f n : Nat} (h : Hp ys f 0 n) : ∀ c, c < n → G ys (f + c) ≤ G ys f := by
  intro c
  induction c using Nat.strongRecOn with
  | _ c ih =>
    intro hc
    by_cases h0 : c = 0
    · subst h0; exact Int.le_refl _
    · have h1 := h ((c - 1) / 2) c (by omega) (by omega) hc
      have h2 := ih ((c - 1) / 2) (by omega) (by omega)
      omega
theorem Hp.frame {f lo n : Nat} (h : Hp ys f lo n) (he : ∀ k, lo ≤ k → k < n → G zs (f + k) = G ys (f + k)) : Hp zs f lo n := fun r c h1 h2 h3 => by
  rw [he c (by omega) h3, he r h1 (by omega)]; exact h r c h1 h2 h3
end Go.Proofs.YtcigpclbhfkgaaaGreat.V
/-! Sorting: cmp.Less, insertion sort, heap sort. -/
set_option linter.all false
namespace Go.Proofs.YtcigpclbhfkgaaaGreat.V
open Go Go.VM Go.Proofs
set_option maxRecDepth 10000
variable {frz : Nat} {H : Heap} {v : Value} {xs : List Int} {e : TypeId}
theorem ow_ix (o : Ow Fl.int e H v xs) {i : Nat} (h1 : i < xs.length) : vindexAddr Tryz.prog H 24 v (.int .i64 i) = some (elp v i) := by
  have := o.rd.isI.idx (P := Tryz.prog) (ty := 24) (e := 3) (by simp) (i := (i : Int)) (by omega) (by omega)
  simpa using this
theorem ow_ld (o : Ow Fl.int e H v xs) {i : Nat} (h1 : i < xs.length) : vload Tryz.prog H 3 (elp v i) = some (.int .i64 (G xs i)) :=
  o.rd.isI.load (P := Tryz.prog) (e := 3) (by simp) h1
theorem ow_swap (o : Ow Fl.int e H v xs) {i j : Nat} (hi : i < xs.length) (hj : j < xs.length) (hf : ∀ i ∈ ids v, frz ≤ i) :
    ∃ H1 H2, vstore Tryz.prog frz H 3 (.int .i64 (G xs j)) (elp v i) = some H1 ∧ (∀ k : Nat, k < xs.length → vindexAddr Tryz.prog H1 24 v (.int .i64 k) = some (elp v k)) ∧
      vstore Tryz.prog frz H1 3 (.int .i64 (G xs i)) (elp v j) = some H2 ∧ Ow Fl.int e H2 v (swp xs i j) ∧ Chg H H2 (ids v) ∧ H2.length = H.length := by
  obtain ⟨H1, s1, o1, c1, l1⟩ := o.put1 (P := Tryz.prog) (frz := frz) rfl (et := 3) (ag := false) (by simp) hi (x := .int .i64 (G xs j)) (y := G xs j) rfl rfl rfl hf
  obtain ⟨H2, s2, o2, c2, l2⟩ := o1.put1 (P := Tryz.prog) (frz := frz) rfl (et := 3) (ag := false) (by simp) (j := j) (by simpa using hj) (x := .int .i64 (G xs i)) (y := G xs i) rfl rfl rfl hf
  exact ⟨H1, H2, s1, fun k hk => ow_ix o1 (by simpa using hk), s2, o2, c1.trans c2, by omega⟩
/-- what a sorting step leaves: elements of [a, b) have changed places, nothing else has changed -/
def Swd (H : Heap) (v : Value) (xs : List Int) (e : TypeId) (a b : Nat) (K : List Int → Prop) (H' : Heap) : Prop :=
  ∃ ys, Sw a b xs ys ∧ K ys ∧ Ow Fl.int e H' v ys ∧ Chg H H' (ids v) ∧ H'.length = H.length
theorem less_c (a b : Int) : vcall C frz 206 [.int .i64 a, .int .i64 b] H = some (.bool (decide (a < b)), H) := by
  have nan := fun (F : Nat) (H : Heap) (a : Int) => show vcall C F 245 [.int .i64 a] H = some (.bool false, H) by
    rw [vcall_go (fn := Tryz.f245) Tryz.func245 rfl (by kernel_rfl) rfl]
    simp
  rw [vcall_go (fn := Tryz.f206) Tryz.func206 rfl (by kernel_rfl) rfl]
  simp [nan]
theorem insSort_w (v : Value) (xs : List Int) (e : TypeId) (a b : Nat) (h : Ow Fl.int e H v xs) (hab : a ≤ b) (hb : b ≤ xs.length) (hl : xs.length ≤ 1073741824) (hf : ∀ i ∈ ids v, frz ≤ i) :
   wp (vcall C frz 200 [v, .int .i64 a, .int .i64 b] H) (fun _ H' => Swd H v xs e a b (fun ys => Srt ys a b) H') := by
  rw [vcall_go (fn := Tryz.f200) Tryz.func200 rfl (by kernel_rfl) rfl]
  simp
  refine wp_inv (fun n t H' => ∃ i : Nat, n = b - i ∧ t 0 = v ∧ t 1 = .int .i64 a ∧ t 2 = .int .i64 b ∧ t 6 = .int .i64 i ∧ a + 1 ≤ i ∧ i ≤ max (a + 1) b ∧ Swd H v xs e a b (fun ys => Srt ys a i) H') ?_ (n := b - (a + 1))
    ⟨a + 1, by simp, by simp, by simp, by simp, by simp; exact w64 (by omega) (by omega), by omega, by omega, xs, .refl, Srt.short (by omega), h, Chg.refl _, rfl⟩
  rintro n t H' ⟨i, rfl, h0, h1, h2, h6, ha, hi, ys, sw, sr, o, c, l⟩ ih
  simp [h0, h1, h2, h6]
  refine wp_dec ?_ ?_ <;> intro hib
  · simp [h0, h1, h2, h6]
    refine wp_inv (fun n t H' => ∃ j : Nat, n = j ∧ t 0 = v ∧ t 1 = .int .i64 a ∧ t 2 = .int .i64 b ∧ t 6 = .int .i64 i ∧ t 7 = .int .i64 j ∧ a ≤ j ∧ j ≤ i ∧ Swd H v xs e a b (fun ys => Ins ys a i j) H') ?_ (n := i)
      ⟨i, rfl, by simp [h0], by simp [h1], by simp [h2], by simp [h6], by simp, by omega, by omega, ys, sw, Ins.start sr, o, c, l⟩
    rintro j t H' ⟨_, rfl, h0, h1, h2, h6, h7, haj, hji, ys, sw, ins, o, c, l⟩ ih2
    have len := sw.len
    simp [h0, h1, h2, h6, h7]
    rw [go_draw (h := by kernel_rfl)]
    simp [h0, h1, h2, h6, h7]
    refine wpg_dec ?_ ?_ <;> intro hja
    · have e1 : IntKind.i64.wrap ((j : Int) - 1) = ((j - 1 : Nat) : Int) := by rw [w64 (by omega) (by omega)]; omega
      have p1 : j < ys.length := by omega
      have p2 : j - 1 < ys.length := by omega
      simp [h0, h1, h2, h6, h7, hja, e1, ow_ix o p1, ow_ix o p2, ow_ld o p1, ow_ld o p2, less_c]
      have out : ∀ t' : Env, t' 0 = v → t' 1 = .int .i64 a → t' 2 = .int .i64 b → t' 6 = .int .i64 (IntKind.i64.wrap ((i : Int) + 1)) → (j = a ∨ (a < j ∧ G ys (j - 1) ≤ G ys j)) →
          ∃ i' : Nat, b - (i + 1) = b - i' ∧ t' 0 = v ∧ t' 1 = .int .i64 a ∧ t' 2 = .int .i64 b ∧ t' 6 = .int .i64 i' ∧ a + 1 ≤ i' ∧ i' ≤ max (a + 1) b ∧ Swd H v xs e a b (fun ys => Srt ys a i') H' := by
        intro t' g0 g1 g2 g6 hj
        exact ⟨i + 1, rfl, g0, g1, g2, by rw [g6, w64 (by omega) (by omega)]; simp, by omega, by omega, ys, sw, ins.done hj, o, c, l⟩
      refine wp_dec ?_ ?_ <;> intro hlt
      · simp [h0, h1, h2, h6, h7]
        rw [go_draw (h := by kernel_rfl)]
        obtain ⟨H1, H2, s1, ix, s2, o2, c2, l2⟩ := ow_swap o p1 p2 hf
        simp [h0, h1, h2, h6, h7, e1, ow_ix o p1, ow_ix o p2, ow_ld o p1, ow_ld o p2, s1, ix _ p1, ix _ p2, s2]
        refine ih2 (j - 1) _ _ ⟨j - 1, rfl, by simp [h0], by simp [h1], by simp [h2], by simp [h6], by simp [e1], by omega, by omega, _, sw.step j (j - 1) (by omega) (by omega), ?_, o2, c.trans c2, by omega⟩ (by omega)
        exact ins.step (by omega) hja hji hlt
      · simp [h0, h1, h2, h6, h7]
        refine ih (b - (i + 1)) _ _ (out _ ?_ ?_ ?_ ?_ (.inr ⟨hja, by omega⟩)) (by omega) <;> simp [h0, h1, h2]
    · simp [h0, h1, h2, h6, h7, hja]
      refine ih (b - (i + 1)) _ _ ⟨i + 1, rfl, by simp [h0], by simp [h1], by simp [h2], ?_, by omega, by omega, ys, sw, ins.done (.inl (by omega)), o, c, l⟩ (by omega)
      simp; exact w64 (by omega) (by omega)
  · have : i = max (a + 1) b := by omega
    simp
    exact ⟨ys, sw, fun p q h1 h2 h3 => sr p q h1 h2 (by omega), o, c, l⟩
theorem siftDown_w (v : Value) (xs : List Int) (e : TypeId) (lo n f : Nat) (h : Ow Fl.int e H v xs) (hp : Hp xs f (lo + 1) n) (hlo : lo ≤ n) (hn : f + n ≤ xs.length) (hl : xs.length ≤ 1073741824) (hf : ∀ i ∈ ids v, frz ≤ i) :
   wp (vcall C frz 240 [v, .int .i64 lo, .int .i64 n, .int .i64 f] H) (fun _ H' => Swd H v xs e (f + lo) (f + n) (fun ys => Hp ys f lo n) H') := by
  rw [vcall_go (fn := Tryz.f240) Tryz.func240 rfl (by kernel_rfl) rfl]
  simp
  refine wp_inv (fun m t H' => ∃ r : Nat, m = n - r ∧ t 0 = v ∧ t 2 = .int .i64 n ∧ t 3 = .int .i64 f ∧ t 8 = .int .i64 r ∧ lo ≤ r ∧ r ≤ n ∧ Swd H v xs e (f + lo) (f + n) (fun ys => HpB ys f lo n r) H') ?_ (n := n - lo)
    ⟨lo, rfl, by simp, by simp, by simp, by simp, by omega, by omega, xs, .refl, HpB.start hp, h, Chg.refl _, rfl⟩
  rintro m t H' ⟨r, rfl, h0, h2, h3, h8, hlr, hrn, ys, sw, hb, o, c, l⟩ ih
  have len := sw.len
  obtain ⟨c1, hc1⟩ : ∃ c1, c1 = 2 * r + 1 := ⟨_, rfl⟩
  obtain ⟨c2, hc2⟩ : ∃ c2, c2 = 2 * r + 2 := ⟨_, rfl⟩
  obtain ⟨d0, hd0⟩ : ∃ d0, d0 = f + r := ⟨_, rfl⟩
  obtain ⟨d1, hd1⟩ : ∃ d1, d1 = f + c1 := ⟨_, rfl⟩
  obtain ⟨d2, hd2⟩ : ∃ d2, d2 = f + c2 := ⟨_, rfl⟩
  have e1 : IntKind.i64.wrap (IntKind.i64.wrap (2 * (r : Int)) + 1) = (c1 : Int) := by rw [w64 (x := 2 * (r : Int)) (by omega) (by omega), w64 (by omega) (by omega)]; omega
  simp [h0, h2, h3, h8, e1]
  refine wp_dec ?_ ?_ <;> intro hc
  · simp
    exact ⟨ys, sw, hb.done (fun q h1 h2 => by omega), o, c, l⟩
  · have e2 : IntKind.i64.wrap ((c1 : Int) + 1) = (c2 : Int) := by rw [w64 (by omega) (by omega)]; omega
    have e3 : IntKind.i64.wrap ((f : Int) + (c1 : Int)) = (d1 : Int) := by rw [w64 (by omega) (by omega)]; omega
    have e4 : IntKind.i64.wrap ((d1 : Int) + 1) = (d2 : Int) := by rw [w64 (by omega) (by omega)]; omega
    have e5 : IntKind.i64.wrap ((f : Int) + (r : Int)) = (d0 : Int) := by rw [w64 (by omega) (by omega)]; omega
    have p0 : d0 < ys.length := by omega
    have p1 : d1 < ys.length := by omega
    refine (fun (rest : ∀ (q : Nat) (t' : Env), (q = 2 * r + 1 ∨ q = 2 * r + 2) → q < n → (∀ p, (p = 2 * r + 1 ∨ p = 2 * r + 2) → p < n → G ys (f + p) ≤ G ys (f + q)) →
       t' 0 = v → t' 2 = .int .i64 n → t' 3 = .int .i64 f → t' 8 = .int .i64 r → t' 9 = .int .i64 q → wp (go ?F ?k .normal t' H') ?Q) => ?main) ?rest
    case main =>
      simp [h0, h2, h3, h8, hc, e2]
      rw [go_draw (h := by kernel_rfl)]
      simp [h0, h2, h3, h8, e2]
      refine wpg_dec ?_ ?_ <;> intro g1
      · have p2 : d2 < ys.length := by omega
        simp [h0, h2, h3, h8, e2, g1, e3, e4, ow_ix o p1, ow_ix o p2, ow_ld o p1, ow_ld o p2, less_c]
        refine wp_dec ?_ ?_ <;> intro g2 <;> simp [e2]
        · refine rest c2 _ (.inr hc2) g1 (fun p g3 g4 => ?_) ?_ ?_ ?_ ?_ ?_ <;> try simp [h0, h2, h3, h8]
          rw [← hd2]
          rcases g3 with g3 | g3
          · rw [g3, ← hc1, ← hd1]; omega
          · rw [g3, ← hc2, ← hd2]; omega
        · refine rest c1 _ (.inl hc1) (by omega) (fun p g3 g4 => ?_) ?_ ?_ ?_ ?_ ?_ <;> try simp [h0, h2, h3, h8]
          rw [← hd1]
          rcases g3 with g3 | g3
          · rw [g3, ← hc1, ← hd1]; omega
          · rw [g3, ← hc2, ← hd2]; omega
      · simp [h0, h2, h3, h8, e2, g1]
        refine rest c1 _ (.inl hc1) (by omega) (fun p g3 g4 => ?_) ?_ ?_ ?_ ?_ ?_ <;> try simp [h0, h2, h3, h8]
        have : p = c1 := by omega
        rw [this]; omega
    case rest =>
      intro q t hq hqn hbig h0 h2 h3 h8 h9
      obtain ⟨dq, hdq⟩ : ∃ dq, dq = f + q := ⟨_, rfl⟩
      have e6 : IntKind.i64.wrap ((f : Int) + (q : Int)) = (dq : Int) := by rw [w64 (by omega) (by omega)]; omega
      have pq : dq < ys.length := by omega
      rw [← hdq] at hbig
      rw [go_draw (h := by kernel_rfl)]
      simp [h0, h2, h3, h8, h9, e5, e6, ow_ix o p0, ow_ix o pq, ow_ld o p0, ow_ld o pq, less_c]
      refine wp_dec ?_ ?_ <;> intro g1
      · simp [h0, h2, h3, h8, h9]
        rw [go_draw (h := by kernel_rfl)]
        obtain ⟨H1, H2, s1, ix, s2, o2, c3, l2⟩ := ow_swap o p0 pq hf
        simp [h0, h2, h3, h8, h9, e5, e6, ow_ix o p0, ow_ix o pq, ow_ld o p0, ow_ld o pq, s1, ix _ p0, ix _ pq, s2]
        refine ih (n - q) _ _ ⟨q, rfl, by simp [h0], by simp [h2], by simp [h3], by simp, by omega, by omega, _, sw.step d0 dq (by omega) (by omega), ?_, o2, c.trans c3, by omega⟩ (by omega)
        subst hd0 hdq
        exact hb.step (by omega) hlr hq hqn g1 hbig
      · simp
        subst hd0 hdq
        exact ⟨ys, sw, hb.done (fun p g3 g4 => by have := hbig p g3 g4; omega), o, c, l⟩
theorem heapSort_w (v : Value) (xs : List Int) (e : TypeId) (a b : Nat) (h : Ow Fl.int e H v xs) (hab : a < b) (hb : b ≤ xs.length) (hl : xs.length ≤ 1073741824) (hf : ∀ i ∈ ids v, frz ≤ i) :
   wp (vcall C frz 201 [v, .int .i64 a, .int .i64 b] H) (fun _ H' => Swd H v xs e a b (fun ys => Srt ys a b) H') := by
  rw [vcall_go (fn := Tryz.f201) Tryz.func201 rfl (by kernel_rfl) rfl]
  obtain ⟨n, hn⟩ : ∃ n, n = b - a := ⟨_, rfl⟩
  have e1 : IntKind.i64.wrap ((b : Int) - a) = (n : Int) := by rw [w64 (by omega) (by omega)]; omega
  have e2 : IntKind.i64.wrap ((n : Int) - 1) = ((n - 1 : Nat) : Int) := by rw [w64 (by omega) (by omega)]; omega
  have e3 : IntKind.i64.wrap (((n - 1 : Nat) : Int) / 2) = (((n - 1) / 2 + 1 : Nat) : Int) - 1 := by rw [w64 (by omega) (by omega)]; omega
  have e4 : ((n : Int) - 1) = ((n - 1 : Nat) : Int) := by omega
  have hbn : a + n = b := by omega
  simp [e1, e2, e3]
  refine wp_inv (fun m t H' => ∃ k : Nat, m = k ∧ t 0 = v ∧ t 6 = .int .i64 a ∧ t 7 = .int .i64 0 ∧ t 8 = .int .i64 n ∧ t 9 = .int .i64 ((k : Int) - 1) ∧ k ≤ n ∧ Swd H v xs e a b (fun ys => Hp ys a k n) H') ?_ (n := (n - 1) / 2 + 1)
    ⟨(n - 1) / 2 + 1, rfl, by simp, by simp, by simp, by simp, by simp, by omega, xs, .refl, fun r c h1 h2 h3 => by omega, h, Chg.refl _, rfl⟩
  rintro k t H' ⟨_, rfl, h0, h6, h7, h8, h9, hkn, ys, sw, hp, o, c, l⟩ ih
  have len := sw.len
  simp [h0, h6, h7, h8, h9]
  refine wp_dec ?_ ?_ <;> intro hk
  · obtain ⟨k, rfl⟩ : ∃ k', k = k' + 1 := ⟨k - 1, by omega⟩
    have e5 : ((k + 1 : Nat) : Int) - 1 = (k : Int) := by omega
    rw [e5] at h9
    simp [h0, h6, h7, h8, h9]
    refine wp_thn (siftDown_w v ys e k n a o hp (by omega) (by omega) (by omega) hf) ?_
    rintro _ H1 ⟨zs, sw1, hp1, o1, c1, l1⟩
    simp [h0, h6, h7, h8, h9]
    refine ih k _ _ ⟨k, rfl, by simp [h0], by simp [h6], by simp [h7], by simp [h8], ?_, by omega, zs, sw.trans (sw1.mono (by omega) (by omega)), hp1, o1, c.trans c1, by omega⟩ (by omega)
    simp; rw [w64 (by omega) (by omega)]
  · obtain rfl : k = 0 := by omega
    simp [h0, h6, h7, h8, h9, e2]
    refine wp_inv (fun m t H' => ∃ k : Nat, m = k ∧ t 0 = v ∧ t 6 = .int .i64 a ∧ t 7 = .int .i64 0 ∧ t 10 = .int .i64 ((k : Int) - 1) ∧ k ≤ n ∧
        Swd H v xs e a b (fun ys => Hp ys a 0 k ∧ Srt ys (a + k) b ∧ ∀ p q, a ≤ p → p < a + k → a + k ≤ q → q < b → G ys p ≤ G ys q) H') ?_ (n := n)
      ⟨n, rfl, by simp [h0], by simp [h6], by simp [h7], by simp [e4], by omega, ys, sw, ⟨hp, Srt.short (by omega), fun p q h1 h2 h3 h4 => by omega⟩, o, c, l⟩
    clear ih h0 h6 h7 h8 h9 o c l hp sw len
    rintro k t H' ⟨_, rfl, h0, h6, h7, h10, hkn, ys, sw, ⟨hp, hs, hle⟩, o, c, l⟩ ih
    have len := sw.len
    simp [h0, h6, h7, h10]
    refine wp_dec ?_ ?_ <;> intro hk
    · obtain ⟨k, rfl⟩ : ∃ k', k = k' + 1 := ⟨k - 1, by omega⟩
      have e5 : ((k + 1 : Nat) : Int) - 1 = (k : Int) := by omega
      rw [e5] at h10
      obtain ⟨d, hd⟩ : ∃ d, d = a + k := ⟨_, rfl⟩
      have e6 : IntKind.i64.wrap ((a : Int) + (k : Int)) = (d : Int) := by rw [w64 (by omega) (by omega)]; omega
      have p0 : a < ys.length := by omega
      have p1 : d < ys.length := by omega
      obtain ⟨H1, H2, s1, ix, s2, o2, c2, l2⟩ := ow_swap o p0 p1 hf
      simp [h0, h6, h7, h10]
      rw [go_draw (h := by kernel_rfl)]
      simp [h0, h6, h7, h10, e6, ow_ix o p0, ow_ix o p1, ow_ld o p0, ow_ld o p1, s1, ix _ p0, ix _ p1, s2]
      have gs := fun q => G_swp (xs := ys) p0 p1 q
      refine wp_thn (siftDown_w v _ e 0 k a o2 (fun r q h1 h2 h3 => ?_) (by omega) (by simp; omega) (by simp; omega) hf) ?_
      · rw [gs, gs, if_neg (by omega), if_neg (by omega), if_neg (by omega), if_neg (by omega)]
        exact hp r q (by omega) h2 (by omega)
      · rintro _ H3 ⟨zs, sw1, hp1, o3, c3, l3⟩
        simp only [Nat.add_zero] at sw1
        have hlz : a + k ≤ (swp ys a d).length := by simp; omega
        have top := hp.top
        have hz : ∀ q, q < a ∨ a + k ≤ q → G zs q = G (swp ys a d) q := fun q hq => sw1.out hlz hq
        have zd : G zs d = G ys a := by rw [hz d (by omega), gs, if_pos rfl]
        have zo : ∀ q, d < q → q < b → G zs q = G ys q := fun q h1 h2 => by rw [hz q (by omega), gs, if_neg (by omega), if_neg (by omega)]
        have zlo : ∀ p, a ≤ p → p < a + k → G zs p ≤ G ys a ∧ ∀ q, d < q → q < b → G zs p ≤ G ys q := sw1.all (p := fun x => x ≤ G ys a ∧ ∀ q, d < q → q < b → x ≤ G ys q) hlz (fun p h1 h2 => by
          rw [gs, if_neg (by omega)]
          split
          · have := top k (by omega); rw [← hd] at this
            exact ⟨this, fun q g1 g2 => hle d q (by omega) (by omega) (by omega) g2⟩
          · have := top (p - a) (by omega); rw [show a + (p - a) = p by omega] at this
            exact ⟨this, fun q g1 g2 => hle p q (by omega) (by omega) (by omega) g2⟩)
        simp [h0, h6, h7, h10]
        refine ih k _ _ ⟨k, rfl, by simp [h0], by simp [h6], by simp [h7], ?_, by omega, zs, (sw.step a d (by omega) (by omega)).trans (sw1.mono (by omega) (by omega)), ⟨hp1, fun p q h1 h2 h3 => ?_, fun p q h1 h2 h3 h4 => ?_⟩, o3, c.trans (c2.trans c3), by omega⟩ (by omega)
        · simp; rw [w64 (by omega) (by omega)]
        · rw [zo q (by omega) h3]
          by_cases hpd : p = d
          · rw [hpd, zd]; exact hle a q (by omega) (by omega) (by omega) h3
          · rw [zo p (by omega) (by omega)]; exact hs p q (by omega) h2 h3
        · by_cases hq : q = d
          · rw [hq, zd]; exact (zlo p h1 h2).1
          · rw [zo q (by omega) h4]; exact (zlo p h1 h2).2 q (by omega) h4
    · obtain rfl : k = 0 := by omega
      simp
      exact ⟨ys, sw, hs, o, c, l⟩
end Go.Proofs.YtcigpclbhfkgaaaGreat.V
/-! Sorting: the choice of a pivot. -/
set_option linter.all false
namespace Go.Proofs.YtcigpclbhfkgaaaGreat.V
open Go Go.VM Go.Proofs
set_option maxRecDepth 10000
variable {frz : Nat} {H : Heap} {v : Value} {xs : List Int} {e : TypeId}
theorem revRange_w (v : Value) (xs : List Int) (e : TypeId) (a b : Nat) (h : Ow Fl.int e H v xs) (hab : a < b) (hb : b ≤ xs.length) (hl : xs.length ≤ 1073741824) (hf : ∀ i ∈ ids v, frz ≤ i) :
   wp (vcall C frz 204 [v, .int .i64 a, .int .i64 b] H) (fun _ H' => Swd H v xs e a b (fun ys => True) H') := by
  rw [vcall_go (fn := Tryz.f204) Tryz.func204 rfl (by kernel_rfl) rfl]
  have e1 : IntKind.i64.wrap ((b : Int) - 1) = ((b - 1 : Nat) : Int) := by rw [w64 (by omega) (by omega)]; omega
  simp [e1]
  refine wp_inv (fun m t H' => ∃ i j : Nat, m = j - i ∧ t 0 = v ∧ t 6 = .int .i64 i ∧ t 7 = .int .i64 j ∧ a ≤ i ∧ j < b ∧ i ≤ j + 1 ∧ Swd H v xs e a b (fun ys => True) H') ?_ (n := b - 1 - a)
    ⟨a, b - 1, rfl, by simp, by simp, by simp, by omega, by omega, by omega, xs, .refl, trivial, h, Chg.refl _, rfl⟩
  rintro m t H' ⟨i, j, rfl, h0, h6, h7, hi, hj, hij, ys, sw, _, o, c, l⟩ ih
  have len := sw.len
  simp [h0, h6, h7]
  refine wp_dec ?_ ?_ <;> intro hk
  · have p0 : i < ys.length := by omega
    have p1 : j < ys.length := by omega
    obtain ⟨H1, H2, s1, ix, s2, o2, c2, l2⟩ := ow_swap o p0 p1 hf
    simp [h0, h6, h7]
    rw [go_draw (h := by kernel_rfl)]
    simp [h0, h6, h7, ow_ix o p0, ow_ix o p1, ow_ld o p0, ow_ld o p1, s1, ix _ p0, ix _ p1, s2]
    refine ih (j - 1 - (i + 1)) _ _ ⟨i + 1, j - 1, rfl, by simp [h0], ?_, ?_, by omega, by omega, by omega, _, sw.step i j (by omega) (by omega), trivial, o2, c.trans c2, by omega⟩ (by omega)
    · simp; rw [w64 (by omega) (by omega)]
    · simp; rw [w64 (by omega) (by omega)]; omega
  · simp
    exact ⟨ys, sw, trivial, o, c, l⟩
def BoxI (H : Heap) (r : Nat) : Prop := ∃ s, H[r]? = some ⟨[.int .i64 s], 0, 3⟩
theorem order2_w (v : Value) (xs : List Int) (e : TypeId) (a b r : Nat) (h : Ow Fl.int e H v xs) (ha : a < xs.length) (hb : b < xs.length) (hr : BoxI H r) (hf : frz ≤ r) :
   wp (vcall C frz 256 [v, .int .i64 a, .int .i64 b, .pointer (some ⟨r, 0, some 0⟩)] H)
    (fun u H' => (∃ a' b' : Nat, u = .tuple #[.int .i64 a', .int .i64 b'] ∧ ((a' = a ∧ b' = b) ∨ (a' = b ∧ b' = a))) ∧ Chg H H' [r] ∧ BoxI H' r) := by
  obtain ⟨s, hs⟩ := hr
  rw [vcall_go (fn := Tryz.f256) Tryz.func256 rfl (by kernel_rfl) rfl]
  simp
  rw [go_draw (h := by kernel_rfl)]
  simp [ow_ix h ha, ow_ix h hb, ow_ld h ha, ow_ld h hb, less_c]
  refine wp_dec ?_ ?_ <;> intro g1
  · simp [vnil, VM.look, hs, hf]
    exact ⟨⟨b, a, ⟨rfl, rfl⟩, .inr ⟨rfl, rfl⟩⟩, chg_set _ _, _, set_get hs⟩
  · simp
    exact ⟨⟨a, b, ⟨rfl, rfl⟩, .inl ⟨rfl, rfl⟩⟩, Chg.refl _, _, hs⟩
theorem median_w (v : Value) (xs : List Int) (e : TypeId) (a b c r : Nat) (h : Ow Fl.int e H v xs) (ha : a < xs.length) (hb : b < xs.length) (hc : c < xs.length) (hr : BoxI H r) (hf : frz ≤ r) (hn : r ∉ ids v) :
   wp (vcall C frz 244 [v, .int .i64 a, .int .i64 b, .int .i64 c, .pointer (some ⟨r, 0, some 0⟩)] H)
    (fun u H' => (∃ m : Nat, u = .int .i64 m ∧ (m = a ∨ m = b ∨ m = c)) ∧ Chg H H' [r] ∧ BoxI H' r) := by
  rw [vcall_go (fn := Tryz.f244) Tryz.func244 rfl (by kernel_rfl) rfl]
  simp
  refine wp_thn (order2_w v xs e a b r h ha hb hr hf) ?_
  rintro _ H1 ⟨⟨a1, b1, rfl, h1⟩, c1, r1⟩
  have o1 := h.chg c1 (fun i hi hh => by simp at hh; subst hh; exact hn hi)
  simp
  refine wp_thn (order2_w v xs e b1 c r o1 (by omega) hc r1 hf) ?_
  rintro _ H2 ⟨⟨b2, c2, rfl, h2⟩, c2', r2⟩
  have o2 := o1.chg c2' (fun i hi hh => by simp at hh; subst hh; exact hn hi)
  simp
  refine wp_thn (order2_w v xs e a1 b2 r o2 (by omega) (by omega) r2 hf) ?_
  rintro _ H3 ⟨⟨a3, b3, rfl, h3⟩, c3, r3⟩
  simp
  exact ⟨⟨b3, rfl, by omega⟩, c1.trans (c2'.trans c3), r3⟩
theorem medianAdj_w (v : Value) (xs : List Int) (e : TypeId) (a r : Nat) (h : Ow Fl.int e H v xs) (h0 : 0 < a) (ha : a + 1 < xs.length) (hl : xs.length ≤ 1073741824) (hr : BoxI H r) (hf : frz ≤ r) (hn : r ∉ ids v) :
   wp (vcall C frz 243 [v, .int .i64 a, .pointer (some ⟨r, 0, some 0⟩)] H)
    (fun u H' => (∃ m : Nat, u = .int .i64 m ∧ (m + 1 = a ∨ m = a ∨ m = a + 1)) ∧ Chg H H' [r] ∧ BoxI H' r) := by
  rw [vcall_go (fn := Tryz.f243) Tryz.func243 rfl (by kernel_rfl) rfl]
  have e1 : IntKind.i64.wrap ((a : Int) - 1) = ((a - 1 : Nat) : Int) := by rw [w64 (by omega) (by omega)]; omega
  have e2 : IntKind.i64.wrap ((a : Int) + 1) = ((a + 1 : Nat) : Int) := by rw [w64 (by omega) (by omega)]; omega
  simp [e1]
  rw [e2]
  refine wp_thn (median_w v xs e (a - 1) a (a + 1) r h (by omega) (by omega) ha hr hf hn) ?_
  rintro _ H1 ⟨⟨m, rfl, hm⟩, c1, r1⟩
  simp
  exact ⟨⟨m, rfl, by omega⟩, c1, r1⟩
theorem choosePivot_w (v : Value) (xs : List Int) (e : TypeId) (a b : Nat) (h : Ow Fl.int e H v xs) (hab : a + 8 ≤ b) (hb : b ≤ xs.length) (hl : xs.length ≤ 1073741824) (hf : frz ≤ H.length) :
   wp (vcall C frz 203 [v, .int .i64 a, .int .i64 b] H)
    (fun u H' => (∃ (m : Nat) (k : Int), u = .tuple #[.int .i64 m, .int .i64 k] ∧ a ≤ m ∧ m < b) ∧ Chg H H' []) := by
  rw [vcall_go (fn := Tryz.f203) Tryz.func203 rfl (by kernel_rfl) rfl]
  obtain ⟨n, hn⟩ : ∃ n, n = b - a := ⟨_, rfl⟩
  have e1 : ∀ [Inhabited Unit], IntKind.i64.wrap ((b : Int) - a) = (n : Int) := by intro _; rw [w64 (by omega) (by omega)]; omega
  obtain ⟨q, hq⟩ : ∃ q, q = n / 4 := ⟨_, rfl⟩
  have e2 : ∀ [Inhabited Unit], IntKind.i64.wrap ((n : Int) / 4) = (q : Int) := by intro _; rw [w64 (by omega) (by omega)]; omega
  obtain ⟨q2, hq2⟩ : ∃ q2, q2 = q * 2 := ⟨_, rfl⟩
  obtain ⟨q3, hq3⟩ : ∃ q3, q3 = q * 3 := ⟨_, rfl⟩
  obtain ⟨i0, hi0⟩ : ∃ i0, i0 = a + q := ⟨_, rfl⟩
  obtain ⟨i1, hi1⟩ : ∃ i1, i1 = a + q2 := ⟨_, rfl⟩
  obtain ⟨i2, hi2⟩ : ∃ i2, i2 = a + q3 := ⟨_, rfl⟩
  have e3 : ∀ [Inhabited Unit], IntKind.i64.wrap (q : Int) = (q : Int) := by intro _; rw [w64 (by omega) (by omega)]
  have e4 : ∀ [Inhabited Unit], IntKind.i64.wrap ((q : Int) * 2) = (q2 : Int) := by intro _; rw [w64 (by omega) (by omega)]; omega
  have e5 : ∀ [Inhabited Unit], IntKind.i64.wrap ((q : Int) * 3) = (q3 : Int) := by intro _; rw [w64 (by omega) (by omega)]; omega
  have e6 : ∀ [Inhabited Unit], IntKind.i64.wrap ((a : Int) + q) = (i0 : Int) := by intro _; rw [w64 (by omega) (by omega)]; omega
  have e7 : ∀ [Inhabited Unit], IntKind.i64.wrap ((a : Int) + q2) = (i1 : Int) := by intro _; rw [w64 (by omega) (by omega)]; omega
  have e8 : ∀ [Inhabited Unit], IntKind.i64.wrap ((a : Int) + q3) = (i2 : Int) := by intro _; rw [w64 (by omega) (by omega)]; omega
  have g8 : (8 : Int) ≤ n := by omega
  have lt := h.lt
  have nin : H.length ∉ ids v := fun hh => by have := lt _ hh; omega
  simp [e1, e2, e3, e4, e5, e6, e7, e8, g8]
  have b0 : BoxI (H ++ [⟨[.int .i64 0], 0, 3⟩]) H.length := ⟨0, by simp⟩
  have o0 : Ow Fl.int e (H ++ [⟨[.int .i64 0], 0, 3⟩]) v xs := h.app
  refine wp_joinc (F := ?F) (k := ?k) (d := ?d) (Q := ?Q) (fun r t => ∃ (i0 i1 i2 : Nat) (H1 : Heap), r = vcall C frz 244 [v, .int .i64 i0, .int .i64 i1, .int .i64 i2, .pointer (some ⟨H.length, 0, some 0⟩)] H1 ∧
     (a ≤ i0 ∧ i0 < b) ∧ (a ≤ i1 ∧ i1 < b) ∧ (a ≤ i2 ∧ i2 < b) ∧ t 9 = .pointer (some ⟨H.length, 0, some 0⟩) ∧
     Chg (H ++ [⟨[.int .i64 0], 0, 3⟩]) H1 [H.length] ∧ BoxI H1 H.length) ?main ?rest
  case main =>
    intro rest
    refine wp_dec ?_ ?_ <;> intro g1
    · simp [e6, e7, e8]
      refine wp_thn (medianAdj_w v xs e i0 H.length o0 (by omega) (by omega) hl b0 hf nin) ?_
      rintro _ H1 ⟨⟨j0, rfl, hj0⟩, c1, r1⟩
      have o1 := o0.chg c1 (fun i hi hh => by simp at hh; subst hh; exact nin hi)
      simp [e6, e7, e8]
      refine wp_thn (medianAdj_w v xs e i1 H.length o1 (by omega) (by omega) hl r1 hf nin) ?_
      rintro _ H2 ⟨⟨j1, rfl, hj1⟩, c2, r2⟩
      have o2 := o1.chg c2 (fun i hi hh => by simp at hh; subst hh; exact nin hi)
      simp [e6, e7, e8]
      refine wp_thn (medianAdj_w v xs e i2 H.length o2 (by omega) (by omega) hl r2 hf nin) ?_
      rintro _ H3 ⟨⟨j2, rfl, hj2⟩, c3, r3⟩
      simp [e6, e7, e8]
      refine rest _ _ ?_
      exact ⟨j0, j1, j2, H3, rfl, by omega, by omega, by omega, by simp, c1.trans (c2.trans c3), r3⟩
    · simp [e6, e7, e8]
      refine rest _ _ ?_
      exact ⟨i0, i1, i2, _, rfl, by omega, by omega, by omega, by simp, Chg.refl _, b0⟩
  case rest =>
    rintro _ t ⟨i0, i1, i2, H1, rfl, h0, h1, h2, t9, c1, r1⟩
    have o1 := o0.chg c1 (fun i hi hh => by simp at hh; subst hh; exact nin hi)
    refine wp_thn (median_w v xs e i0 i1 i2 H.length o1 (by omega) (by omega) (by omega) r1 hf nin) ?_
    rintro _ H2 ⟨⟨m, rfl, hm⟩, c2, s, hs⟩
    have cc : Chg H H2 [] := (Chg.app (L := [⟨[.int .i64 0], 0, 3⟩]) []).trans' (c1.trans c2) (fun i hi => by simp at hi; subst hi; right; simp)
    simp [t9, VM.look, hs]
    refine wp_dec ?_ ?_ <;> intro g2 <;> simp
    · exact ⟨⟨m, rfl, by omega⟩, cc⟩
    · refine wp_dec ?_ ?_ <;> intro g3 <;> simp
      · exact ⟨⟨m, rfl, by omega⟩, cc⟩
      · exact ⟨⟨m, rfl, by omega⟩, cc⟩
end Go.Proofs.YtcigpclbhfkgaaaGreat.V
/-! Sorting: lengths of bits, patterns broken. -/
set_option linter.all false
namespace Go.Proofs.YtcigpclbhfkgaaaGreat.V
open Go Go.VM Go.Proofs
set_option maxRecDepth 10000
variable {frz : Nat} {H : Heap} {v : Value} {xs : List Int} {e : TypeId}
def blen (y : Nat) : Nat := if y = 0 then 0 else y.log2 + 1
def tabOk (T : ByteArray) : Bool := (List.range 256).all fun y => match T[y]? with | some b => b.toNat == blen y | none => false
theorem blen_spec {y : Nat} (h : y < 256) : y < 2 ^ blen y ∧ (2 ^ blen y ≤ 2 * y ∨ y = 0) ∧ blen y ≤ 8 := by
  have : ∀ y : Fin 256, y.val < 2 ^ blen y.val ∧ (2 ^ blen y.val ≤ 2 * y.val ∨ y.val = 0) ∧ blen y.val ≤ 8 := by decide +kernel
  exact this ⟨y, h⟩
theorem blen_up {x z s n : Nat} (hz : z = x / 2 ^ s) (h1 : z < 2 ^ n) (h2 : 2 ^ n ≤ 2 * z ∨ z = 0) (h0 : 0 < z) : x < 2 ^ (n + s) ∧ (2 ^ (n + s) ≤ 2 * x ∨ x = 0) := by
  have hp : 0 < 2 ^ s := Nat.pow_pos (by decide)
  rw [Nat.pow_add]
  subst hz
  refine ⟨(Nat.div_lt_iff_lt_mul hp).1 h1, .inl ?_⟩
  have h3 : x / 2 ^ s * 2 ^ s ≤ x := Nat.div_mul_le_self _ _
  have h4 : 2 ^ n * 2 ^ s ≤ 2 * (x / 2 ^ s) * 2 ^ s := Nat.mul_le_mul_right _ (by omega)
  rw [Nat.mul_assoc] at h4
  omega
theorem vindex_tab {T : ByteArray} {y : Nat} (hy : y < 256) (h : tabOk T = true) : vindex Tryz.prog 9 (.string T) (.int .u8 (IntKind.u8.wrap (y : Int))) = some (.int .u8 (blen y)) := by
  have e1 : IntKind.u8.wrap (y : Int) = (y : Int) := by show (y : Int) % 256 = y; omega
  have := List.all_eq_true.1 h y (by simpa using hy)
  have hn : (0 : Int) ≤ y := by omega
  rw [e1]
  simp only [vindex, und9, hn, if_true, Int.toNat_natCast]
  cases hT : T[y]? with
  | none => rw [hT] at this; simp at this
  | some b => rw [hT] at this; simp at this; simp [this]
theorem shr_nat (x j : Nat) (hj : j ≤ 64) : ishr .u64 (x : Int) (j : Int) = ((x / 2 ^ j : Nat) : Int) := ishr_nat .u64 x j hj
theorem len64_w (x : Nat) (hx : x < 2147483648) :
   wp (vcall C frz 210 [.int .u64 x] H) (fun r H' => H' = H ∧ ∃ n : Nat, r = .int .i64 n ∧ x < 2 ^ n ∧ (2 ^ n ≤ 2 * x ∨ x = 0) ∧ n ≤ 32) := by
  rw [vcall_go (fn := Tryz.f210) Tryz.func210 rfl (by kernel_rfl) rfl]
  have g1 : ¬ (4294967296 : Int) ≤ x := by omega
  have e8 : IntKind.i64.wrap 8 = 8 := rfl
  have e16 : IntKind.i64.wrap 16 = 16 := rfl
  have e24 : IntKind.i64.wrap 24 = 24 := rfl
  simp [g1]
  refine wp_dec ?_ ?_ <;> intro g2
  · obtain ⟨y, hy⟩ : ∃ y, y = x / 65536 := ⟨_, rfl⟩
    have s16 : ishr .u64 (x : Int) 16 = (y : Int) := by rw [hy]; exact shr_nat x 16 (by decide)
    simp [s16]
    refine wp_dec ?_ ?_ <;> intro g3
    · obtain ⟨z, hz⟩ : ∃ z, z = y / 256 := ⟨_, rfl⟩
      have s8 : ishr .u64 (y : Int) 8 = (z : Int) := by rw [hz]; exact shr_nat y 8 (by decide)
      simp [s8]
      rw [vindex_tab (y := z) (by omega) (by decide +kernel)]
      obtain ⟨q1, q2, q3⟩ := blen_spec (y := z) (by omega)
      have w8 : IntKind.i64.wrap (blen z : Int) = (blen z : Int) := w64 (by omega) (by omega)
      simp [w8, e8, e16, e24]
      refine ⟨blen z + 24, ?_, ?_⟩
      · rw [w64 (by omega) (by omega)]; omega
      · have := blen_up (x := x) (z := z) (s := 24) (by omega) q1 q2 (by omega); omega
    · simp
      rw [vindex_tab (y := y) (by omega) (by decide +kernel)]
      obtain ⟨q1, q2, q3⟩ := blen_spec (y := y) (by omega)
      have w8 : IntKind.i64.wrap (blen y : Int) = (blen y : Int) := w64 (by omega) (by omega)
      simp [w8, e8, e16, e24]
      refine ⟨blen y + 16, ?_, ?_⟩
      · rw [w64 (by omega) (by omega)]; omega
      · have := blen_up (x := x) (z := y) (s := 16) (by omega) q1 q2 (by omega); omega
  · simp
    refine wp_dec ?_ ?_ <;> intro g3
    · obtain ⟨z, hz⟩ : ∃ z, z = x / 256 := ⟨_, rfl⟩
      have s8 : ishr .u64 (x : Int) 8 = (z : Int) := by rw [hz]; exact shr_nat x 8 (by decide)
      simp [s8]
      rw [vindex_tab (y := z) (by omega) (by decide +kernel)]
      obtain ⟨q1, q2, q3⟩ := blen_spec (y := z) (by omega)
      have w8 : IntKind.i64.wrap (blen z : Int) = (blen z : Int) := w64 (by omega) (by omega)
      simp [w8, e8, e16, e24]
      refine ⟨blen z + 8, ?_, ?_⟩
      · rw [w64 (by omega) (by omega)]; omega
      · have := blen_up (x := x) (z := z) (s := 8) (by omega) q1 q2 (by omega); omega
    · simp
      rw [vindex_tab (y := x) (by omega) (by decide +kernel)]
      obtain ⟨q1, q2, q3⟩ := blen_spec (y := x) (by omega)
      have w8 : IntKind.i64.wrap (blen x : Int) = (blen x : Int) := w64 (by omega) (by omega)
      simp [w8, e8, e16, e24]
      exact ⟨blen x, rfl, q1, q2, by omega⟩
theorem len_w (x : Nat) (hx : x < 2147483648) :
   wp (vcall C frz 165 [.int .u64 x] H) (fun r H' => H' = H ∧ ∃ n : Nat, r = .int .i64 n ∧ x < 2 ^ n ∧ (2 ^ n ≤ 2 * x ∨ x = 0) ∧ n ≤ 32) := by
  rw [vcall_go (fn := Tryz.f165) Tryz.func165 rfl (by kernel_rfl) rfl]
  simp
  refine wp_thn (len64_w x hx) ?_
  rintro _ _ ⟨rfl, n, rfl, h⟩
  simp
  exact ⟨n, rfl, h⟩
theorem w64u {x : Int} (h0 : 0 ≤ x) (h1 : x < 18446744073709551616) : IntKind.u64.wrap x = x := by show x % 18446744073709551616 = x; omega
theorem pow2_w (x : Nat) (hx : x < 2147483648) :
   wp (vcall C frz 241 [.int .i64 x] H) (fun r H' => H' = H ∧ ∃ m : Nat, r = .int .u64 m ∧ x < m ∧ (m ≤ 2 * x ∨ x = 0) ∧ m ≤ 4294967296) := by
  rw [vcall_go (fn := Tryz.f241) Tryz.func241 rfl (by kernel_rfl) rfl]
  have e1 : IntKind.u64.wrap (x : Int) = (x : Int) := w64u (by omega) (by omega)
  simp [e1]
  refine wp_thn (len_w x hx) ?_
  rintro _ _ ⟨rfl, n, rfl, h1, h2, h3⟩
  have hm : 2 ^ n ≤ 2 ^ 32 := Nat.pow_le_pow_right (by decide) h3
  have e2 : ishl .u64 1 (n : Int) = ((2 ^ n : Nat) : Int) := by
    unfold ishl
    rw [Int.toNat_natCast, Nat.min_eq_left (show n ≤ IntKind.u64.bits by show n ≤ 64; omega), Int.one_mul, w64u (Int.le_of_lt (Int.pow_pos (by decide))) (by
      have : ((2 : Int) ^ n) = ((2 ^ n : Nat) : Int) := by simp
      rw [this]; omega)]
    simp
  have hn : (0 : Int) ≤ n := by omega
  simp [vneed, hn, e2]
  exact ⟨2 ^ n, by simp, h1, h2, by omega⟩
def BoxX (H : Heap) (r : Nat) : Prop := ∃ s, H[r]? = some ⟨[.int .u64 s], 0, 219⟩
theorem xnext_w (r : Nat) (hr : BoxX H r) (hf : frz ≤ r) :
   wp (vcall C frz 242 [.pointer (some ⟨r, 0, some 0⟩)] H) (fun u H' => (∃ z, u = .int .u64 z) ∧ Chg H H' [r] ∧ BoxX H' r) := by
  obtain ⟨s, hs⟩ := hr
  rw [vcall_go (fn := Tryz.f242) Tryz.func242 rfl (by kernel_rfl) rfl]
  simp
  rw [go_draw (h := by kernel_rfl)]
  simp [vnil, VM.look, hs, hf]
  have l := box_lt hs
  rw [go_draw (h := by kernel_rfl)]
  simp [vnil, VM.look, hs, hf, l]
  rw [go_draw (h := by kernel_rfl)]
  simp [vnil, VM.look, hs, hf, l]
  exact ⟨chg_set _ _, _, by simp [l]; rfl⟩
theorem iand_le (a : Int) (b : Nat) (hb : b < 18446744073709551616) : 0 ≤ iand .u64 a b ∧ iand .u64 a b ≤ b := by
  unfold iand
  have h1 : (BitVec.ofInt IntKind.u64.bits a &&& BitVec.ofInt IntKind.u64.bits (b : Int)).toNat ≤ b := by
    rw [BitVec.toNat_and]
    refine Nat.le_trans Nat.and_le_right ?_
    rw [BitVec.toNat_ofInt]
    have : IntKind.u64.bits = 64 := rfl
    rw [this]; omega
  rw [w64u (by omega) (by omega)]
  omega
theorem breakPat_w (v : Value) (xs : List Int) (e : TypeId) (a b : Nat) (h : Ow Fl.int e H v xs) (hab : a ≤ b) (hb : b ≤ xs.length) (hl : xs.length ≤ 1073741824) (hf : ∀ i ∈ ids v, frz ≤ i) (hF : frz ≤ H.length) :
   wp (vcall C frz 202 [v, .int .i64 a, .int .i64 b] H) (fun _ H' => ∃ ys, Sw a b xs ys ∧ Ow Fl.int e H' v ys ∧ Chg H H' (ids v)) := by
  rw [vcall_go (fn := Tryz.f202) Tryz.func202 rfl (by kernel_rfl) rfl]
  obtain ⟨n, hn⟩ : ∃ n, n = b - a := ⟨_, rfl⟩
  have e1 : ∀ [Inhabited Unit], IntKind.i64.wrap ((b : Int) - a) = (n : Int) := by intro _; rw [w64 (by omega) (by omega)]; omega
  simp [e1]
  refine wp_dec ?_ ?_ <;> intro g1
  · have lt := h.lt
    have nin : H.length ∉ ids v := fun hh => by have := lt _ hh; omega
    have e2 : ∀ [Inhabited Unit], IntKind.u64.wrap (n : Int) = (n : Int) := by intro _; exact w64u (by omega) (by omega)
    have e3 : ∀ [Inhabited Unit], IntKind.i64.wrap (n : Int) = (n : Int) := by intro _; exact w64 (by omega) (by omega)
    simp [e1, e2, VM.look, hF]
    refine wp_thn (pow2_w n (by omega)) ?_
    rintro _ _ ⟨rfl, m, rfl, m1, m2, m3⟩
    obtain ⟨q, hq⟩ : ∃ q, q = n / 4 := ⟨_, rfl⟩
    obtain ⟨q2, hq2⟩ : ∃ q2, q2 = q * 2 := ⟨_, rfl⟩
    obtain ⟨s, hs⟩ : ∃ s, s = a + q2 := ⟨_, rfl⟩
    have e4 : ∀ [Inhabited Unit], IntKind.i64.wrap ((n : Int) / 4) = (q : Int) := by intro _; rw [w64 (by omega) (by omega)]; omega
    have e5 : ∀ [Inhabited Unit], IntKind.i64.wrap ((q : Int) * 2) = (q2 : Int) := by intro _; rw [w64 (by omega) (by omega)]; omega
    have e6 : ∀ [Inhabited Unit], IntKind.i64.wrap ((a : Int) + q2) = (s : Int) := by intro _; rw [w64 (by omega) (by omega)]; omega
    have e7 : ∀ [Inhabited Unit], IntKind.i64.wrap ((s : Int) - 1) = ((s - 1 : Nat) : Int) := by intro _; rw [w64 (by omega) (by omega)]; omega
    have e8 : ∀ [Inhabited Unit], IntKind.i64.wrap ((s : Int) + 1) = ((s + 1 : Nat) : Int) := by intro _; rw [w64 (by omega) (by omega)]; omega
    have e9 : ∀ [Inhabited Unit], IntKind.u64.wrap ((m : Int) - 1) = ((m - 1 : Nat) : Int) := by intro _; rw [w64u (by omega) (by omega)]; omega
    simp [e1, e2, e3, e4, e5, e6, e7]
    refine wp_inv (fun c t H' => ∃ i : Nat, c = s + 2 - i ∧ s ≤ i + 1 ∧ i ≤ s + 2 ∧ t 0 = v ∧ t 1 = .int .i64 a ∧ t 6 = .int .i64 n ∧ t 7 = .pointer (some ⟨H.length, 0, some 0⟩) ∧ t 8 = .int .u64 m ∧ t 9 = .int .i64 i ∧
        BoxX H' H.length ∧ Chg (H ++ [⟨[.int .u64 n], 0, 219⟩]) H' (H.length :: ids v) ∧ ∃ ys, Sw a b xs ys ∧ Ow Fl.int e H' v ys) ?_ (n := s + 2 - (s - 1))
      ⟨s - 1, rfl, by omega, by omega, by simp, by simp, by simp, by simp, by simp, by simp, ⟨n, by simp⟩, Chg.refl _, xs, .refl, h.app⟩
    rintro c t H1 ⟨i, rfl, hi1, hi2, t0, t1, t6, t7, t8, t9, bx, ch, ys, sw, o⟩ ih
    have len := sw.len
    simp [t0, t1, t6, t7, t8, t9, e4, e5, e6, e8]
    refine wp_dec ?_ ?_ <;> intro g2
    · have p0 : i < ys.length := by omega
      simp [t0, t1, t6, t7, t8, t9]
      refine wp_thn (xnext_w H.length bx hF) ?_
      rintro _ H2 ⟨⟨z, rfl⟩, c2, bx2⟩
      have o2 := o.chg c2 (fun i hi hh => by simp at hh; subst hh; exact nin hi)
      obtain ⟨k, hk⟩ : ∃ k : Nat, iand .u64 z ((m - 1 : Nat) : Int) = k := ⟨_, (Int.toNat_of_nonneg (iand_le z (m - 1) (by omega)).1).symm⟩
      have hk2 := (iand_le z (m - 1) (by omega)).2
      rw [hk] at hk2
      have e10 : ∀ [Inhabited Unit], IntKind.i64.wrap (k : Int) = (k : Int) := by intro _; exact w64 (by omega) (by omega)
      have hk' : ∀ [Inhabited Unit], iand .u64 z ((m - 1 : Nat) : Int) = k := by intro _; exact hk
      clear hk
      simp [t0, t1, t6, t7, t8, t9, e9, hk', e10]
      refine wp_join (F := ?F) (k := ?k) (Q := ?Q) (fun t H' => ∃ d : Nat, d < n ∧ H' = H2 ∧ t 0 = v ∧ t 1 = .int .i64 a ∧ t 6 = .int .i64 n ∧ t 7 = .pointer (some ⟨H.length, 0, some 0⟩) ∧ t 8 = .int .u64 m ∧ t 9 = .int .i64 i ∧ t 10 = .int .i64 d) ?main ?rest
      case main =>
        intro rest
        refine wp_dec ?_ ?_ <;> intro g3
        · have e11 : ∀ [Inhabited Unit], IntKind.i64.wrap ((k : Int) - n) = ((k - n : Nat) : Int) := by intro _; rw [w64 (by omega) (by omega)]; omega
          simp [t0, t1, t6, t7, t8, t9, e9, hk', e10, e11]
          refine rest _ _ ?_
          exact ⟨k - n, by omega, rfl, by simp [t0], by simp [t1], by simp [t6], by simp [t7], by simp [t8], by simp [t9], by simp⟩
        · simp
          refine rest _ _ ?_
          exact ⟨k, by omega, rfl, by simp [t0], by simp [t1], by simp [t6], by simp [t7], by simp [t8], by simp [t9], by simp⟩
      case rest =>
        rintro t _ ⟨d, hd, rfl, t0, t1, t6, t7, t8, t9, t10⟩
        obtain ⟨j, hj⟩ : ∃ j, j = a + d := ⟨_, rfl⟩
        have e12 : ∀ [Inhabited Unit], IntKind.i64.wrap ((a : Int) + d) = (j : Int) := by intro _; rw [w64 (by omega) (by omega)]; omega
        have p1 : j < ys.length := by omega
        obtain ⟨H3, H4, s1, ix, s2, o4, c4, l4⟩ := ow_swap o2 p0 p1 hf
        rw [go_draw (h := by kernel_rfl)]
        simp [t0, t1, t6, t7, t8, t9, t10, e12, ow_ix o2 p0, ow_ix o2 p1, ow_ld o2 p0, ow_ld o2 p1, s1, ix _ p0, ix _ p1, s2]
        obtain ⟨sx, hsx⟩ := bx2
        have bx4 : BoxX H4 H.length := ⟨sx, box_chg hsx c4 nin⟩
        refine ih (s + 2 - (i + 1)) _ _ ⟨i + 1, rfl, by omega, by omega, by simp [t0], by simp [t1], by simp [t6], by simp [t7], by simp [t8], ?_, bx4, ?_, _, sw.step i j (by omega) (by omega), o4⟩ (by omega)
        · simp; rw [w64 (by omega) (by omega)]
        · exact ch.trans ((c2.mono (by simp)).trans (c4.mono (fun q hq => by simp [hq])))
    · simp
      exact ⟨ys, sw, o, (Chg.app (ids v)).trans' ch (fun q hq => by
        rcases List.mem_cons.1 hq with hq | hq
        · right; simp [hq]
        · exact .inl hq)⟩
  · simp
    exact ⟨xs, .refl, h, Chg.refl _⟩
end Go.Proofs.YtcigpclbhfkgaaaGreat.V
/-! Sorting: partitions. -/
set_option linter.all false
namespace Go.Proofs.YtcigpclbhfkgaaaGreat.V
open Go Go.VM Go.Proofs
set_option maxRecDepth 10000
variable {frz : Nat} {H : Heap} {v : Value} {xs : List Int} {e : TypeId}
/-- the pivot x lies at a; what is below i has P, what is above j has not -/
def Pt (ys : List Int) (a b : Nat) (x : Int) (P : Int → Prop) (i j : Nat) : Prop := G ys a = x ∧ (∀ k, a < k → k < i → P (G ys k)) ∧ ∀ k, j < k → k < b → ¬ P (G ys k)
section
variable {ys : List Int} {a b i j : Nat} {x : Int} {P : Int → Prop}
theorem Pt.incr (h : Pt ys a b x P i j) (ha : a < i) (hp : P (G ys i)) : Pt ys a b x P (i + 1) j := ⟨h.1, fun k h1 h2 => by
  by_cases hk : k = i
  · rw [hk]; exact hp
  · exact h.2.1 k h1 (by omega), h.2.2⟩
theorem Pt.decr (h : Pt ys a b x P i j) (hj : 0 < j) (hp : ¬ P (G ys j)) : Pt ys a b x P i (j - 1) := ⟨h.1, h.2.1, fun k h1 h2 => by
  by_cases hk : k = j
  · rw [hk]; exact hp
  · exact h.2.2 k (by omega) h2⟩
theorem Pt.swap (h : Pt ys a b x P i j) (ha : a < i) (hij : i < j) (hj : j < b) (hb : b ≤ ys.length) (hi : ¬ P (G ys i)) (hp : P (G ys j)) : Pt (swp ys i j) a b x P (i + 1) (j - 1) := by
  have g := fun k => G_swp (xs := ys) (i := i) (j := j) (by omega) (by omega) k
  refine ⟨?_, fun k h1 h2 => ?_, fun k h1 h2 => ?_⟩
  · rw [g, if_neg (by omega), if_neg (by omega)]; exact h.1
  · rw [g, if_neg (by omega)]
    split
    · exact hp
    · exact h.2.1 k h1 (by omega)
  · rw [g]
    split
    · exact hi
    · rw [if_neg (by omega)]; exact h.2.2 k (by omega) h2
/-- the pivot is laid between the two parts -/
theorem Pt.fin (h : Pt ys a b x P i j) (hij : i = j + 1) (ha : a < i) (hj : j < b) (hb : b ≤ ys.length) : G (swp ys j a) j = x ∧ (∀ k, a ≤ k → k < j → P (G (swp ys j a) k)) ∧ ∀ k, j < k → k < b → ¬ P (G (swp ys j a) k) := by
  have g := fun k => G_swp (xs := ys) (i := j) (j := a) (by omega) (by omega) k
  refine ⟨?_, fun k h1 h2 => ?_, fun k h1 h2 => ?_⟩
  · rw [g]
    split
    · rename_i e; rw [e]; exact h.1
    · rw [if_pos rfl]; exact h.1
  · rw [g]
    split
    · exact h.2.1 j (by omega) (by omega)
    · rw [if_neg (by omega)]; exact h.2.1 k (by omega) (by omega)
  · rw [g, if_neg (by omega), if_neg (by omega)]; exact h.2.2 k h1 h2
end
theorem partEq_w (v : Value) (xs : List Int) (e : TypeId) (a b p : Nat) (h : Ow Fl.int e H v xs) (hp : a ≤ p ∧ p < b) (hb : b ≤ xs.length) (hl : xs.length ≤ 1073741824) (hf : ∀ i ∈ ids v, frz ≤ i) :
   wp (vcall C frz 207 [v, .int .i64 a, .int .i64 b, .int .i64 p] H) (fun r H' => ∃ m : Nat, r = .int .i64 m ∧ a < m ∧ m ≤ b ∧
     Swd H v xs e a b (fun ys => (∀ k, a ≤ k → k < m → ¬ G xs p < G ys k) ∧ ∀ k, m ≤ k → k < b → G xs p < G ys k) H') := by
  rw [vcall_go (fn := Tryz.f207) Tryz.func207 rfl (by kernel_rfl) rfl]
  obtain ⟨x, hx⟩ : ∃ x, x = G xs p := ⟨_, rfl⟩
  obtain ⟨i0, hi0⟩ : ∃ i0, i0 = a + 1 := ⟨_, rfl⟩
  obtain ⟨j0, hj0⟩ : ∃ j0, j0 = b - 1 := ⟨_, rfl⟩
  have e2 : ∀ [Inhabited Unit], IntKind.i64.wrap ((a : Int) + 1) = (i0 : Int) := by intro _; rw [w64 (by omega) (by omega)]; omega
  have e3 : ∀ [Inhabited Unit], IntKind.i64.wrap ((b : Int) - 1) = (j0 : Int) := by intro _; rw [w64 (by omega) (by omega)]; omega
  have p0 : a < xs.length := by omega
  have p1 : p < xs.length := by omega
  simp
  rw [go_draw (h := by kernel_rfl)]
  obtain ⟨H1, H2, s1, ix, s2, o2, c2, l2⟩ := ow_swap h p0 p1 hf
  simp [ow_ix h p0, ow_ix h p1, ow_ld h p0, ow_ld h p1, s1, ix _ p0, ix _ p1, s2, e2, e3]
  have pt0 : Pt (swp xs a p) a b x (fun y => ¬ x < y) i0 j0 := by
    refine ⟨?_, fun k h1 h2 => by omega, fun k h1 h2 => by omega⟩
    rw [G_swp p0 p1, hx]
    split
    · rename_i e; rw [e]
    · rw [if_pos rfl]
  have sw0 : Sw a b xs (swp xs a p) := Sw.refl.step a p (by omega) (by omega)
  refine wp_inv (fun c t H' => ∃ i j : Nat, c = j + 1 - i ∧ t 0 = v ∧ t 1 = .int .i64 a ∧ t 9 = .int .i64 i ∧ t 10 = .int .i64 j ∧ a < i ∧ i ≤ j + 1 ∧ j < b ∧ Swd H v xs e a b (fun ys => Pt ys a b x (fun y => ¬ x < y) i j) H') ?_ (n := j0 + 1 - i0)
    ⟨i0, j0, rfl, by simp, by simp, by simp, by simp, by omega, by omega, by omega, _, sw0, pt0, o2, c2, l2⟩
  rw [← hx]
  clear pt0 sw0 o2 s1 s2 ix c2 l2 p0 p1
  rintro c t H' ⟨i, j, rfl, h0, h1, hi, hj, hai, hij, hjb, ys, sw, pt, o, c, l⟩ ih
  have len := sw.len
  have p0 : a < ys.length := by omega
  simp [h0, h1, hi, hj]
  obtain ⟨il, hil⟩ : ∃ il, il = i := ⟨_, rfl⟩
  have hai' : il ≤ i ∧ a < i := ⟨by omega, hai⟩
  refine wp_join (F := ?F1) (k := ?k1) (Q := ?Q1) (fun t H1 => ∃ i : Nat, t 0 = v ∧ t 1 = .int .i64 a ∧ t 9 = .int .i64 i ∧ t 10 = .int .i64 j ∧ (il ≤ i ∧ a < i) ∧ i ≤ j + 1 ∧ (i = j + 1 ∨ (i ≤ j ∧ ¬ (fun y => ¬ x < y) (G ys i))) ∧ H' = H1 ∧ Pt ys a b x (fun y => ¬ x < y) i j) ?main1 ?rest1
  case main1 =>
    intro rest
    refine wp_inv (fun c t H1 => ∃ i : Nat, c = j + 1 - i ∧ t 0 = v ∧ t 1 = .int .i64 a ∧ t 9 = .int .i64 i ∧ t 10 = .int .i64 j ∧ (il ≤ i ∧ a < i) ∧ i ≤ j + 1 ∧ H' = H1 ∧ Pt ys a b x (fun y => ¬ x < y) i j) ?_ (n := j + 1 - i)
      ⟨i, rfl, by simp [h0], by simp [h1], by simp [hi], by simp [hj], hai', hij, rfl, pt⟩
    rintro c t _ ⟨i, rfl, h0, h1, hi, hj, hai', hij, rfl, pt⟩ ih2
    have hai := hai'.2
    simp [h0, h1, hi, hj]
    rw [go_draw (h := by kernel_rfl)]
    simp [h0, h1, hi, hj]
    refine wpg_dec ?_ ?_ <;> intro g1
    · have p1 : i < ys.length := by omega
      simp [h0, h1, hi, hj, g1, ow_ix o p0, ow_ix o p1, ow_ld o p0, ow_ld o p1, less_c]
      refine wp_dec ?_ ?_ <;> intro g2
      · simp [h0, h1, hi, hj]
        refine rest _ _ ?_
        exact ⟨i, by simp [h0], by simp [h1], by simp [hi], by simp [hj], hai', by omega, .inr ⟨by omega, by have := pt.1; show ¬ (¬ x < G ys i); omega⟩, rfl, pt⟩
      · simp [h0, h1, hi, hj]
        refine ih2 (j + 1 - (i + 1)) _ _ ⟨i + 1, rfl, by simp [h0], by simp [h1], ?_, by simp [hj], by omega, by omega, rfl, pt.incr hai (by have := pt.1; show ¬ x < G ys i; omega)⟩ (by omega)
        simp; rw [w64 (by omega) (by omega)]
    · simp [h0, h1, hi, hj, g1]
      refine rest _ _ ?_
      exact ⟨i, by simp [h0], by simp [h1], by simp [hi], by simp [hj], hai', hij, .inl (by omega), rfl, pt⟩
  case rest1 =>
    rintro t _ ⟨i, h0, h1, hi, hj, hai', hij, hex, rfl, pt⟩
    have hai := hai'.2
    refine wp_inv (fun c t H1 => ∃ j' : Nat, c = j' + 1 - i ∧ t 0 = v ∧ t 1 = .int .i64 a ∧ t 9 = .int .i64 i ∧ t 10 = .int .i64 j' ∧ j' ≤ j ∧ i ≤ j' + 1 ∧ H' = H1 ∧ Pt ys a b x (fun y => ¬ x < y) i j') ?_ (n := j + 1 - i)
      ⟨j, rfl, by simp [h0], by simp [h1], by simp [hi], by simp [hj], Nat.le_refl _, hij, rfl, pt⟩
    have hex' : i < j + 1 → ¬ (fun y => ¬ x < y) (G ys i) := fun hh => by rcases hex with hex | hex; omega; exact hex.2
    have hjb0 := hjb
    rintro c t _ ⟨j', rfl, h0, h1, hi, hj, hjj', hij, rfl, pt⟩ ih2
    have hjb : j' < b := by omega
    simp [h0, h1, hi, hj]
    rw [go_draw (h := by kernel_rfl)]
    simp [h0, h1, hi, hj]
    refine wpg_dec ?_ ?_ <;> intro g1
    · have p1 : j' < ys.length := by omega
      simp [h0, h1, hi, hj, g1, ow_ix o p0, ow_ix o p1, ow_ld o p0, ow_ld o p1, less_c]
      refine wp_dec ?_ ?_ <;> intro g2
      · simp [h0, h1, hi, hj]
        refine ih2 (j' - 1 + 1 - i) _ _ ⟨j' - 1, rfl, by simp [h0], by simp [h1], by simp [hi], ?_, by omega, by omega, rfl, pt.decr (by omega) (by have := pt.1; show ¬ (¬ x < G ys j'); omega)⟩ (by omega)
        simp; rw [w64 (by omega) (by omega)]; omega
      · simp [h0, h1, hi, hj]
        have hnj : ¬ j' < i := by omega
        simp [hnj]
        have p2 : i < ys.length := by omega
        have hlo : (fun y => ¬ x < y) (G ys j') := by have := pt.1; show ¬ x < G ys j'; omega
        rw [go_draw (h := by kernel_rfl)]
        obtain ⟨H3, H4, s3, ix3, s4, o4, c4, l4⟩ := ow_swap o p2 p1 hf
        simp [h0, h1, hi, hj, ow_ix o p2, ow_ix o p1, ow_ld o p2, ow_ld o p1, s3, ix3 _ p2, ix3 _ p1, s4]
        have hlt : i < j' := by
          rcases Nat.lt_or_ge i j' with q | q
          · exact q
          · have q2 : i = j' := by omega
            exact absurd (q2 ▸ hlo) (hex' (by omega))
        refine ih (j' - 1 + 1 - (i + 1)) _ _ ⟨i + 1, j' - 1, rfl, by simp [h0], by simp [h1], ?_, ?_, by omega, by omega, by omega, _, sw.step i j' (by omega) (by omega), pt.swap hai hlt hjb (by omega) (hex' (by omega)) hlo, o4, c.trans c4, by omega⟩ (by omega)
        · simp; rw [w64 (by omega) (by omega)]
        · simp; rw [w64 (by omega) (by omega)]; omega
    · have hij' : i = j' + 1 := by omega
      have hji : j' < i := by omega
      simp [h0, h1, hi, hj, g1, hji]
      refine ⟨i, rfl, by omega, by omega, ys, sw, ⟨fun k k1 k2 => ?_, fun k k1 k2 => ?_⟩, o, c, l⟩
      · by_cases hk : k = a
        · have := pt.1; rw [hk]; omega
        · have q : ¬ x < G ys k := pt.2.1 k (by omega) k2
          omega
      · have q : ¬ ¬ x < G ys k := pt.2.2 k (by omega) k2
        omega
theorem part_w (v : Value) (xs : List Int) (e : TypeId) (a b p : Nat) (h : Ow Fl.int e H v xs) (hp : a ≤ p ∧ p < b) (hb : b ≤ xs.length) (hl : xs.length ≤ 1073741824) (hf : ∀ i ∈ ids v, frz ≤ i) :
   wp (vcall C frz 208 [v, .int .i64 a, .int .i64 b, .int .i64 p] H) (fun r H' => ∃ (m : Nat) (d : Bool), r = .tuple #[.int .i64 m, .bool d] ∧ a ≤ m ∧ m < b ∧
     Swd H v xs e a b (fun ys => (∀ k, a ≤ k → k < m → G ys k < G ys m) ∧ ∀ k, m < k → k < b → G ys m ≤ G ys k) H') := by
  rw [vcall_go (fn := Tryz.f208) Tryz.func208 rfl (by kernel_rfl) rfl]
  obtain ⟨x, hx⟩ : ∃ x, x = G xs p := ⟨_, rfl⟩
  obtain ⟨i0, hi0⟩ : ∃ i0, i0 = a + 1 := ⟨_, rfl⟩
  obtain ⟨j0, hj0⟩ : ∃ j0, j0 = b - 1 := ⟨_, rfl⟩
  have e2 : ∀ [Inhabited Unit], IntKind.i64.wrap ((a : Int) + 1) = (i0 : Int) := by intro _; rw [w64 (by omega) (by omega)]; omega
  have e3 : ∀ [Inhabited Unit], IntKind.i64.wrap ((b : Int) - 1) = (j0 : Int) := by intro _; rw [w64 (by omega) (by omega)]; omega
  have p0 : a < xs.length := by omega
  have p1 : p < xs.length := by omega
  simp
  rw [go_draw (h := by kernel_rfl)]
  obtain ⟨H1, H2, s1, ix, s2, o2, c2, l2⟩ := ow_swap h p0 p1 hf
  simp [ow_ix h p0, ow_ix h p1, ow_ld h p0, ow_ld h p1, s1, ix _ p0, ix _ p1, s2, e2, e3]
  have pt0 : Pt (swp xs a p) a b x (fun y => y < x) i0 j0 := by
    refine ⟨?_, fun k h1 h2 => by omega, fun k h1 h2 => by omega⟩
    rw [G_swp p0 p1, hx]
    split
    · rename_i e; rw [e]
    · rw [if_pos rfl]
  have sw0 : Sw a b xs (swp xs a p) := Sw.refl.step a p (by omega) (by omega)
  obtain ⟨ys, sw, o, c, l, pt⟩ : ∃ ys, Sw a b xs ys ∧ Ow Fl.int e H2 v ys ∧ Chg H H2 (ids v) ∧ H2.length = H.length ∧ Pt ys a b x (fun y => y < x) i0 j0 := ⟨_, sw0, o2, c2, l2, pt0⟩
  obtain ⟨i, hii⟩ : ∃ i, i0 = i := ⟨_, rfl⟩
  obtain ⟨j, hjj⟩ : ∃ j, j0 = j := ⟨_, rfl⟩
  rw [hii] at pt ⊢
  rw [hjj] at pt ⊢
  have hai : a < i := by omega
  have hij : i ≤ j + 1 := by omega
  have hjb : j < b := by omega
  clear pt0 sw0 o2 s1 s2 ix c2 l2 p0 p1
  have len := sw.len
  have p0 : a < ys.length := by omega
  refine wp_join (F := ?F) (k := ?k) (Q := ?Q) (fun t H1 => H2 = H1 ∧ t 0 = v ∧ t 1 = .int .i64 a ∧ t 10 = .int .i64 i ∧ t 11 = .int .i64 j) ?main ?rest
  case main => intro rest; refine rest _ _ ?_; exact ⟨rfl, by simp, by simp, by simp, by simp⟩
  case rest =>
   rintro t H' ⟨rfl, h0, h1, hi, hj⟩
   obtain ⟨H', hH⟩ : ∃ H', H' = H2 := ⟨_, rfl⟩
   subst hH
   obtain ⟨il, hil⟩ : ∃ il, il = i := ⟨_, rfl⟩
   have hai' : il ≤ i ∧ a < i := ⟨by omega, hai⟩
   refine wp_join (F := ?F3) (k := ?k3) (Q := ?Q3) (fun t H1 => ∃ i : Nat, t 0 = v ∧ t 1 = .int .i64 a ∧ t 10 = .int .i64 i ∧ t 11 = .int .i64 j ∧ (il ≤ i ∧ a < i) ∧ i ≤ j + 1 ∧ (i = j + 1 ∨ (i ≤ j ∧ ¬ (fun y => y < x) (G ys i))) ∧ H' = H1 ∧ Pt ys a b x (fun y => y < x) i j) ?main3 ?rest3
   case main3 =>
     intro rest
     refine wp_inv (fun c t H1 => ∃ i : Nat, c = j + 1 - i ∧ t 0 = v ∧ t 1 = .int .i64 a ∧ t 10 = .int .i64 i ∧ t 11 = .int .i64 j ∧ (il ≤ i ∧ a < i) ∧ i ≤ j + 1 ∧ H' = H1 ∧ Pt ys a b x (fun y => y < x) i j) ?_ (n := j + 1 - i)
       ⟨i, rfl, by simp [h0], by simp [h1], by simp [hi], by simp [hj], hai', hij, rfl, pt⟩
     rintro c t _ ⟨i, rfl, h0, h1, hi, hj, hai', hij, rfl, pt⟩ ih2
     have hai := hai'.2
     simp [h0, h1, hi, hj]
     rw [go_draw (h := by kernel_rfl)]
     simp [h0, h1, hi, hj]
     refine wpg_dec ?_ ?_ <;> intro g1
     · have p1 : i < ys.length := by omega
       simp [h0, h1, hi, hj, g1, ow_ix o p0, ow_ix o p1, ow_ld o p0, ow_ld o p1, less_c]
       refine wp_dec ?_ ?_ <;> intro g2
       · simp [h0, h1, hi, hj]
         refine ih2 (j + 1 - (i + 1)) _ _ ⟨i + 1, rfl, by simp [h0], by simp [h1], ?_, by simp [hj], by omega, by omega, rfl, pt.incr hai (by have := pt.1; show G ys i < x; omega)⟩ (by omega)
         simp; rw [w64 (by omega) (by omega)]
       · simp [h0, h1, hi, hj]
         refine rest _ _ ?_
         exact ⟨i, by simp [h0], by simp [h1], by simp [hi], by simp [hj], hai', by omega, .inr ⟨by omega, by have := pt.1; show ¬ (G ys i < x); omega⟩, rfl, pt⟩
     · simp [h0, h1, hi, hj, g1]
       refine rest _ _ ?_
       exact ⟨i, by simp [h0], by simp [h1], by simp [hi], by simp [hj], hai', hij, .inl (by omega), rfl, pt⟩
   case rest3 =>
     rintro t _ ⟨i, h0, h1, hi, hj, hai', hij, hex, rfl, pt⟩
     have hai := hai'.2
     refine wp_inv (fun c t H1 => ∃ j' : Nat, c = j' + 1 - i ∧ t 0 = v ∧ t 1 = .int .i64 a ∧ t 10 = .int .i64 i ∧ t 11 = .int .i64 j' ∧ j' ≤ j ∧ i ≤ j' + 1 ∧ H' = H1 ∧ Pt ys a b x (fun y => y < x) i j') ?_ (n := j + 1 - i)
       ⟨j, rfl, by simp [h0], by simp [h1], by simp [hi], by simp [hj], Nat.le_refl _, hij, rfl, pt⟩
     have hex' : i < j + 1 → ¬ (fun y => y < x) (G ys i) := fun hh => by rcases hex with hex | hex; omega; exact hex.2
     have hjb0 := hjb
     rintro c t _ ⟨j', rfl, h0, h1, hi, hj, hjj', hij, rfl, pt⟩ ih2
     have hjb : j' < b := by omega
     simp [h0, h1, hi, hj]
     rw [go_draw (h := by kernel_rfl)]
     simp [h0, h1, hi, hj]
     refine wpg_dec ?_ ?_ <;> intro g1
     · have p1 : j' < ys.length := by omega
       simp [h0, h1, hi, hj, g1, ow_ix o p0, ow_ix o p1, ow_ld o p0, ow_ld o p1, less_c]
       refine wp_dec ?_ ?_ <;> intro g2
       · simp [h0, h1, hi, hj]
         have hnj : ¬ j' < i := by omega
         simp [hnj]
         have p2 : i < ys.length := by omega
         have hlo : (fun y => y < x) (G ys j') := by have := pt.1; show G ys j' < x; omega
         rw [go_draw (h := by kernel_rfl)]
         obtain ⟨H3, H4, s3, ix3, s4, o4, c4, l4⟩ := ow_swap o p2 p1 hf
         simp [h0, h1, hi, hj, ow_ix o p2, ow_ix o p1, ow_ld o p2, ow_ld o p1, s3, ix3 _ p2, ix3 _ p1, s4]
         have hlt : i < j' := by
           rcases Nat.lt_or_ge i j' with q | q
           · exact q
           · have q2 : i = j' := by omega
             exact absurd (q2 ▸ hlo) (hex' (by omega))
         refine wp_inv (fun c t H' => ∃ i j : Nat, c = j + 1 - i ∧ t 0 = v ∧ t 1 = .int .i64 a ∧ t 10 = .int .i64 i ∧ t 11 = .int .i64 j ∧ a < i ∧ i ≤ j + 1 ∧ j < b ∧ Swd H v xs e a b (fun ys => Pt ys a b x (fun y => y < x) i j) H') ?_ (n := j' - 1 + 1 - (i + 1))
           ⟨i + 1, j' - 1, rfl, by simp [h0], by simp [h1], by simp; rw [w64 (by omega) (by omega)], by simp; rw [w64 (by omega) (by omega)]; omega, by omega, by omega, by omega, _, sw.step i j' (by omega) (by omega), pt.swap hai hlt hjb (by omega) (hex' (by omega)) hlo, o4, c.trans c4, by omega⟩
         rintro c t H' ⟨i, j, rfl, h0, h1, hi, hj, hai, hij, hjb, ys, sw, pt, o, c, l⟩ ih
         have len := sw.len
         have p0 : a < ys.length := by omega
         simp [h0, h1, hi, hj]
         obtain ⟨il, hil⟩ : ∃ il, il = i := ⟨_, rfl⟩
         have hai' : il ≤ i ∧ a < i := ⟨by omega, hai⟩
         refine wp_join (F := ?F32) (k := ?k2) (Q := ?Q32) (fun t H1 => ∃ i : Nat, t 0 = v ∧ t 1 = .int .i64 a ∧ t 10 = .int .i64 i ∧ t 11 = .int .i64 j ∧ (il ≤ i ∧ a < i) ∧ i ≤ j + 1 ∧ (i = j + 1 ∨ (i ≤ j ∧ ¬ (fun y => y < x) (G ys i))) ∧ H' = H1 ∧ Pt ys a b x (fun y => y < x) i j) ?main32 ?rest32
         case main32 =>
           intro rest
           refine wp_inv (fun c t H1 => ∃ i : Nat, c = j + 1 - i ∧ t 0 = v ∧ t 1 = .int .i64 a ∧ t 10 = .int .i64 i ∧ t 11 = .int .i64 j ∧ (il ≤ i ∧ a < i) ∧ i ≤ j + 1 ∧ H' = H1 ∧ Pt ys a b x (fun y => y < x) i j) ?_ (n := j + 1 - i)
             ⟨i, rfl, by simp [h0], by simp [h1], by simp [hi], by simp [hj], hai', hij, rfl, pt⟩
           rintro c t _ ⟨i, rfl, h0, h1, hi, hj, hai', hij, rfl, pt⟩ ih2
           have hai := hai'.2
           simp [h0, h1, hi, hj]
           rw [go_draw (h := by kernel_rfl)]
           simp [h0, h1, hi, hj]
           refine wpg_dec ?_ ?_ <;> intro g1
           · have p1 : i < ys.length := by omega
             simp [h0, h1, hi, hj, g1, ow_ix o p0, ow_ix o p1, ow_ld o p0, ow_ld o p1, less_c]
             refine wp_dec ?_ ?_ <;> intro g2
             · simp [h0, h1, hi, hj]
               refine ih2 (j + 1 - (i + 1)) _ _ ⟨i + 1, rfl, by simp [h0], by simp [h1], ?_, by simp [hj], by omega, by omega, rfl, pt.incr hai (by have := pt.1; show G ys i < x; omega)⟩ (by omega)
               simp; rw [w64 (by omega) (by omega)]
             · simp [h0, h1, hi, hj]
               refine rest _ _ ?_
               exact ⟨i, by simp [h0], by simp [h1], by simp [hi], by simp [hj], hai', by omega, .inr ⟨by omega, by have := pt.1; show ¬ (G ys i < x); omega⟩, rfl, pt⟩
           · simp [h0, h1, hi, hj, g1]
             refine rest _ _ ?_
             exact ⟨i, by simp [h0], by simp [h1], by simp [hi], by simp [hj], hai', hij, .inl (by omega), rfl, pt⟩
         case rest32 =>
           rintro t _ ⟨i, h0, h1, hi, hj, hai', hij, hex, rfl, pt⟩
           have hai := hai'.2
           refine wp_inv (fun c t H1 => ∃ j' : Nat, c = j' + 1 - i ∧ t 0 = v ∧ t 1 = .int .i64 a ∧ t 10 = .int .i64 i ∧ t 11 = .int .i64 j' ∧ j' ≤ j ∧ i ≤ j' + 1 ∧ H' = H1 ∧ Pt ys a b x (fun y => y < x) i j') ?_ (n := j + 1 - i)
             ⟨j, rfl, by simp [h0], by simp [h1], by simp [hi], by simp [hj], Nat.le_refl _, hij, rfl, pt⟩
           have hex' : i < j + 1 → ¬ (fun y => y < x) (G ys i) := fun hh => by rcases hex with hex | hex; omega; exact hex.2
           have hjb0 := hjb
           rintro c t _ ⟨j', rfl, h0, h1, hi, hj, hjj', hij, rfl, pt⟩ ih2
           have hjb : j' < b := by omega
           simp [h0, h1, hi, hj]
           rw [go_draw (h := by kernel_rfl)]
           simp [h0, h1, hi, hj]
           refine wpg_dec ?_ ?_ <;> intro g1
           · have p1 : j' < ys.length := by omega
             simp [h0, h1, hi, hj, g1, ow_ix o p0, ow_ix o p1, ow_ld o p0, ow_ld o p1, less_c]
             refine wp_dec ?_ ?_ <;> intro g2
             · simp [h0, h1, hi, hj]
               have hnj : ¬ j' < i := by omega
               simp [hnj]
               have p2 : i < ys.length := by omega
               have hlo : (fun y => y < x) (G ys j') := by have := pt.1; show G ys j' < x; omega
               rw [go_draw (h := by kernel_rfl)]
               obtain ⟨H3, H4, s3, ix3, s4, o4, c4, l4⟩ := ow_swap o p2 p1 hf
               simp [h0, h1, hi, hj, ow_ix o p2, ow_ix o p1, ow_ld o p2, ow_ld o p1, s3, ix3 _ p2, ix3 _ p1, s4]
               have hlt : i < j' := by
                 rcases Nat.lt_or_ge i j' with q | q
                 · exact q
                 · have q2 : i = j' := by omega
                   exact absurd (q2 ▸ hlo) (hex' (by omega))
               refine ih (j' - 1 + 1 - (i + 1)) _ _ ⟨i + 1, j' - 1, rfl, by simp [h0], by simp [h1], ?_, ?_, by omega, by omega, by omega, _, sw.step i j' (by omega) (by omega), pt.swap hai hlt hjb (by omega) (hex' (by omega)) hlo, o4, c.trans c4, by omega⟩ (by omega)
               · simp; rw [w64 (by omega) (by omega)]
               · simp; rw [w64 (by omega) (by omega)]; omega
             · simp [h0, h1, hi, hj]
               refine ih2 (j' - 1 + 1 - i) _ _ ⟨j' - 1, rfl, by simp [h0], by simp [h1], by simp [hi], ?_, by omega, by omega, rfl, pt.decr (by omega) (by have := pt.1; show ¬ (G ys j' < x); omega)⟩ (by omega)
               simp; rw [w64 (by omega) (by omega)]; omega
           · have hij' : i = j' + 1 := by omega
             have hji : j' < i := by omega
             simp [h0, h1, hi, hj, g1, hji]
             have p3 : j' < ys.length := by omega
             rw [go_draw (h := by kernel_rfl)]
             obtain ⟨H3, H4, s3, ix3, s4, o4, c4, l4⟩ := ow_swap o p3 p0 hf
             simp [h0, h1, hi, hj, ow_ix o p3, ow_ix o p0, ow_ld o p3, ow_ld o p0, s3, ix3 _ p3, ix3 _ p0, s4]
             obtain ⟨f1, f2, f3⟩ := pt.fin hij' hai hjb (by omega)
             exact ⟨j', rfl, by omega, by omega, _, sw.step j' a (by omega) (by omega), ⟨fun k k1 k2 => by have := f2 k k1 k2; rw [f1]; exact this, fun k k1 k2 => by have := f3 k k1 k2; rw [f1]; omega⟩, o4, c.trans c4, by omega⟩
       · simp [h0, h1, hi, hj]
         refine ih2 (j' - 1 + 1 - i) _ _ ⟨j' - 1, rfl, by simp [h0], by simp [h1], by simp [hi], ?_, by omega, by omega, rfl, pt.decr (by omega) (by have := pt.1; show ¬ (G ys j' < x); omega)⟩ (by omega)
         simp; rw [w64 (by omega) (by omega)]; omega
     · have hij' : i = j' + 1 := by omega
       have hji : j' < i := by omega
       simp [h0, h1, hi, hj, g1, hji]
       have p3 : j' < ys.length := by omega
       rw [go_draw (h := by kernel_rfl)]
       obtain ⟨H3, H4, s3, ix3, s4, o4, c4, l4⟩ := ow_swap o p3 p0 hf
       simp [h0, h1, hi, hj, ow_ix o p3, ow_ix o p0, ow_ld o p3, ow_ld o p0, s3, ix3 _ p3, ix3 _ p0, s4]
       obtain ⟨f1, f2, f3⟩ := pt.fin hij' hai hjb (by omega)
       exact ⟨j', rfl, by omega, by omega, _, sw.step j' a (by omega) (by omega), ⟨fun k k1 k2 => by have := f2 k k1 k2; rw [f1]; exact this, fun k k1 k2 => by have := f3 k k1 k2; rw [f1]; omega⟩, o4, c.trans c4, by omega⟩
end Go.Proofs.YtcigpclbhfkgaaaGreat.V
/-! Sorting: short insertion sort. -/
set_option linter.all false
namespace Go.Proofs.YtcigpclbhfkgaaaGreat.V
open Go Go.VM Go.Proofs
set_option maxRecDepth 10000
variable {frz : Nat} {H : Heap} {v : Value} {xs : List Int} {e : TypeId}
theorem Srt.snoc {ys : List Int} {a i : Nat} (h : Srt ys a i) (hi : a < i → G ys (i - 1) ≤ G ys i) : Srt ys a (i + 1) := fun p q h1 h2 h3 => by
  by_cases hq : q = i
  · rw [hq]
    have hlt : a < i := by omega
    have := hi hlt
    by_cases hp : p = i - 1
    · rw [hp]; exact this
    · have := h p (i - 1) h1 (by omega) (by omega); omega
  · exact h p q h1 h2 (by omega)
theorem partIns_w (v : Value) (xs : List Int) (e : TypeId) (a b : Nat) (h : Ow Fl.int e H v xs) (hab : a < b) (hb : b ≤ xs.length) (hl : xs.length ≤ 1073741824) (hlo : 0 < a → ∀ k, a ≤ k → k < b → G xs (a - 1) ≤ G xs k) (hf : ∀ i ∈ ids v, frz ≤ i) :
   wp (vcall C frz 205 [v, .int .i64 a, .int .i64 b] H) (fun r H' => ∃ d : Bool, r = .bool d ∧ Swd H v xs e a b (fun ys => d = true → Srt ys a b) H') := by
  rw [vcall_go (fn := Tryz.f205) Tryz.func205 rfl (by kernel_rfl) rfl]
  obtain ⟨i0, hi0⟩ : ∃ i0, i0 = a + 1 := ⟨_, rfl⟩
  have e2 : ∀ [Inhabited Unit], IntKind.i64.wrap ((a : Int) + 1) = (i0 : Int) := by intro _; rw [w64 (by omega) (by omega)]; omega
  simp [e2]
  refine wp_inv (fun c t H' => ∃ i s : Nat, c = 5 - s ∧ s ≤ 5 ∧ t 0 = v ∧ t 1 = .int .i64 a ∧ t 2 = .int .i64 b ∧ t 7 = .int .i64 i ∧ t 8 = .int .i64 s ∧ a < i ∧ i ≤ b ∧ Swd H v xs e a b (fun ys => Srt ys a i) H') ?_ (n := 5)
    ⟨i0, 0, rfl, by omega, by simp, by simp, by simp, by simp, by simp, by omega, by omega, xs, .refl, Srt.short (by omega), h, Chg.refl _, rfl⟩
  rintro c t H' ⟨i, s, rfl, hs, h0, h1, h2, h7, h8, hai, hib, ys, sw, sr, o, c, l⟩ ih
  have len := sw.len
  simp [h0, h1, h2, h7, h8]
  refine wp_dec ?_ ?_ <;> intro g0
  · simp [h0, h1, h2, h7, h8]
    refine wp_joinb (F := ?F) (k1 := ?k1) (k2 := ?k2) (Q := ?Q) (fun c t H1 => ∃ i : Nat, c = .bool (decide ((i : Int) = b)) ∧ H' = H1 ∧ t 0 = v ∧ t 1 = .int .i64 a ∧ t 2 = .int .i64 b ∧ t 7 = .int .i64 i ∧ t 8 = .int .i64 s ∧ a < i ∧ i ≤ b ∧ Srt ys a i) ?main ?rest
    case main =>
      intro rest
      refine wp_inv (fun c t H1 => ∃ i : Nat, c = b - i ∧ H' = H1 ∧ t 0 = v ∧ t 1 = .int .i64 a ∧ t 2 = .int .i64 b ∧ t 7 = .int .i64 i ∧ t 8 = .int .i64 s ∧ a < i ∧ i ≤ b ∧ Srt ys a i) ?_ (n := b - i)
        ⟨i, rfl, rfl, by simp [h0], by simp [h1], by simp [h2], by simp [h7], by simp [h8], hai, hib, sr⟩
      rintro c t _ ⟨i, rfl, rfl, h0, h1, h2, h7, h8, hai, hib, sr⟩ ih2
      have e3 : ∀ [Inhabited Unit], IntKind.i64.wrap ((i : Int) - 1) = ((i - 1 : Nat) : Int) := by intro _; rw [w64 (by omega) (by omega)]; omega
      simp [h0, h1, h2, h7, h8]
      rw [go_draw (h := by kernel_rfl)]
      simp [h0, h1, h2, h7, h8]
      refine wpg_dec ?_ ?_ <;> intro g1
      · have p1 : i < ys.length := by omega
        have p2 : i - 1 < ys.length := by omega
        simp [h0, h1, h2, h7, h8, g1, e3, ow_ix o p1, ow_ix o p2, ow_ld o p1, ow_ld o p2, less_c]
        refine wp_dec ?_ ?_ <;> intro g2
        · simp [h0, h1, h2, h7, h8]
          refine rest _ _ _ ?_
          exact ⟨i, rfl, rfl, by simp [h0], by simp [h1], by simp [h2], by simp [h7], by simp [h8], hai, hib, sr⟩
        · simp [h0, h1, h2, h7, h8]
          refine ih2 (b - (i + 1)) _ _ ⟨i + 1, rfl, rfl, by simp [h0], by simp [h1], by simp [h2], ?_, by simp [h8], by omega, by omega, sr.snoc (fun _ => by omega)⟩ (by omega)
          simp; rw [w64 (by omega) (by omega)]
      · simp [h0, h1, h2, h7, h8, g1]
        refine rest _ _ _ ?_
        exact ⟨i, rfl, rfl, by simp [h0], by simp [h1], by simp [h2], by simp [h7], by simp [h8], hai, hib, sr⟩
    case rest =>
      rintro _ t _ ⟨i, rfl, rfl, h0, h1, h2, h7, h8, hai, hib, sr⟩
      obtain ⟨n, hn⟩ : ∃ n, n = b - a := ⟨_, rfl⟩
      obtain ⟨m, hm⟩ : ∃ m, m = i - a := ⟨_, rfl⟩
      obtain ⟨r, hr⟩ : ∃ r, r = b - i := ⟨_, rfl⟩
      have e4 : ∀ [Inhabited Unit], IntKind.i64.wrap ((b : Int) - a) = (n : Int) := by intro _; rw [w64 (by omega) (by omega)]; omega
      have e5 : ∀ [Inhabited Unit], IntKind.i64.wrap ((i : Int) - a) = (m : Int) := by intro _; rw [w64 (by omega) (by omega)]; omega
      have e6 : ∀ [Inhabited Unit], IntKind.i64.wrap ((b : Int) - i) = (r : Int) := by intro _; rw [w64 (by omega) (by omega)]; omega
      have e3 : ∀ [Inhabited Unit], IntKind.i64.wrap ((i : Int) - 1) = ((i - 1 : Nat) : Int) := by intro _; rw [w64 (by omega) (by omega)]; omega
      refine wp_dec ?_ ?_ <;> intro g1
      · simp
        have hib : i = b := by omega
        exact ⟨ys, sw, hib ▸ sr, o, c, l⟩
      · simp [h0, h1, h2, h7, h8, e4]
        refine wp_dec ?_ ?_ <;> intro g2
        · simp
          exact ⟨ys, sw, trivial, o, c, l⟩
        · have p1 : i < ys.length := by omega
          have p2 : i - 1 < ys.length := by omega
          simp [h0, h1, h2, h7, h8]
          rw [go_draw (h := by kernel_rfl)]
          obtain ⟨H3, H4, s3, ix3, s4, o4, c4, l4⟩ := ow_swap o p1 p2 hf
          simp [h0, h1, h2, h7, h8, e3, e5, ow_ix o p1, ow_ix o p2, ow_ld o p1, ow_ld o p2, s3, ix3 _ p1, ix3 _ p2, s4]
          have sw4 := sw.step i (i - 1) (by omega) (by omega)
          have sr4 : Srt (swp ys i (i - 1)) a (i - 1) := Srt.frame (fun p q q1 q2 q3 => sr p q q1 q2 (by omega)) (fun k k1 k2 => by rw [G_swp p1 p2, if_neg (by omega), if_neg (by omega)])
          have c5 := c.trans c4
          have l5 : H4.length = H.length := by omega
          generalize swp ys i (i - 1) = zs at *
          refine wp_joinb (F := ?F2) (k1 := ?k12) (k2 := ?k22) (Q := ?Q2) (fun c t H1 => c = .bool (decide (2 ≤ (r : Int))) ∧ t 0 = v ∧ t 1 = .int .i64 a ∧ t 2 = .int .i64 b ∧ t 7 = .int .i64 i ∧ t 8 = .int .i64 s ∧ Swd H v xs e a b (fun ys => Srt ys a i) H1) ?main2 ?rest2
          case main2 =>
            intro rest2
            refine wp_dec ?_ ?_ <;> intro g3
            · simp [h0, h1, h2, h7, h8, e3]
              refine wp_inv (fun c t H1 => ∃ j : Nat, c = j ∧ t 0 = v ∧ t 1 = .int .i64 a ∧ t 2 = .int .i64 b ∧ t 7 = .int .i64 i ∧ t 8 = .int .i64 s ∧ t 9 = .int .i64 j ∧ a ≤ j ∧ j ≤ i - 1 ∧ Swd H v xs e a b (fun ys => Ins ys a (i - 1) j) H1) ?_ (n := i - 1)
                ⟨i - 1, rfl, by simp [h0], by simp [h1], by simp [h2], by simp [h7], by simp [h8], by simp, by omega, by omega, zs, sw4, Ins.start sr4, o4, c5, l5⟩
              rintro j t H1 ⟨_, rfl, h0, h1, h2, h7, h8, h9, haj, hji, ws, sw, ins, o, c, l⟩ ih2
              have len := sw.len
              have e7 : ∀ [Inhabited Unit], IntKind.i64.wrap ((j : Int) - 1) = ((j - 1 : Nat) : Int) ∨ j = 0 := by
                intro _
                by_cases hj : j = 0
                · exact .inr hj
                · left; rw [w64 (by omega) (by omega)]; omega
              simp [h0, h1, h2, h7, h8, h9]
              refine wp_dec ?_ ?_ <;> intro g4
              · have e7 : ∀ [Inhabited Unit], IntKind.i64.wrap ((j : Int) - 1) = ((j - 1 : Nat) : Int) := by intro _; rw [w64 (by omega) (by omega)]; omega
                have p3 : j < ws.length := by omega
                have p4 : j - 1 < ws.length := by omega
                simp [h0, h1, h2, h7, h8, h9]
                rw [go_draw (h := by kernel_rfl)]
                simp [h0, h1, h2, h7, h8, h9, e7, ow_ix o p3, ow_ix o p4, ow_ld o p3, ow_ld o p4, less_c]
                have low : j = a → G ws (j - 1) ≤ G ws j := by
                  intro hja
                  have := sw.all hb (p := fun y => G xs (a - 1) ≤ y) (fun k k1 k2 => hlo (by omega) k k1 k2) j haj (by omega)
                  rw [hja] at this ⊢
                  rw [sw.out hb (k := a - 1) (by omega)]; exact this
                refine wp_dec ?_ ?_ <;> intro g5
                · have haj2 : a < j := by
                    rcases Nat.lt_or_ge a j with q | q
                    · exact q
                    · have := low (by omega); omega
                  simp [h0, h1, h2, h7, h8, h9]
                  rw [go_draw (h := by kernel_rfl)]
                  obtain ⟨H5, H6, s5, ix5, s6, o6, c6, l6⟩ := ow_swap o p3 p4 hf
                  simp [h0, h1, h2, h7, h8, h9, e7, ow_ix o p3, ow_ix o p4, ow_ld o p3, ow_ld o p4, s5, ix5 _ p3, ix5 _ p4, s6]
                  refine ih2 (j - 1) _ _ ⟨j - 1, rfl, by simp [h0], by simp [h1], by simp [h2], by simp [h7], by simp [h8], by simp [e7], by omega, by omega, _, sw.step j (j - 1) (by omega) (by omega), ins.step (by omega) haj2 hji g5, o6, c.trans c6, by omega⟩ (by omega)
                · have sr6 : Srt ws a (i - 1 + 1) := ins.done (by
                    rcases Nat.lt_or_ge a j with q | q
                    · exact .inr ⟨q, by omega⟩
                    · exact .inl (by omega))
                  rw [show i - 1 + 1 = i by omega] at sr6
                  simp [h0, h1, h2, h7, h8, h9, e6]
                  refine rest2 _ _ _ ?_
                  exact ⟨rfl, by simp [h0], by simp [h1], by simp [h2], by simp [h7], by simp [h8], ws, sw, sr6, o, c, l⟩
              · have sr6 : Srt ws a (i - 1 + 1) := ins.done (.inl (by omega))
                rw [show i - 1 + 1 = i by omega] at sr6
                simp [h0, h1, h2, h7, h8, h9, e6]
                refine rest2 _ _ _ ?_
                exact ⟨rfl, by simp [h0], by simp [h1], by simp [h2], by simp [h7], by simp [h8], ws, sw, sr6, o, c, l⟩
            · simp [h0, h1, h2, h7, h8, e6]
              refine rest2 _ _ _ ?_
              exact ⟨rfl, by simp [h0], by simp [h1], by simp [h2], by simp [h7], by simp [h8], zs, sw4, Srt.short (by omega), o4, c5, l5⟩
          case rest2 =>
            clear sw4 sr4 o4 c5 l5 s3 s4 ix3 c4 p1 p2
            rintro _ t H1 ⟨rfl, h0, h1, h2, h7, h8, ws, sw, sr, o, c, l⟩
            have fin : ∀ (t : Env) (H1 : Heap), t 0 = v → t 1 = .int .i64 a → t 2 = .int .i64 b → t 7 = .int .i64 i → t 8 = .int .i64 (IntKind.i64.wrap ((s : Int) + 1)) → Swd H v xs e a b (fun ys => Srt ys a i) H1 →
                ∃ i s' : Nat, 5 - (s + 1) = 5 - s' ∧ s' ≤ 5 ∧ t 0 = v ∧ t 1 = .int .i64 a ∧ t 2 = .int .i64 b ∧ t 7 = .int .i64 i ∧ t 8 = .int .i64 s' ∧ a < i ∧ i ≤ b ∧ Swd H v xs e a b (fun ys => Srt ys a i) H1 :=
              fun t H1 g0 g1 g2 g7 g8 gs => ⟨i, s + 1, rfl, by omega, g0, g1, g2, g7, by rw [g8, w64 (by omega) (by omega)]; simp, hai, hib, gs⟩
            refine wp_dec ?_ ?_ <;> intro g3
            · have e8 : ∀ [Inhabited Unit], IntKind.i64.wrap ((i : Int) + 1) = ((i + 1 : Nat) : Int) := by intro _; rw [w64 (by omega) (by omega)]; omega
              obtain ⟨j0, hj0⟩ : ∃ j0, j0 = i + 1 := ⟨_, rfl⟩
              rw [← hj0] at e8
              simp [h0, h1, h2, h7, h8, e8]
              refine wp_inv (fun c t H1 => ∃ j : Nat, c = b - j ∧ t 0 = v ∧ t 1 = .int .i64 a ∧ t 2 = .int .i64 b ∧ t 7 = .int .i64 i ∧ t 8 = .int .i64 s ∧ t 10 = .int .i64 j ∧ i < j ∧ j ≤ b ∧ Swd H v xs e a b (fun ys => Srt ys a i) H1) ?_ (n := b - j0)
                ⟨j0, rfl, by simp [h0], by simp [h1], by simp [h2], by simp [h7], by simp [h8], by simp, by omega, by omega, ws, sw, sr, o, c, l⟩
              rintro _ t H1 ⟨j, rfl, h0, h1, h2, h7, h8, h10, hij, hjb, ws, sw, sr, o, c, l⟩ ih2
              have len := sw.len
              simp [h0, h1, h2, h7, h8, h10]
              refine wp_dec ?_ ?_ <;> intro g4
              · have e7 : ∀ [Inhabited Unit], IntKind.i64.wrap ((j : Int) - 1) = ((j - 1 : Nat) : Int) := by intro _; rw [w64 (by omega) (by omega)]; omega
                have p3 : j < ws.length := by omega
                have p4 : j - 1 < ws.length := by omega
                simp [h0, h1, h2, h7, h8, h10]
                rw [go_draw (h := by kernel_rfl)]
                simp [h0, h1, h2, h7, h8, h10, e7, ow_ix o p3, ow_ix o p4, ow_ld o p3, ow_ld o p4, less_c]
                refine wp_dec ?_ ?_ <;> intro g5
                · simp [h0, h1, h2, h7, h8, h10]
                  rw [go_draw (h := by kernel_rfl)]
                  obtain ⟨H5, H6, s5, ix5, s6, o6, c6, l6⟩ := ow_swap o p3 p4 hf
                  simp [h0, h1, h2, h7, h8, h10, e7, ow_ix o p3, ow_ix o p4, ow_ld o p3, ow_ld o p4, s5, ix5 _ p3, ix5 _ p4, s6]
                  refine ih2 (b - (j + 1)) _ _ ⟨j + 1, rfl, by simp [h0], by simp [h1], by simp [h2], by simp [h7], by simp [h8], ?_, by omega, by omega, _, sw.step j (j - 1) (by omega) (by omega), Srt.frame sr (fun k k1 k2 => by rw [G_swp p3 p4, if_neg (by omega), if_neg (by omega)]), o6, c.trans c6, by omega⟩ (by omega)
                  simp; rw [w64 (by omega) (by omega)]
                · simp [h0, h1, h2, h7, h8, h10]
                  refine ih (5 - (s + 1)) _ _ (fin _ _ ?_ ?_ ?_ ?_ ?_ ⟨ws, sw, sr, o, c, l⟩) (by omega) <;> simp [h0, h1, h2, h7, h8]
              · simp [h0, h1, h2, h7, h8, h10]
                refine ih (5 - (s + 1)) _ _ (fin _ _ ?_ ?_ ?_ ?_ ?_ ⟨ws, sw, sr, o, c, l⟩) (by omega) <;> simp [h0, h1, h2, h7, h8]
            · simp [h0, h1, h2, h7, h8]
              refine ih (5 - (s + 1)) _ _ (fin _ _ ?_ ?_ ?_ ?_ ?_ ⟨ws, sw, sr, o, c, l⟩) (by omega) <;> simp [h0, h1, h2, h7, h8]
  · simp
    exact ⟨ys, sw, trivial, o, c, l⟩
end Go.Proofs.YtcigpclbhfkgaaaGreat.V
/-! Sorting: the sort. -/
set_option linter.all false
namespace Go.Proofs.YtcigpclbhfkgaaaGreat.V
open Go Go.VM Go.Proofs
set_option maxRecDepth 10000
variable {frz : Nat} {H : Heap} {v : Value} {xs : List Int} {e : TypeId}
/-- what the sort knows: outside of [a, b) all is sorted and lies on its side -/
structure Pq (ys : List Int) (A B a b : Nat) : Prop where
  le : A ≤ a ∧ a ≤ b ∧ b ≤ B
  left : Srt ys A a
  right : Srt ys b B
  lo : ∀ p q, A ≤ p → p < a → a ≤ q → q < B → G ys p ≤ G ys q
  hi : ∀ p q, A ≤ p → p < b → b ≤ q → q < B → G ys p ≤ G ys q
  low : 0 < A → ∀ k, A ≤ k → k < B → G ys (A - 1) ≤ G ys k
section
variable {ys zs : List Int} {A B a b m : Nat}
theorem Pq.below (h : Pq ys A B a b) (ha : 0 < a) : ∀ k, a ≤ k → k < B → G ys (a - 1) ≤ G ys k := fun k h1 h2 => by
  obtain ⟨l1, l2, l3⟩ := h.le
  by_cases hA : a = A
  · have := h.low (by omega) k (by omega) h2; rw [hA]; exact this
  · exact h.lo (a - 1) k (by omega) (by omega) h1 h2
theorem Pq.sw (h : Pq ys A B a b) (s : Sw a b ys zs) (hB : B ≤ ys.length) : Pq zs A B a b := by
  obtain ⟨l1, l2, l3⟩ := h.le
  have hb : b ≤ ys.length := by omega
  have out := fun k (hk : k < a ∨ b ≤ k) => s.out hb hk
  refine ⟨h.le, h.left.frame (fun k h1 h2 => out k (.inl h2)), h.right.frame (fun k h1 h2 => out k (.inr h1)), fun p q h1 h2 h3 h4 => ?_, fun p q h1 h2 h3 h4 => ?_, fun h0 k h1 h2 => ?_⟩
  · rw [out p (.inl h2)]
    exact s.all' hb (p := fun y => G ys p ≤ y) (Nat.le_refl a) l3 (fun k k1 k2 => h.lo p k h1 h2 k1 k2) q h3 h4
  · rw [out q (.inr h3)]
    exact s.all' hb (p := fun y => y ≤ G ys q) l1 (Nat.le_refl b) (fun k k1 k2 => h.hi k q k1 k2 h3 h4) p h1 h2
  · rw [out (A - 1) (.inl (by omega))]
    exact s.all' hb (p := fun y => G ys (A - 1) ≤ y) l1 l3 (fun k k1 k2 => h.low h0 k k1 k2) k h1 h2
theorem Pq.done (h : Pq ys A B a b) (s : Srt ys a b) : Srt ys A B := by
  obtain ⟨l1, l2, l3⟩ := h.le
  exact (h.left.join (s.join h.right (fun p q h1 h2 h3 h4 => h.hi p q (by omega) h2 h3 h4)) h.lo)
/-- equal elements go to the left -/
theorem Pq.eq {x : Int} (h : Pq ys A B a b) (hm : a < m ∧ m ≤ b) (hx : ∀ k, a ≤ k → k < b → x ≤ G ys k) (h1 : ∀ k, a ≤ k → k < m → ¬ x < G ys k) (h2 : ∀ k, m ≤ k → k < b → x < G ys k) : Pq ys A B m b := by
  obtain ⟨l1, l2, l3⟩ := h.le
  refine ⟨by omega, h.left.join (fun p q q1 q2 q3 => ?_) (fun p q q1 q2 q3 q4 => h.lo p q q1 q2 q3 (by omega)), h.right, fun p q q1 q2 q3 q4 => ?_, h.hi, h.low⟩
  · have := h1 p q1 (by omega); have := hx q (by omega) (by omega); omega
  · by_cases hp : p < a
    · exact h.lo p q q1 hp (by omega) q4
    · by_cases hq : q < b
      · have := h1 p (by omega) q2; have := h2 q q3 hq; omega
      · exact h.hi p q q1 (by omega) (by omega) q4
theorem Pq.goRight (h : Pq ys A B a b) (hm : a ≤ m ∧ m < b) (s : Srt ys a m) (h1 : ∀ k, a ≤ k → k < m → G ys k ≤ G ys m) (h2 : ∀ k, m < k → k < b → G ys m ≤ G ys k) : Pq ys A B (m + 1) b := by
  obtain ⟨l1, l2, l3⟩ := h.le
  refine ⟨by omega, h.left.join (fun p q q1 q2 q3 => ?_) (fun p q q1 q2 q3 q4 => h.lo p q q1 q2 q3 (by omega)), h.right, fun p q q1 q2 q3 q4 => ?_, h.hi, h.low⟩
  · by_cases hq : q = m
    · rw [hq]; exact h1 p q1 (by omega)
    · exact s p q q1 q2 (by omega)
  · by_cases hp : p < a
    · exact h.lo p q q1 hp (by omega) q4
    · by_cases hq : q < b
      · have := h2 q (by omega) hq
        by_cases hpm : p = m
        · rw [hpm]; exact this
        · have := h1 p (by omega) (by omega); omega
      · exact h.hi p q q1 (by omega) (by omega) q4
theorem Pq.goLeft (h : Pq ys A B a b) (hm : a ≤ m ∧ m < b) (s : Srt ys (m + 1) b) (h1 : ∀ k, a ≤ k → k < m → G ys k ≤ G ys m) (h2 : ∀ k, m < k → k < b → G ys m ≤ G ys k) : Pq ys A B a m := by
  obtain ⟨l1, l2, l3⟩ := h.le
  refine ⟨by omega, h.left, Srt.join (b := b) (fun p q q1 q2 q3 => ?_) h.right (fun p q q1 q2 q3 q4 => h.hi p q (by omega) q2 q3 q4), h.lo, fun p q q1 q2 q3 q4 => ?_, h.low⟩
  · by_cases hp : p = m
    · rw [hp]; exact h2 q (by omega) q3
    · exact s p q (by omega) q2 q3
  · by_cases hq : q < b
    · by_cases hp : p < a
      · exact h.lo p q q1 hp (by omega) q4
      · have := h1 p (by omega) q2
        by_cases hqm : q = m
        · rw [hqm]; exact this
        · have := h2 q (by omega) hq; omega
    · exact h.hi p q q1 (by omega) (by omega) q4
end
theorem pdq_w : ∀ (n : Nat) (H : Heap) (v : Value) (xs : List Int) (e : TypeId) (A B : Nat) (L : Int) (h : Ow Fl.int e H v xs) (hn : B - A ≤ n) (hab : A ≤ B) (hb : B ≤ xs.length) (hl : xs.length ≤ 1073741824)
    (hlo : 0 < A → ∀ k, A ≤ k → k < B → G xs (A - 1) ≤ G xs k) (hf : ∀ i ∈ ids v, frz ≤ i) (hF : frz ≤ H.length),
   wp (vcall C frz 164 [v, .int .i64 A, .int .i64 B, .int .i64 L] H) (fun _ H' => ∃ ys, Sw A B xs ys ∧ Srt ys A B ∧ Ow Fl.int e H' v ys ∧ Chg H H' (ids v)) := by
  intro n
  induction n using Nat.strongRecOn with
  | _ n IH =>
  intro H v xs e A B L h hn hab hb hl hlo hf hF
  rw [vcall_go (fn := Tryz.f164) Tryz.func164 rfl (by kernel_rfl) rfl]
  simp
  refine wp_inv (fun c t H' => ∃ (a b : Nat) (L : Int) (w1 w2 : Bool), c = b - a ∧ t 0 = v ∧ t 1 = .int .i64 a ∧ t 2 = .int .i64 b ∧ t 3 = .int .i64 L ∧ t 8 = .bool w1 ∧ t 9 = .bool w2 ∧
      ∃ ys, Sw A B xs ys ∧ Pq ys A B a b ∧ Ow Fl.int e H' v ys ∧ Chg H H' (ids v)) ?_ (n := B - A)
    ⟨A, B, L, true, true, rfl, by simp, by simp, by simp, by simp, by simp, by simp, xs, .refl, ⟨by omega, Srt.short (by omega), Srt.short (by omega), fun p q h1 h2 h3 h4 => by omega, fun p q h1 h2 h3 h4 => by omega, hlo⟩, h, Chg.refl _⟩
  rintro c t H' ⟨a, b, L, w1, w2, rfl, h0, h1, h2, h3, h8, h9, ys, sw, pq, o, c⟩ ih
  have len := sw.len
  obtain ⟨l1, l2, l3⟩ := pq.le
  obtain ⟨n1, hn1⟩ : ∃ n1, n1 = b - a := ⟨_, rfl⟩
  have e1 : ∀ [Inhabited Unit], IntKind.i64.wrap ((b : Int) - a) = (n1 : Int) := by intro _; rw [w64 (by omega) (by omega)]; omega
  simp [h0, h1, h2, h3, h8, h9, e1]
  refine wp_dec ?_ ?_ <;> intro g1
  · simp [h0, h1, h2, h3, h8, h9]
    refine wp_thn (insSort_w v ys e a b o l2 (by omega) (by omega) hf) ?_
    rintro _ H1 ⟨zs, sw1, sr1, o1, c1, k1⟩
    simp
    exact ⟨zs, sw.trans (sw1.mono l1 l3), (pq.sw sw1 (by omega)).done sr1, o1, c.trans c1⟩
  · simp [h0, h1, h2, h3, h8, h9]
    refine wp_dec ?_ ?_ <;> intro g2
    · simp [h0, h1, h2, h3, h8, h9]
      refine wp_thn (heapSort_w v ys e a b o (by omega) (by omega) (by omega) hf) ?_
      rintro _ H1 ⟨zs, sw1, sr1, o1, c1, k1⟩
      simp
      exact ⟨zs, sw.trans (sw1.mono l1 l3), (pq.sw sw1 (by omega)).done sr1, o1, c.trans c1⟩
    · simp [h0, h1, h2, h3, h8, h9]
      refine wp_joinc (F := ?F1) (k := ?k1) (d := ?d1) (Q := ?Q1) (fun r t => ∃ (L : Int) (zs : List Int) (H1 : Heap), r = vcall C frz 203 [v, .int .i64 a, .int .i64 b] H1 ∧ t 0 = v ∧ t 1 = .int .i64 a ∧ t 2 = .int .i64 b ∧ t 3 = .int .i64 L ∧ t 10 = .int .i64 n1 ∧ t 8 = .bool w1 ∧ t 9 = .bool w2 ∧
        Sw A B xs zs ∧ Pq zs A B a b ∧ Ow Fl.int e H1 v zs ∧ Chg H H1 (ids v)) ?main1 ?rest1
      case main1 =>
        intro rest
        have h10 := True.intro
        refine wp_bool ?_ ?_ <;> intro g3
        · simp [h0, h1, h2, h3, h8, h9]
          refine rest _ _ ?_
          exact ⟨L, ys, H', rfl, by simp [h0], by simp [h1], by simp [h2], by simp [h3], by simp [h10], by simp [h8], by simp [h9], sw, pq, o, c⟩
        · simp [h0, h1, h2, h3, h8, h9]
          refine wp_thn (breakPat_w v ys e a b o l2 (by omega) (by omega) hf (by have := c.1; omega)) ?_
          rintro _ H1 ⟨zs, sw1, o1, c1⟩
          simp [h0, h1, h2, h3, h8, h9]
          refine rest _ _ ?_
          exact ⟨IntKind.i64.wrap (L - 1), zs, H1, rfl, by simp [h0], by simp [h1], by simp [h2], by simp, by simp, by simp [h8], by simp [h9], sw.trans (sw1.mono l1 l3), pq.sw sw1 (by omega), o1, c.trans c1⟩
      case rest1 =>
        clear h0 h1 h2 h3 h8 h9 sw pq o c len
        rintro _ t ⟨L, ys, H', rfl, h0, h1, h2, h3, h10, h8, h9, sw, pq, o, c⟩
        have len := sw.len
        refine wp_thn (choosePivot_w v ys e a b o (by omega) (by omega) (by omega) (by have := c.1; omega)) ?_
        rintro _ H1 ⟨⟨p, k, rfl, hp1, hp2⟩, c1⟩
        have o1 := o.chg c1 (by simp)
        have cH1 := c.trans (c1.mono (by simp))
        simp [h0, h1, h2, h3, h8, h9]
        refine wp_joing (F := ?F2) (k := ?k2) (d := ?d2) (want := ?w2) (op := ?op2) (Q := ?Q2) (fun c t H1 => c = .bool w1 ∧ ∃ (p : Nat) (k : Int) (zs : List Int), (a ≤ p ∧ p < b) ∧ t 0 = v ∧ t 1 = .int .i64 a ∧ t 2 = .int .i64 b ∧ t 3 = .int .i64 L ∧ t 10 = .int .i64 n1 ∧ t 8 = .bool w1 ∧ t 9 = .bool w2 ∧ t 11 = .int .i64 p ∧ t 12 = .int .i64 k ∧ t 62 = .bool w1 ∧
          Sw A B xs zs ∧ Pq zs A B a b ∧ Ow Fl.int e H1 v zs ∧ Chg H H1 (ids v)) ?main2 ?rest2
        case main2 =>
          intro rest
          refine wp_dec ?_ ?_ <;> intro g3
          · simp [h0, h1, h2, h3, h8, h9]
            refine wp_thn (revRange_w v ys e a b o1 (by omega) (by omega) (by omega) hf) ?_
            rintro _ H2 ⟨zs, sw1, _, o2, c2, k2⟩
            obtain ⟨b1, hb1⟩ : ∃ b1, b1 = b - 1 := ⟨_, rfl⟩
            obtain ⟨p1, hp3⟩ : ∃ p1, p1 = p - a := ⟨_, rfl⟩
            obtain ⟨p2, hp4⟩ : ∃ p2, p2 = b1 - p1 := ⟨_, rfl⟩
            have e2 : ∀ [Inhabited Unit], IntKind.i64.wrap ((b : Int) - 1) = (b1 : Int) := by intro _; rw [w64 (by omega) (by omega)]; omega
            have e3 : ∀ [Inhabited Unit], IntKind.i64.wrap ((p : Int) - a) = (p1 : Int) := by intro _; rw [w64 (by omega) (by omega)]; omega
            have e4 : ∀ [Inhabited Unit], IntKind.i64.wrap ((b1 : Int) - p1) = (p2 : Int) := by intro _; rw [w64 (by omega) (by omega)]; omega
            simp [h0, h1, h2, h3, h8, h9, e2, e3, e4]
            refine rest _ _ _ ?_
            exact ⟨rfl, p2, 1, zs, by omega, by simp [h0], by simp [h1], by simp [h2], by simp [h3], by simp [h10], by simp [h8], by simp [h9], by simp, by simp, by simp, sw.trans (sw1.mono l1 l3), pq.sw sw1 (by omega), o2, cH1.trans c2⟩
          · simp [h0, h1, h2, h3, h8, h9]
            refine rest _ _ _ ?_
            exact ⟨rfl, p, k, ys, by omega, by simp [h0], by simp [h1], by simp [h2], by simp [h3], by simp [h10], by simp [h8], by simp [h9], by simp, by simp, by simp, sw, pq, o1, cH1⟩
        case rest2 =>
          clear h0 h1 h2 h3 h8 h9 sw pq o c len o1 c1 cH1 hp1 hp2
          rintro _ t H1 ⟨rfl, p, k, ys, hp, h0, h1, h2, h3, h10, h8, h9, h11, h12, h62, sw, pq, o, c⟩
          have len := sw.len
          refine wp_join (F := ?F3) (k := ?k3) (Q := ?Q3) (fun t H1 => ∃ (zs : List Int), t 0 = v ∧ t 1 = .int .i64 a ∧ t 2 = .int .i64 b ∧ t 3 = .int .i64 L ∧ t 10 = .int .i64 n1 ∧ t 8 = .bool w1 ∧ t 9 = .bool w2 ∧ t 11 = .int .i64 p ∧
            Sw A B xs zs ∧ Pq zs A B a b ∧ Ow Fl.int e H1 v zs ∧ Chg H H1 (ids v)) ?main3 ?rest3
          case main3 =>
            intro rest
            refine wpg_bool ?_ ?_ <;> intro g3
            · simp [h0, h1, h2, h3, h8, h9, h11, h12, h62, g3]
              refine wpg_bool ?_ ?_ <;> intro g4
              · simp [h0, h1, h2, h3, h8, h9, h11, h12, h62, g3, g4]
                refine wp_dec ?_ ?_ <;> intro g5
                · simp [h0, h1, h2, h3, h8, h9, h11, h12]
                  refine wp_thn (partIns_w v ys e a b o (by omega) (by omega) (by omega) (fun h0 k k1 k2 => pq.below h0 k k1 (by omega)) hf) ?_
                  rintro _ H2 ⟨d, rfl, zs, sw1, sr1, o2, c2, k2⟩
                  simp
                  refine wp_bool ?_ ?_ <;> intro g6
                  · simp
                    exact ⟨zs, sw.trans (sw1.mono l1 l3), (pq.sw sw1 (by omega)).done (sr1 g6), o2, c.trans c2⟩
                  · simp
                    refine rest _ _ ?_
                    exact ⟨zs, by simp [h0], by simp [h1], by simp [h2], by simp [h3], by simp [h10], by simp [h8], by simp [h9], by simp [h11], sw.trans (sw1.mono l1 l3), pq.sw sw1 (by omega), o2, c.trans c2⟩
                · simp
                  refine rest _ _ ?_
                  exact ⟨ys, by simp [h0], by simp [h1], by simp [h2], by simp [h3], by simp [h10], by simp [h8], by simp [h9], by simp [h11], sw, pq, o, c⟩
              · simp [h0, h1, h2, h3, h8, h9, h11, h12, h62, g3, g4]
                refine rest _ _ ?_
                exact ⟨ys, by simp [h0], by simp [h1], by simp [h2], by simp [h3], by simp [h10], by simp [h8, g3], by simp [h9, g4], by simp [h11], sw, pq, o, c⟩
            · simp [h0, h1, h2, h3, h8, h9, h11, h12, h62, g3]
              refine rest _ _ ?_
              exact ⟨ys, by simp [h0], by simp [h1], by simp [h2], by simp [h3], by simp [h10], by simp [h8, g3], by simp [h9], by simp [h11], sw, pq, o, c⟩
          case rest3 =>
            clear h0 h1 h2 h3 h8 h9 h11 h12 sw pq o c len
            rintro t H1 ⟨ys, h0, h1, h2, h3, h10, h8, h9, h11, sw, pq, o, c⟩
            have len := sw.len
            have q1 : p < ys.length := by omega
            rw [go_draw (h := by kernel_rfl)]
            simp [h0, h1, h2, h3, h8, h9, h11]
            refine wp_joinc (F := ?F4) (k := ?k4) (d := ?d4) (Q := ?Q4) (fun r t => r = vcall C frz 208 [v, .int .i64 a, .int .i64 b, .int .i64 p] H1 ∧ t 0 = v ∧ t 1 = .int .i64 a ∧ t 2 = .int .i64 b ∧ t 3 = .int .i64 L ∧ t 10 = .int .i64 n1) ?main4 ?rest4
            case main4 =>
              intro rest
              refine wpg_dec ?_ ?_ <;> intro g3
              · have e5 : ∀ [Inhabited Unit], IntKind.i64.wrap ((a : Int) - 1) = ((a - 1 : Nat) : Int) := by intro _; rw [w64 (by omega) (by omega)]; omega
                have q2 : a - 1 < ys.length := by omega
                simp [h0, h1, h2, h3, h8, h9, h11, g3, e5, ow_ix o q1, ow_ix o q2, ow_ld o q1, ow_ld o q2, less_c]
                refine wp_dec ?_ ?_ <;> intro g4
                · simp [h0, h1, h2, h3, h8, h9, h11]
                  refine rest _ _ ?_
                  exact ⟨rfl, by simp [h0], by simp [h1], by simp [h2], by simp [h3], by simp [h10]⟩
                · simp [h0, h1, h2, h3, h8, h9, h11]
                  refine wp_thn (partEq_w v ys e a b p o hp (by omega) (by omega) hf) ?_
                  rintro _ H2 ⟨m, rfl, m1, m2, zs, sw1, ⟨f1, f2⟩, o2, c2, k2⟩
                  simp [h0, h1, h2, h3, h8, h9, h11]
                  have low := (pq.sw sw1 (by omega)).below g3
                  have out := sw1.out (by omega) (k := a - 1) (by omega)
                  refine ih (b - m) _ _ ⟨m, b, L, w1, w2, rfl, by simp [h0], by simp, by simp [h2], by simp [h3], by simp [h8], by simp [h9], zs, sw.trans (sw1.mono l1 l3), (pq.sw sw1 (by omega)).eq ⟨m1, m2⟩ (fun k k1 k2 => ?_) f1 f2, o2, c.trans c2⟩ (by omega)
                  have := low k k1 (by omega); omega
              · simp [h0, h1, h2, h3, h8, h9, h11, g3]
                refine rest _ _ ?_
                exact ⟨rfl, by simp [h0], by simp [h1], by simp [h2], by simp [h3], by simp [h10]⟩
            case rest4 =>
              rintro _ t ⟨rfl, h0, h1, h2, h3, h10⟩
              refine wp_thn (part_w v ys e a b p o hp (by omega) (by omega) hf) ?_
              rintro _ H2 ⟨m, d, rfl, m1, m2, zs, sw1, ⟨f1, f2⟩, o2, c2, k2⟩
              have pq2 := pq.sw sw1 (by omega)
              have len2 := sw1.len
              obtain ⟨r1, hr1⟩ : ∃ r1, r1 = m - a := ⟨_, rfl⟩
              obtain ⟨r2, hr2⟩ : ∃ r2, r2 = b - m := ⟨_, rfl⟩
              obtain ⟨mm, hmm⟩ : ∃ mm, mm = m + 1 := ⟨_, rfl⟩
              have e6 : ∀ [Inhabited Unit], IntKind.i64.wrap ((m : Int) - a) = (r1 : Int) := by intro _; rw [w64 (by omega) (by omega)]; omega
              have e7 : ∀ [Inhabited Unit], IntKind.i64.wrap ((b : Int) - m) = (r2 : Int) := by intro _; rw [w64 (by omega) (by omega)]; omega
              have e8 : ∀ [Inhabited Unit], IntKind.i64.wrap ((m : Int) + 1) = (mm : Int) := by intro _; rw [w64 (by omega) (by omega)]; omega
              have f1' : ∀ k, a ≤ k → k < m → G zs k ≤ G zs m := fun k k1 k2 => Int.le_of_lt (f1 k k1 k2)
              have cc := c.trans c2
              have q8 : ∀ [Inhabited Unit], IntKind.i64.wrap ((n1 : Int) / 8) = (n1 / 8 : Nat) := by intro _; rw [w64 (by omega) (by omega)]; omega
              obtain ⟨n8, hn8⟩ : ∃ n8, n8 = n1 / 8 := ⟨_, rfl⟩
              rw [← hn8] at q8
              simp [h0, h1, h2, h3, h10, e6, e7, e8, q8]
              refine wp_dec ?_ ?_ <;> intro g7
              · simp [h0, h1, h2, h3, h10]
                refine wp_thn (IH (m - a) (by omega) H2 v zs e a m L o2 (Nat.le_refl _) (by omega) (by omega) (by omega) (fun q0 k k1 k2 => pq2.below q0 k k1 (by omega)) hf (by have := cc.1; omega)) ?_
                rintro _ H3 ⟨ws, sw3, sr3, o3, c3⟩
                simp [h0, h1, h2, h3, h10, e8]
                have hbz : m ≤ zs.length := by omega
                have wm : G ws m = G zs m := sw3.out hbz (.inr (Nat.le_refl _))
                refine ih (b - mm) _ _ ⟨mm, b, L, decide (n8 ≤ r1), d, rfl, by simp [h0], by simp, by simp [h2], by simp [h3], by simp, by simp, ws, (sw.trans (sw1.mono l1 l3)).trans (sw3.mono l1 (by omega)), ?_, o3, cc.trans c3⟩ (by omega)
                rw [hmm]
                refine (pq2.sw (sw3.mono (Nat.le_refl _) (by omega)) (by omega)).goRight ⟨m1, m2⟩ sr3 ?_ (fun k k1 k2 => ?_)
                · rw [wm]; exact sw3.all hbz (p := fun y => y ≤ G zs m) f1'
                · rw [wm, sw3.out hbz (.inr (by omega))]; exact f2 k k1 k2
              · simp [h0, h1, h2, h3, h10, e8]
                refine wp_thn (IH (b - mm) (by omega) H2 v zs e mm b L o2 (Nat.le_refl _) (by omega) (by omega) (by omega) (fun q0 k k1 k2 => by rw [show mm - 1 = m by omega]; exact f2 k (by omega) k2) hf (by have := cc.1; omega)) ?_
                rintro _ H3 ⟨ws, sw3, sr3, o3, c3⟩
                simp [h0, h1, h2, h3, h10, e8]
                have hbz : b ≤ zs.length := by omega
                have wm : G ws m = G zs m := sw3.out hbz (.inl (by omega))
                refine ih (m - a) _ _ ⟨a, m, L, decide (n8 ≤ r2), d, rfl, by simp [h0], by simp [h1], by simp, by simp [h3], by simp, by simp, ws, (sw.trans (sw1.mono l1 l3)).trans (sw3.mono (by omega) l3), ?_, o3, cc.trans c3⟩ (by omega)
                refine (pq2.sw (sw3.mono (by omega) (Nat.le_refl _)) (by omega)).goLeft ⟨m1, m2⟩ (hmm ▸ sr3) (fun k k1 k2 => ?_) (fun k k1 k2 => ?_)
                · rw [wm, sw3.out hbz (.inl (by omega))]; exact f1' k k1 k2
                · rw [wm]; exact sw3.all hbz (p := fun y => G zs m ≤ y) (fun k k1 k2 => f2 k (by omega) k2) k (by omega) k2
/-- the sorted list -/
theorem sorted_eq {xs ys : List Int} (h1 : xs.Pairwise (· ≤ ·)) (h2 : ys.Pairwise (· ≤ ·)) (h : xs.Perm ys) : xs = ys :=
  List.Perm.eq_of_pairwise (le := (· ≤ ·)) (fun a b _ _ h1 h2 => Int.le_antisymm h1 h2) h1 h2 h
def isort (xs : List Int) : List Int := xs.mergeSort (fun a b => decide (a ≤ b))
theorem isort_perm (xs : List Int) : (isort xs).Perm xs := List.mergeSort_perm xs _
theorem isort_sorted (xs : List Int) : (isort xs).Pairwise (· ≤ ·) := by
  have := List.pairwise_mergeSort (le := fun a b : Int => decide (a ≤ b)) (fun a b c h1 h2 => by simp at *; omega) (fun a b => by simp; omega) xs
  exact this.imp (fun h => by simpa using h)
theorem isort_len (xs : List Int) : (isort xs).length = xs.length := (isort_perm xs).length_eq
theorem sort_w (v : Value) (xs : List Int) (e : TypeId) (h : Ow Fl.int e H v xs) (hl : xs.length ≤ 1073741824) (hf : ∀ i ∈ ids v, frz ≤ i) (hF : frz ≤ H.length) :
   wp (vcall C frz 108 [v] H) (fun _ H' => Ow Fl.int e H' v (isort xs) ∧ Chg H H' (ids v)) := by
  rw [vcall_go (fn := Tryz.f108) Tryz.func108 rfl (by kernel_rfl) rfl]
  have e1 : ∀ [Inhabited Unit], IntKind.u64.wrap (xs.length : Int) = (xs.length : Int) := by intro _; exact w64u (by omega) (by omega)
  simp [h.rd.len, e1]
  refine wp_thn (len_w xs.length (by omega)) ?_
  rintro _ H0 ⟨hH, n, rfl, _⟩
  rw [hH]
  simp
  have := pdq_w (frz := frz) xs.length H v xs e 0 xs.length n h (by omega) (by omega) (Nat.le_refl _) hl (fun h => by omega) hf hF
  refine wp_thn (by simpa using this) ?_
  rintro _ H1 ⟨ys, sw, sr, o, c⟩
  simp
  have hys : ys = isort xs := by
    have hp := sw.perm (Nat.le_refl _)
    rw [← sw.len] at sr
    exact sorted_eq sr.pairwise (isort_sorted xs) (hp.trans (isort_perm xs).symm)
  subst hys
  exact ⟨o, c⟩
end Go.Proofs.YtcigpclbhfkgaaaGreat.V
/-! slices.Compact on ints. -/
set_option linter.all false
namespace Go.Proofs.YtcigpclbhfkgaaaGreat.V
open Go Go.VM Go.Proofs
set_option maxRecDepth 10000
variable {frz : Nat} {H : Heap} {v : Value} {xs ys : List Int} {e : TypeId}
/-- the first j elements without those that equal the one before them -/
def dk (xs : List Int) : Nat → List Int
  | 0 => []
  | j + 1 => if 0 < j ∧ G xs (j - 1) = G xs j then dk xs j else dk xs j ++ [G xs j]
def compact (xs : List Int) : List Int := dk xs xs.length
theorem dk_len (xs : List Int) : ∀ j, (dk xs j).length ≤ j
  | 0 => Nat.le_refl _
  | j + 1 => by
    have := dk_len xs j
    unfold dk; split <;> simp <;> omega
theorem take_G {xs : List Int} {j : Nat} (h : j < xs.length) : xs.take (j + 1) = xs.take j ++ [G xs j] := by rw [List.take_succ_eq_append_getElem h, G_get h]
theorem dk_sorted {xs : List Int} (hs : xs.Pairwise (· ≤ ·)) : ∀ j, j ≤ xs.length → (dk xs j).Pairwise (· < ·) ∧ (∀ x, x ∈ dk xs j ↔ x ∈ xs.take j)
  | 0, _ => by simp [dk]
  | j + 1, hj => by
    obtain ⟨h1, h2⟩ := dk_sorted hs j (by omega)
    have hjl : j < xs.length := by omega
    rw [take_G hjl]
    have mem_le : ∀ x ∈ xs.take j, ∃ i, i < j ∧ x = G xs i ∧ (i < j - 1 → x ≤ G xs (j - 1)) ∧ x ≤ G xs j := by
      intro x hx
      obtain ⟨i, hi, rfl⟩ := List.mem_iff_getElem.1 hx
      simp at hi
      rw [List.getElem_take]
      refine ⟨i, by omega, (G_get (by omega)).symm, fun h => ?_, ?_⟩
      · rw [G_get (by omega)]; exact List.pairwise_iff_getElem.1 hs i (j - 1) (by omega) (by omega) (by omega)
      · rw [G_get hjl]; exact List.pairwise_iff_getElem.1 hs i j (by omega) (by omega) (by omega)
    unfold dk
    split
    · rename_i hc
      refine ⟨h1, fun x => ?_⟩
      rw [h2, List.mem_append, List.mem_singleton]
      refine ⟨.inl, fun hh => hh.elim id fun hx => ?_⟩
      rw [hx, ← hc.2, G_get (by omega), ← List.getElem_take (j := j) (h := by simp; omega)]
      exact List.getElem_mem _
    · rename_i hc
      refine ⟨?_, fun x => by rw [List.mem_append, List.mem_append, h2]⟩
      rw [List.pairwise_append]
      refine ⟨h1, by simp, fun x hx y hy => ?_⟩
      rw [List.mem_singleton.1 hy]
      obtain ⟨i, hi, he, hl, hle⟩ := mem_le x ((h2 x).1 hx)
      by_cases hij : i = j - 1
      · have h0 : 0 < j := by omega
        have : G xs (j - 1) ≠ G xs j := fun hh => hc ⟨h0, hh⟩
        rw [hij] at he
        omega
      · have h3 := hl (by omega)
        have h0 : 0 < j := by omega
        have : G xs (j - 1) ≠ G xs j := fun hh => hc ⟨h0, hh⟩
        have h4 : G xs (j - 1) ≤ G xs j := by
          rw [G_get (by omega), G_get hjl]; exact List.pairwise_iff_getElem.1 hs (j - 1) j (by omega) (by omega) (by omega)
        omega
theorem compact_sorted {xs : List Int} (hs : xs.Pairwise (· ≤ ·)) : (compact xs).Pairwise (· < ·) ∧ ∀ x, x ∈ compact xs ↔ x ∈ xs := by
  obtain ⟨h1, h2⟩ := dk_sorted hs xs.length (Nat.le_refl _)
  exact ⟨h1, fun x => by rw [compact, h2, List.take_length]⟩
/-- strictly ascending lists with the same members are equal -/
theorem asc_ext : ∀ {xs ys : List Int}, xs.Pairwise (· < ·) → ys.Pairwise (· < ·) → (∀ x, x ∈ xs ↔ x ∈ ys) → xs = ys := by
  intro xs ys h1 h2 h
  refine sorted_eq (h1.imp (fun h => Int.le_of_lt h)) (h2.imp (fun h => Int.le_of_lt h)) ?_
  exact (List.perm_ext_iff_of_nodup (h1.imp (fun h => by omega)) (h2.imp (fun h => by omega))).2 h
/-- a slice's tail, told once for all heaps -/
theorem ow_tail (o : Ow Fl.int 3 H v xs) (h0 : 0 < xs.length) {l : Nat} (hl : l ≤ xs.length) : ∃ z, ∀ (H' : Heap) (ys : List Int), Ow Fl.int 3 H' v ys → ys.length = xs.length →
    vslice Tryz.prog H' 24 (some (.int .i64 (l : Nat))) none v = some z ∧ Ow Fl.int 3 H' z (ys.drop l) ∧ ids z = ids v := by
  rcases o with ⟨_, rfl⟩ | ⟨id, off, r, rfl, k2, k3, k4, k5, k6⟩
  · simp at h0
  · refine ⟨.slice (some ⟨id, off + l * 1, some r.gen⟩) (xs.length - l) 0, fun H' ys o' hlen => ?_⟩
    obtain ⟨z', h1, h2, h3⟩ := o'.slice (P := Tryz.prog) (ty := 24) (lo := some (.int .i64 (l : Int))) (hi := none) (l := l) (u := ys.length) (by simp) rfl rfl (by omega) (Nat.le_refl _)
    have e : (ys.drop l).take (ys.length - l) = ys.drop l := List.take_of_length_le (by simp)
    rw [e] at h2
    have hz : z' = .slice (some ⟨id, off + l * 1, some r.gen⟩) (xs.length - l) 0 := by
      rcases o' with ⟨hv, _⟩ | ⟨id', off', r', hv, q2, q3, q4, q5, q6⟩
      · cases hv
      · injection hv with hv1 hv2
        injection hv1 with hv1
        injection hv1 with i1 i2 i3
        injection i3 with i3
        subst i1 i2
        have hle : (l : Int) ≤ (xs.length : Int) := by omega
        simp [vslice, VM.look, q2, i3, vbound, q5, hle] at h1
        simp [← h1, i3]
    rw [← hz]
    exact ⟨h1, h2, h3⟩
/-- the tail is cleared -/
theorem ow_clear (o : Ow Fl.int 3 H v ys) (h0 : 0 < ys.length) {l : Nat} (hl : l ≤ ys.length) {z : Value} (hz : vslice Tryz.prog H 24 (some (.int .i64 (l : Nat))) none v = some z) (hf : ∀ i ∈ ids v, frz ≤ i) :
    ∃ H' zs, vclear Tryz.prog frz H 24 z = some (undef, H') ∧ zs.length = ys.length ∧ zs.take l = ys.take l ∧ Ow Fl.int 3 H' v zs ∧ Chg H H' (ids v) := by
  rcases o with ⟨_, rfl⟩ | ⟨id, off, r, rfl, k2, k3, k4, k5, k6⟩
  · simp at h0
  · have hle : (l : Int) ≤ (ys.length : Int) := by omega
    simp [vslice, VM.look, k2, vbound, k5, hle] at hz
    subst hz
    have hfr : frz ≤ id := hf id (by simp)
    have hn : Fl.int.n = 1 := rfl
    rw [hn] at k3 k4
    have hroom : off + l + (ys.length - l) ≤ r.cells.length := by omega
    refine ⟨H.set id { r with cells := VM.splice r.cells (off + l) (List.replicate (ys.length - l) [Value.int .i64 0]).flatten }, ys.take l ++ List.replicate (ys.length - l) 0, ?_, by simp; omega, by rw [List.take_append_of_le_length (by simp; omega), List.take_take, Nat.min_self], ?_, chg_set _ _⟩
    · simp [vclear, VM.look, k2, hfr, hroom, ones, VM.one]
    · have hcl : ((List.replicate (ys.length - l) [Value.int .i64 0]).flatten).length = ys.length - l := by simp
      have hlt : id < H.length := box_lt k2
      have hzl : (ys.take l ++ List.replicate (ys.length - l) (0 : Int)).length = ys.length := by simp; omega
      refine .inr ⟨id, off, { r with cells := VM.splice r.cells (off + l) (List.replicate (ys.length - l) [Value.int .i64 0]).flatten }, by rw [hzl], by simp [hlt], ?_, ?_, k5, ones_splice k6 (by simp [ones, VM.one])⟩
      · rw [hzl, hn, splice_region k3 k4 (by rw [hcl]; omega), cellsOf_int, cellsOf_int]
        unfold VM.splice
        rw [hcl]
        have e1 : (List.map (Value.int .i64) ys).drop (l + (ys.length - l)) = [] := by rw [List.drop_eq_nil_iff]; simp; omega
        rw [e1, List.append_nil, List.map_append, List.map_take]
        simp
      · rw [hzl, hn, splice_len (by rw [hcl]; omega)]; exact k4
end Go.Proofs.YtcigpclbhfkgaaaGreat.V
/-! Branching channels: the functions with closures. -/
set_option linter.all false
namespace Go.Proofs.YtcigpclbhfkgaaaGreat.V
open Go Go.VM Go.Proofs
set_option maxRecDepth 10000
variable {frz : Nat} {H : Heap}
/-- the first place where a test holds, or -1 -/
def placeP (p : Int → Bool) (b : List Int) : Int := if b.any p then b.findIdx p else -1
theorem placeP_range (p : Int → Bool) (b : List Int) : -1 ≤ placeP p b ∧ placeP p b < b.length ∧ (0 ≤ placeP p b ↔ b.any p = true) := by
  unfold placeP
  split
  · rename_i h
    obtain ⟨x, hx, hp⟩ := List.any_eq_true.1 h
    have := List.findIdx_lt_length_of_exists ⟨x, hx, hp⟩
    refine ⟨by omega, by omega, ?_⟩
    simp only [h, iff_true]; omega
  · rename_i h
    refine ⟨by omega, by omega, ?_⟩
    simp only [h]; simp
theorem placeP_at {p : Int → Bool} {b : List Int} {i : Nat} (h : i < b.length) (h1 : ∀ x ∈ b.take i, p x = false) (h2 : p b[i] = true) : placeP p b = i := by
  unfold placeP
  rw [if_pos (List.any_eq_true.2 ⟨b[i], List.getElem_mem h, h2⟩)]
  congr 1
  rw [List.findIdx_eq h]
  refine ⟨h2, fun j hj => ?_⟩
  refine Bool.eq_false_iff.1 ?_ |> fun hh => by simpa using hh
  exact h1 _ (by rw [List.mem_take_iff_getElem]; exact ⟨j, by omega, rfl⟩)
theorem indexFunc_c (v f : Value) (p : Int → Bool) (b : List Int) (hI : IsI H v b) (hl : b.length ≤ 1073741824)
    (hf : ∀ x ∈ b, vclos (vcall C H.length) f [.int .i64 x] H = some (.bool (p x), H)) :
   vcall C frz 254 [v, f] H = some (.int .i64 (placeP p b), H) := by
  rw [vcall_go (fn := Tryz.f254) Tryz.func254 rfl (by kernel_rfl) rfl]
  simp [hI.len]
  refine go_inv (fun n t H' => ∃ i : Nat, n = b.length - i ∧ i ≤ b.length ∧ t 0 = v ∧ t 1 = f ∧ t 6 = v ∧ t 7 = .int .i64 b.length ∧ t 8 = .int .i64 i ∧ H' = H ∧ ∀ x ∈ b.take i, p x = false) ?_ (n := b.length) ⟨0, by simp⟩
  rintro n t H' ⟨i, rfl, hi, h0, h1, h2, h3, h4, rfl, hj⟩ ih
  simp [h0, h1, h2, h3, h4, hI.len]
  refine br_dec _ ?_ ?_ <;> intro h5
  · simp [h0, h1, h2, h3, h4, h5, hI.idx, hI.load, getD_get, hf]
    refine br_eq _ ?_ ?_ <;> intro h6 <;> simp [h0, h1, h2, h3, h4, h6]
    · rw [placeP_at h5 hj h6]
    · refine ih (b.length - (i + 1)) _ _ ⟨i + 1, rfl, by omega, by simp [h0], by simp [h1], by simp [h2], by simp [h3], ?_, rfl, ?_⟩ (by omega)
      · simp; rw [w64 (by omega) (by omega)]
      · rw [List.take_succ_eq_append_getElem h5]
        intro x hx
        rcases List.mem_append.1 hx with hx | hx
        · exact hj x hx
        · rw [List.mem_singleton.1 hx]; exact h6
  · have : i = b.length := by omega
    subst this
    simp [h0, h1, h2, h3]
    rw [List.take_length] at hj
    rw [placeP, if_neg]
    rw [List.any_eq_true]
    rintro ⟨x, hx, hp⟩
    rw [hj x hx] at hp; cases hp
end Go.Proofs.YtcigpclbhfkgaaaGreat.V
/-! slices.DeleteFunc on ints. -/
set_option linter.all false
namespace Go.Proofs.YtcigpclbhfkgaaaGreat.V
open Go Go.VM Go.Proofs
set_option maxRecDepth 10000
variable {frz : Nat} {H : Heap} {v : Value} {xs : List Int}
theorem filter_none {p : Int → Bool} {l : List Int} (h : l.any p = false) : l.filter (fun x => !p x) = l := by
  rw [List.filter_eq_self]
  intro x hx
  cases hp : p x with
  | false => rfl
  | true => rw [List.any_eq_true.2 ⟨x, hx, hp⟩] at h; cases h
theorem placeP_first {p : Int → Bool} {b : List Int} (h : b.any p = true) : ∃ i : Nat, placeP p b = i ∧ i < b.length ∧ (∀ x ∈ b.take i, p x = false) ∧ ∀ (hi : i < b.length), p b[i] = true := by
  have hl : b.findIdx p < b.length := by
    obtain ⟨x, hx, hp⟩ := List.any_eq_true.1 h
    exact List.findIdx_lt_length_of_exists ⟨x, hx, hp⟩
  refine ⟨b.findIdx p, by rw [placeP, if_pos h], hl, fun x hx => ?_, fun hi => List.findIdx_getElem⟩
  obtain ⟨j, hj, rfl⟩ := List.mem_iff_getElem.1 hx
  rw [List.length_take] at hj
  rw [List.getElem_take]
  have := List.not_of_lt_findIdx (p := p) (xs := b) (i := j) (by omega)
  simpa using this
theorem deleteFunc_w (v f : Value) (p : Int → Bool) (xs : List Int) (h : Ow Fl.int 3 H v xs) (hl : xs.length ≤ 1073741824) (hf : ∀ i ∈ ids v, frz ≤ i)
    (hc : ∀ K, Chg H K (ids v) → ∀ F, ∀ x ∈ xs, vclos (vcall C F) f [.int .i64 x] K = some (.bool (p x), K)) :
   wp (vcall C frz 230 [v, f] H) (fun u H' => Ow Fl.int 3 H' u (xs.filter fun x => !p x) ∧ (∀ i ∈ ids u, i ∈ ids v) ∧ Chg H H' (ids v)) := by
  rw [vcall_go (fn := Tryz.f230) Tryz.func230 rfl (by kernel_rfl) rfl]
  have ix := fun F => indexFunc_c (frz := F) v f p xs h.rd.isI hl (fun x hx => hc H (Chg.refl _) _ x hx)
  simp [ix]
  by_cases g0 : xs.any p = true
  rotate_left
  · have g0' : xs.any p = false := by simpa using g0
    have e : placeP p xs = -1 := by rw [placeP, if_neg g0]
    simp [e]
    rw [filter_none g0']
    exact ⟨h, Chg.refl _⟩
  obtain ⟨k0, e, hk0, hb, hat⟩ := placeP_first g0
  have e' : ¬ ((k0 : Int) = -1) := by omega
  have w1 : ∀ [Inhabited Unit], IntKind.i64.wrap ((k0 : Int) + 1) = ((k0 + 1 : Nat) : Int) := by intro _; rw [w64 (by omega) (by omega)]; omega
  have f0 : (xs.take (k0 + 1)).filter (fun x => !p x) = xs.take k0 := by
    rw [List.take_succ_eq_append_getElem hk0, List.filter_append, List.filter_eq_self.2 (fun x hx => by rw [hb x hx]; rfl)]
    simp [hat hk0]
  simp [e, e']
  refine wp_inv (fun n t H' => ∃ (k j : Nat) (ys : List Int), n = xs.length - j ∧ j ≤ xs.length ∧ k < j ∧ t 0 = v ∧ t 1 = f ∧ t 5 = .int .i64 k ∧ t 6 = .int .i64 j ∧ ys.length = xs.length ∧ ys.take k = (xs.take j).filter (fun x => !p x) ∧ (∀ m, j ≤ m → G ys m = G xs m) ∧
      Ow Fl.int 3 H' v ys ∧ Chg H H' (ids v)) ?_ (n := xs.length - (k0 + 1))
    ⟨k0, k0 + 1, xs, rfl, by omega, by omega, by simp, by simp, by simp, by simp [w1], rfl, f0.symm, fun m hm => rfl, h, Chg.refl _⟩
  rintro n t H' ⟨k, j, ys, rfl, hj, hk, t0, t1, t5, t6, hlen, htk, hG, o, ch⟩ ih
  have lz := o.rd.len (P := Tryz.prog) (ty := 24) (by simp)
  simp [t0, t1, t5, t6, lz, hlen]
  refine wp_dec ?_ ?_ <;> intro g
  · have hj' : j < xs.length := by omega
    have hjy : j < ys.length := by omega
    have hkl : k < ys.length := by omega
    have e3 : ∀ [Inhabited Unit], IntKind.i64.wrap ((j : Int) + 1) = ((j + 1 : Nat) : Int) := by intro _; rw [w64 (by omega) (by omega)]; omega
    have e4 : ∀ [Inhabited Unit], IntKind.i64.wrap ((k : Int) + 1) = ((k + 1 : Nat) : Int) := by intro _; rw [w64 (by omega) (by omega)]; omega
    have hGx : G xs j = xs[j] := G_get hj'
    have cl := fun F => hc H' ch F (G xs j) (by rw [hGx]; exact List.getElem_mem hj')
    have hts : (xs.take (j + 1)).filter (fun x => !p x) = (xs.take j).filter (fun x => !p x) ++ (if p (G xs j) = true then [] else [G xs j]) := by
      rw [List.take_succ_eq_append_getElem hj', List.filter_append, hGx]
      cases hpj : p xs[j] <;> simp [hpj]
    generalize hX : G xs j = X at *
    simp [t0, t1, t5, t6, ow_ix o hjy, ow_ld o hjy, hG j (Nat.le_refl _), hX, cl]
    cases hp : p X with
    | true =>
      rw [if_pos hp] at hts
      simp [t0, t1, t5, t6]
      refine ih (xs.length - (j + 1)) _ _ ⟨k, j + 1, ys, rfl, by omega, by omega, by simp [t0], by simp [t1], by simp [t5], by simp [e3], hlen, by rw [hts, List.append_nil]; exact htk, fun m hm => hG m (by omega), o, ch⟩ (by omega)
    | false =>
      rw [if_neg (by rw [hp]; simp)] at hts
      obtain ⟨H2, s2, o2, c2, l2⟩ := o.put1 (P := Tryz.prog) (frz := frz) rfl (et := 3) (ag := false) (by simp) hkl (x := .int .i64 X) (y := X) rfl rfl rfl hf
      simp [t0, t1, t5, t6, ow_ix o hkl, s2]
      refine ih (xs.length - (j + 1)) _ _ ⟨k + 1, j + 1, ys.set k X, rfl, by omega, by omega, by simp [t0], by simp [t1], by simp [e4], by simp [e3], by simp [hlen], ?_, fun m hm => ?_, o2, ch.trans c2⟩ (by omega)
      · rw [hts, ← htk, List.take_succ_eq_append_getElem (by simpa using hkl), List.getElem_set_self]
        simp [List.take_set_of_le]
      · have hmk : m ≠ k := by omega
        have : G (ys.set k X) m = G ys m := by simp [G, List.getD_eq_getElem?_getD, List.getElem?_set_ne (Ne.symm hmk)]
        rw [this]; exact hG m (by omega)
  · have hjl : j = xs.length := by omega
    have hkl : k ≤ ys.length := by omega
    have hn : 0 < ys.length := by omega
    obtain ⟨y, hy⟩ := ow_tail o hn (l := k) hkl
    obtain ⟨y1, _, _⟩ := hy H' ys o rfl
    obtain ⟨H2, zs, cl, zl, zt, oz2, c2⟩ := ow_clear o hn hkl y1 hf
    obtain ⟨q, q1, q2, q3⟩ := oz2.slice (P := Tryz.prog) (ty := 24) (lo := none) (hi := some (.int .i64 (k : Int))) (l := 0) (u := k) (by simp) rfl rfl (Nat.zero_le _) (by omega)
    simp [t0, t1, t5, t6, y1, cl, q1]
    simp only [List.drop_zero, Nat.sub_zero, zt, htk, hjl, List.take_length] at q2
    exact ⟨q2, by rw [q3]; exact fun i hi => hi, ch.trans c2⟩
end Go.Proofs.YtcigpclbhfkgaaaGreat.V
/-! What a network's inputs want: the reference. -/
set_option linter.all false
namespace Go.Proofs.YtcigpclbhfkgaaaGreat.V
open Go Go.VM Go.Proofs
set_option maxRecDepth 10000
variable {frz : Nat} {H : Heap}
theorem l17Wanted_c {v : NetV} {x : NetD} {a i : Nat} (o' : dNet.Ow H v x) (hx : runOk x) (ha : (a : Int) < cnt x.1.1 x.1.2.1) (hi : i < 10) :
   vcall C frz 249 [dNet.val v x, .int .i64 a, .int .i64 i] H = some (.int .i64 (wantedN x a i), H) := by
  refine wp.exact (by simp) ?_ rfl
  have ones := dNet_one o'
  have cr := cnt_range x.1.1 x.1.2.1
  simp only [dNet_val]
  rw [vcall_go (fn := Tryz.f249) Tryz.func249 rfl (by kernel_rfl) rfl]
  obtain ⟨d, hd⟩ : ∃ d, d = 10 * a + i := ⟨_, rfl⟩
  obtain ⟨c, hc⟩ : ∃ c, c = i % 2 := ⟨_, rfl⟩
  obtain ⟨q, hq⟩ : ∃ q, q = i / 2 := ⟨_, rfl⟩
  generalize hY : wantedN x a i = Y
  unfold wantedN at hY
  rw [← hd, ← hc, ← hq] at hY
  have e1 : ∀ [Inhabited Unit], IntKind.i64.wrap (10 * (a : Int)) = 10 * (a : Int) := by intro _; exact w64 (by omega) (by omega)
  have e2 : ∀ [Inhabited Unit], IntKind.i64.wrap (10 * (a : Int) + (i : Int)) = (d : Int) := by intro _; rw [w64 (by omega) (by omega)]; omega
  have e3 : ∀ [Inhabited Unit], (i : Int).tmod 2 = (c : Int) := by intro _; rw [tmod2]; omega
  have e3' : ∀ [Inhabited Unit], (i : Int) % 2 = (c : Int) := by intro _; omega
  have e4 : ∀ [Inhabited Unit], IntKind.i64.wrap ((i : Int) / 2) = (q : Int) := by intro _; rw [w64 (by omega) (by omega)]; omega
  obtain ⟨G, hG⟩ : ∃ G, G = H ++ [⟨netCells v x, 0, 46⟩] := ⟨_, rfl⟩
  have o : dNet.Ow G v x := hG ▸ Dt.app (T := dNet) o'
  have hr : G[H.length]? = some ⟨netCells v x, 0, 46⟩ := by rw [hG]; simp
  have hGs : H ++ [⟨netCells v x, 0, 46⟩] = G := hG.symm
  unfold netCells at hr hGs
  have hl : d < x.2.2.1.length := by have := hx.2.1.1; omega
  obtain ⟨u, a1, a2, a3, a4⟩ := RdL_at o.2.2.1.1.rd (ty := 44) (e := 113) (by simp) (by simp) hl
  have la := a4.len (P := Tryz.prog) (ty := 113) (by simp)
  have hgd : x.2.2.1.getD d [] = x.2.2.1[d] := by simp [List.getD_eq_getElem?_getD, hl]
  have hho : headOf x d = headL x.2.2.1[d] := by unfold headOf; rw [hgd]
  have qa : VM.one u = true ∧ u.cells = #[u] := ⟨a4.one', a4.cells⟩
  simp [ones]
  rw [hGs]
  simp [VM.look, hr, ones, e1, e2, e3, e3', a2, a3, la]
  rw [hgd, hho] at hY
  by_cases g0 : x.2.2.1[d] = []
  · rw [if_pos g0] at hY
    simp [g0, hY]
  rw [if_neg g0] at hY
  have g0' : ¬ (x.2.2.1[d].length : Int) = 0 := by
    have := List.length_pos_iff.2 g0; omega
  have g0n : ¬ x.2.2.1[d].length = 0 := by omega
  obtain ⟨z0, f1, f2, f3, c1, c2, c3, _⟩ := front a4 g0
  obtain ⟨k1, k2⟩ := hx.2.2.1 d _ (by rw [hgd]; exact headL_mem g0)
  generalize headL x.2.2.1[d] = f at *
  simp [-vfieldAddr, vfa_ptr, g0', g0n, g0, z0, f3, c3]
  by_cases g1 : f.2.2.2.1 = true
  · rw [if_pos g1] at hY
    simp only [g1]
    have ha' : isN x.1.1 x.1.2.1 a := ⟨by omega, ha⟩
    obtain ⟨k0, k0', k3, k4⟩ := at_small ha' k2.1
    obtain ⟨N, hN⟩ : ∃ N, N = cnt x.1.1 x.1.2.1 := ⟨_, rfl⟩
    have e5 : ∀ [Inhabited Unit], IntKind.i64.wrap ((a : Int) * N) = a * N := by intro _; rw [hN]; exact w64 (by omega) (by omega)
    have e6 : ∀ [Inhabited Unit], IntKind.i64.wrap ((a : Int) * N + f.2.1) = a * N + f.2.1 := by intro _; rw [hN]; exact w64 (by omega) (by have := k2.1.2; omega)
    have nc := fun F => sNodeCount_c (frz := F) (H := G) x.1.1 x.1.2.1
    rw [← hN] at nc
    simp [VM.look, hr, ones, nc]
    by_cases g2 : c = 1
    · rw [if_pos g2] at hY
      have hT := Rd.isI o.2.1.2.1.rd
      have hs := hx.1.2.1.2
      have q1 : vindexAddr Tryz.prog G 24 v.2.1.2 (.int .i64 (a * N + f.2.1)) = some (elp v.2.1.2 (a * N + f.2.1).toNat) := by rw [hN]; exact hT.idx (e := 3) (by simp) k0 (by omega)
      have q2 : vload Tryz.prog G 3 (elp v.2.1.2 (a * N + f.2.1).toNat) = some (.int .i64 Y) := by rw [← hY]; unfold portOf rd; rw [hN]; exact hT.load (by simp) (by omega)
      subst g2
      simp
      rw [go_draw (h := by kernel_rfl)]
      simp [-vfieldAddr, vfa_ptr, VM.look, hr, ones, e5, e6, z0, f1, c1, q1, q2]
    · rw [if_neg g2] at hY
      have hT := Rd.isI o.2.1.1.1.rd
      have hs := hx.1.1.1.2
      have q1 : vindexAddr Tryz.prog G 24 v.2.1.1 (.int .i64 (a * N + f.2.1)) = some (elp v.2.1.1 (a * N + f.2.1).toNat) := by rw [hN]; exact hT.idx (e := 3) (by simp) k0 (by omega)
      have q2 : vload Tryz.prog G 3 (elp v.2.1.1 (a * N + f.2.1).toNat) = some (.int .i64 Y) := by rw [← hY]; unfold portOf rd; rw [hN]; exact hT.load (by simp) (by omega)
      have g2' : ¬ (c : Int) = 1 := by omega
      simp [g2, g2']
      rw [go_draw (h := by kernel_rfl)]
      simp [-vfieldAddr, vfa_ptr, VM.look, hr, ones, e5, e6, z0, f1, c1, q1, q2]
  · rw [if_neg g1] at hY
    simp only [g1]
    simp
    refine wp_inv (fun n t H' => ∃ p : Nat, n = 5 - p ∧ p ≤ 5 ∧ t 1 = .int .i64 a ∧ t 2 = .int .i64 i ∧ t 3 = .pointer (some ⟨H.length, 0, some 0⟩) ∧ t 8 = .int .i64 c ∧ t 10 = .int .i64 p ∧ H' = G ∧ ∀ r, r < p → decide (x.2.2.2.1.getD (outAt a r c) 0 = (q : Int)) = false) ?_ (n := 5) ⟨0, by simp, by omega, by simp, by simp, by simp, by simp [e3, e3'], by simp, rfl, by omega⟩
    rintro n t H' ⟨p, rfl, hp, t1, t2, t3, t8, t10, rfl, hk⟩ ih
    simp [t1, t2, t3, t8, t10]
    refine wp_dec ?_ ?_ <;> intro g
    · have hp' : p < 5 := by omega
      have e7 : ∀ [Inhabited Unit], IntKind.i64.wrap (2 * (p : Int)) = 2 * (p : Int) := by intro _; exact w64 (by omega) (by omega)
      have e8 : ∀ [Inhabited Unit], IntKind.i64.wrap (10 * (a : Int) + 2 * (p : Int)) = 10 * (a : Int) + 2 * (p : Int) := by intro _; exact w64 (by omega) (by omega)
      have hz : outAt a p c < x.2.2.2.1.length := by have := hx.2.1.2.1; unfold outAt; omega
      have e9 : ∀ [Inhabited Unit], IntKind.i64.wrap (10 * (a : Int) + 2 * (p : Int) + (c : Int)) = (outAt a p c : Nat) := by intro _; unfold outAt; rw [w64 (by omega) (by omega)]; omega
      have hgo : x.2.2.2.1.getD (outAt a p c) 0 = x.2.2.2.1[outAt a p c] := by simp [List.getD_eq_getElem?_getD, hz]
      generalize hzz : outAt a p c = z at *
      have rd := Rd.isI o.2.2.2.1.1.rd
      have q1 := rd.idx (P := Tryz.prog) (ty := 24) (e := 3) (by simp) (i := (z : Int)) (by omega) (by omega)
      have q2 := rd.load (P := Tryz.prog) (e := 3) (by simp) hz
      simp only [Int.toNat_natCast] at q1 q2
      rw [hgo] at q2
      simp [VM.look, hr, ones, t1, t2, t3, t8, t10, e1, e4, e7, e8, e9, q1, q2]
      refine wp_dec ?_ ?_ <;> intro g2
      · simp [t1, t2, t3, t8, t10]
        rw [find_range hp' (by rw [hzz, hgo]; exact decide_eq_true g2) hk] at hY
        exact hY
      · simp [t1, t2, t3, t8, t10]
        refine ih (5 - (p + 1)) _ _ ⟨p + 1, rfl, by omega, by simp [t1], by simp [t2], by simp [t3], by simp [t8], ?_, rfl, fun r hr' => ?_⟩ (by omega)
        · simp; rw [w64 (by omega) (by omega)]
        · by_cases hrp : r < p
          · exact hk r hrp
          · have : r = p := by omega
            subst this
            rw [hzz, hgo]; exact decide_eq_false g2
    · have : p = 5 := by omega
      subst this
      rw [find_range_none hk] at hY
      simp [t1, t2, t3, t8, t10, hY]
theorem l17Room_c {v : NetV} {x : NetD} {a p c : Nat} (o' : dNet.Ow H v x) (hx : runOk x) (ha : (a : Int) < cnt x.1.1 x.1.2.1) (hp : p < 5) (hc : c < 2) :
   vcall C frz 250 [dNet.val v x, .int .i64 a, .int .i64 p, .int .i64 c] H = some (.bool (decide (roomN x a p c)), H) := by
  refine wp.exact (by simp) ?_ rfl
  have ones := dNet_one o'
  have cr := cnt_range x.1.1 x.1.2.1
  simp only [dNet_val]
  rw [vcall_go (fn := Tryz.f250) Tryz.func250 rfl (by kernel_rfl) rfl]
  obtain ⟨G, hG⟩ : ∃ G, G = H ++ [⟨netCells v x, 0, 46⟩] := ⟨_, rfl⟩
  have o : dNet.Ow G v x := hG ▸ Dt.app (T := dNet) o'
  have hr : G[H.length]? = some ⟨netCells v x, 0, 46⟩ := by rw [hG]; simp
  have hGs : H ++ [⟨netCells v x, 0, 46⟩] = G := hG.symm
  unfold netCells at hr hGs
  simp [ones]
  rw [hGs]
  by_cases h4 : p = 4
  · subst h4; simp [roomN]
  have h4' : ¬ (p : Int) = 4 := by omega
  have e1 : ∀ [Inhabited Unit], IntKind.i64.wrap (4 * (a : Int)) = 4 * (a : Int) := by intro _; exact w64 (by omega) (by omega)
  have e2 : ∀ [Inhabited Unit], IntKind.i64.wrap (4 * (a : Int) + (p : Int)) = 4 * (a : Int) + p := by intro _; exact w64 (by omega) (by omega)
  have lv := fun F => l03Has_c (frz := F) (H := G) x.1.1 x.1.2.1 v.1 x.1.2.2 (4 * (a : Int) + p) (Rd.isI o.1.1.rd) o.1.2
  by_cases hh : has x.1.1 x.1.2.1 x.1.2.2 (4 * (a : Int) + p)
  rotate_left
  · simp [VM.look, hr, ones, e1, e2, lv, hh, h4, h4', roomN]
  obtain ⟨u1, u2, u3⟩ := tgt_val (c := c) hh (by omega) hc
  obtain ⟨s1, s2, s3⟩ := tgt_ok (c := c) hh (by omega)
  have hl : tgt x a p c < x.2.2.1.length := by have := hx.2.1.1; omega
  have hgd : x.2.2.1[tgt x a p c]?.getD [] = x.2.2.1[tgt x a p c] := by simp [hl]
  have key : roomN x a p c ↔ (x.2.2.1[tgt x a p c].length : Int) < 3 := by
    unfold roomN; rw [List.getD_eq_getElem?_getD, hgd]
    exact ⟨fun k => by rcases k with k | k; exact absurd k h4; have := k.2; omega, fun k => .inr ⟨hh, by omega⟩⟩
  generalize htt : tgt x a p c = z at *
  have nn := fun F => sNextNode_c (frz := F) (H := G) x.1.1 x.1.2.1 a p
  have so := fun F => sOpposite_c (frz := F) (H := G) p
  obtain ⟨s4, s5⟩ := s1
  generalize next x.1.1 x.1.2.1 a p = N at *
  generalize opp (p : Int) = O at *
  have e3 : ∀ [Inhabited Unit], IntKind.i64.wrap (10 * N) = 10 * N := by intro _; exact w64 (by omega) (by omega)
  have e4 : ∀ [Inhabited Unit], IntKind.i64.wrap (2 * O) = 2 * O := by intro _; exact w64 (by omega) (by omega)
  have e5 : ∀ [Inhabited Unit], IntKind.i64.wrap (10 * N + 2 * O) = 10 * N + 2 * O := by intro _; exact w64 (by omega) (by omega)
  have e6 : ∀ [Inhabited Unit], IntKind.i64.wrap (10 * N + 2 * O + (c : Int)) = (z : Int) := by intro _; rw [w64 (by omega) (by omega)]; omega
  obtain ⟨u, a1, a2, a3, a4⟩ := RdL_at o.2.2.1.1.rd (ty := 44) (e := 113) (by simp) (by simp) hl
  have la := a4.len (P := Tryz.prog) (ty := 113) (by simp)
  simp [VM.look, hr, ones, e1, e2, lv, hh, h4, h4', nn]
  rw [go_draw (h := by kernel_rfl)]
  simp [VM.look, hr, ones, e3, e4, e5, e6, so, a2, a3, la, key]
theorem l17Request_c {v : NetV} {x : NetD} {a i p : Nat} (o' : dNet.Ow H v x) (hx : runOk x) (ha : (a : Int) < cnt x.1.1 x.1.2.1) (hi : i < 10) (hp : p < 5) :
   vcall C frz 219 [dNet.val v x, .int .i64 a, .int .i64 i, .int .i64 p] H = some (.bool (decide (reqN x a i p)), H) := by
  refine wp.exact (by simp) ?_ rfl
  have ones := dNet_one o'
  have cr := cnt_range x.1.1 x.1.2.1
  simp only [dNet_val]
  rw [vcall_go (fn := Tryz.f219) Tryz.func219 rfl (by kernel_rfl) rfl]
  obtain ⟨d, hd⟩ : ∃ d, d = 10 * a + i := ⟨_, rfl⟩
  obtain ⟨c, hc⟩ : ∃ c, c = i % 2 := ⟨_, rfl⟩
  obtain ⟨q, hq⟩ : ∃ q, q = i / 2 := ⟨_, rfl⟩
  obtain ⟨G, hG⟩ : ∃ G, G = H ++ [⟨netCells v x, 0, 46⟩] := ⟨_, rfl⟩
  have o : dNet.Ow G v x := hG ▸ Dt.app (T := dNet) o'
  have hr : G[H.length]? = some ⟨netCells v x, 0, 46⟩ := by rw [hG]; simp
  have hGs : H ++ [⟨netCells v x, 0, 46⟩] = G := hG.symm
  unfold netCells at hr hGs
  have wn := fun F => l17Wanted_c (frz := F) (H := G) o hx ha hi
  have rm := fun F => l17Room_c (frz := F) (H := G) (c := c) o hx ha hp (by omega)
  simp only [dNet_val] at wn rm
  generalize hY : decide (reqN x a i p) = Y
  have no : ¬ reqN x a i p → Y = false := fun hh => by rw [← hY]; exact decide_eq_false hh
  have e1 : ∀ [Inhabited Unit], IntKind.i64.wrap (10 * (a : Int)) = 10 * (a : Int) := by intro _; exact w64 (by omega) (by omega)
  have e2 : ∀ [Inhabited Unit], IntKind.i64.wrap (10 * (a : Int) + (i : Int)) = (d : Int) := by intro _; rw [w64 (by omega) (by omega)]; omega
  have e3 : ∀ [Inhabited Unit], (i : Int).tmod 2 = (c : Int) := by intro _; rw [tmod2]; omega
  have e3' : ∀ [Inhabited Unit], (i : Int) % 2 = (c : Int) := by intro _; omega
  have e4 : ∀ [Inhabited Unit], IntKind.i64.wrap ((i : Int) / 2) = (q : Int) := by intro _; rw [w64 (by omega) (by omega)]; omega
  have e7 : ∀ [Inhabited Unit], IntKind.i64.wrap (2 * (p : Int)) = 2 * (p : Int) := by intro _; exact w64 (by omega) (by omega)
  have e8 : ∀ [Inhabited Unit], IntKind.i64.wrap (10 * (a : Int) + 2 * (p : Int)) = 10 * (a : Int) + 2 * (p : Int) := by intro _; exact w64 (by omega) (by omega)
  have e9 : ∀ [Inhabited Unit], IntKind.i64.wrap (10 * (a : Int) + 2 * (p : Int) + (c : Int)) = (outAt a p c : Nat) := by intro _; unfold outAt; rw [w64 (by omega) (by omega)]; omega
  simp [ones]
  rw [hGs]
  by_cases g1 : wantedN x a i = (p : Int)
  rotate_left
  · simp [VM.look, hr, ones, wn, g1, e3, e3']; exact no (fun k => g1 k.1)
  by_cases g2 : roomN x a p c
  rotate_left
  · simp [VM.look, hr, ones, wn, g1, e3, e3', rm, g2]; exact no (fun k => g2 (hc ▸ k.2.1))
  have hl : d < x.2.2.1.length := by have := hx.2.1.1; omega
  obtain ⟨u, a1, a2, a3, a4⟩ := RdL_at o.2.2.1.1.rd (ty := 44) (e := 113) (by simp) (by simp) hl
  have hgd : x.2.2.1.getD d [] = x.2.2.1[d] := by simp [List.getD_eq_getElem?_getD, hl]
  have hho : headOf x d = headL x.2.2.1[d] := by unfold headOf; rw [hgd]
  have g0 : x.2.2.1[d] ≠ [] := fun hh => by
    unfold wantedN at g1
    rw [← hd, hgd, if_pos hh] at g1
    omega
  obtain ⟨z0, f1, f2, f3, c1, c2, c3, _⟩ := front a4 g0
  have hz : outAt a p c < x.2.2.2.1.length := by have := hx.2.1.2.1; unfold outAt; omega
  have hgo : x.2.2.2.1.getD (outAt a p c) 0 = x.2.2.2.1[outAt a p c] := by simp [List.getD_eq_getElem?_getD, hz]
  have key : reqN x a i p ↔ x.2.2.2.1[outAt a p c] = if (headL x.2.2.1[d]).2.2.2.1 then -1 else (q : Int) := by
    unfold reqN; rw [← hd, ← hc, ← hq, hgo, hho]
    exact ⟨fun k => k.2.2, fun k => ⟨g1, g2, k⟩⟩
  generalize hzz : outAt a p c = z at *
  generalize headL x.2.2.1[d] = f at *
  have rd := Rd.isI o.2.2.2.1.1.rd
  have q1 := rd.idx (P := Tryz.prog) (ty := 24) (e := 3) (by simp) (i := (z : Int)) (by omega) (by omega)
  have q2 := rd.load (P := Tryz.prog) (e := 3) (by simp) hz
  simp only [Int.toNat_natCast] at q1 q2
  rw [hgo] at q2
  have qa : VM.one u = true ∧ u.cells = #[u] := ⟨a4.one', a4.cells⟩
  simp [VM.look, hr, ones, wn, g1, e3, e3', rm, g2, e1, e7, e8, e9, q1, q2]
  simp [-vfieldAddr, vfa_ptr, VM.look, hr, ones, e1, e2, a2, a3, z0, f3, c3]
  by_cases g3 : f.2.2.2.1 = true
  · simp only [g3, if_true] at key ⊢
    simp [e4]
    rw [← hY]; simp only [key]
  · simp only [g3, if_false] at key ⊢
    simp [e4]
    rw [← hY]; simp only [key]
    try simp
end Go.Proofs.YtcigpclbhfkgaaaGreat.V
/-! The grants of a node. -/
set_option linter.all false
namespace Go.Proofs.YtcigpclbhfkgaaaGreat.V
open Go Go.VM Go.Proofs
set_option maxRecDepth 10000
variable {frz : Nat} {H : Heap}
def grF : Fl GrD := ⟨3, fun a => [.int .i64 a.1, .int .i64 a.2.1, .int .i64 a.2.2], fun _ => rfl⟩
@[simp] theorem grF_n : grF.n = 3 := rfl
theorem grF_f (a : GrD) : grF.f a = [.int .i64 a.1, .int .i64 a.2.1, .int .i64 a.2.2] := rfl
theorem ones_grF (xs : List GrD) : ones (cellsOf grF xs) = true := by
  induction xs with
  | nil => rfl
  | cons a l ih => rw [cellsOf_cons]; simp [ih, grF_f]
theorem bl_ld {K : Heap} {e : TypeId} {v : Value} {u : List Bool} (o : Ow Fl.bool e K v u) {j : Nat} (hj : j < u.length) : vload Tryz.prog K 4 (elp v j) = some (.bool (u.getD j false)) := by
  rw [o.rd.cell1 (P := Tryz.prog) rfl (by simp) hj]
  simp [List.getD_eq_getElem?_getD, hj]
theorem free_map {x : NetD} {a p : Nat} {u : List Bool} : ((reqsN x a p).map Int.ofNat).filter (fun y => !u.getD (y / 2).toNat false) = (freeN x a p u).map Int.ofNat := by
  rw [List.filter_map]
  unfold freeN
  congr 1
theorem free_in {x : NetD} {a p : Nat} {u : List Bool} : ∀ y ∈ (freeN x a p u).map Int.ofNat, inR 0 y 9 := fun y hy => by
  obtain ⟨i, hi, rfl⟩ := List.mem_map.1 hy
  have := (free_mem hi).1
  unfold inR; show (0 : Int) ≤ (i : Int) ∧ (i : Int) ≤ 9; omega
theorem free_len {x : NetD} {a p : Nat} {u : List Bool} : ((freeN x a p u).map Int.ofNat).length ≤ 10 := by
  rw [List.length_map]
  have h1 := List.length_filter_le (fun i => !u.getD (i / 2) false) (reqsN x a p)
  have h2 := List.length_filter_le (fun i => decide (reqN x a i p)) (List.range 10)
  rw [List.length_range] at h2
  unfold freeN; unfold reqsN at h1 ⊢; omega
theorem pick_lt {x : NetD} {a p : Nat} {u : List Bool} (h : 0 ≤ pickN x a p u) : ∃ k : Nat, pickN x a p u = k ∧ k < 10 := by
  have := (free_mem (pick_mem h)).1
  exact ⟨(pickN x a p u).toNat, by omega, this⟩
theorem arr_ix {K : Heap} {e : TypeId} {R : Nat} {u : List Bool} (o : Ow Fl.bool e K (.slice (some ⟨R, 0, some 0⟩) 5 0) u) {j : Nat} (hj : j < 5) : vindexAddr Tryz.prog K 215 (.pointer (some ⟨R, 0, some 0⟩)) (.int .i64 (j : Int)) = some (elp (.slice (some ⟨R, 0, some 0⟩) 5 0) j) := by
  have hl := Ow_live o
  have hj' : (j : Int) < 5 := by omega
  simp only [VM.live] at hl
  unfold vindexAddr
  cases hh : VM.look K ⟨R, 0, some 0⟩ with
  | none => exact absurd hh hl
  | some r => simp [elp, hj', hh]
theorem grants1_c {K : Heap} {e : TypeId} {R i : Nat} {u : List Bool} (o : Ow Fl.bool e K (.slice (some ⟨R, 0, some 0⟩) 5 0) u) (hl : u.length = 5) (hi : i < 10) :
    vcall C frz 232 [.int .i64 (i : Int), .pointer (some ⟨R, 0, some 0⟩)] K = some (.bool (u.getD (i / 2) false), K) := by
  rw [vcall_go (fn := Tryz.f232) Tryz.func232 rfl (by kernel_rfl) rfl]
  obtain ⟨q, hq⟩ : ∃ q, q = i / 2 := ⟨_, rfl⟩
  rw [← hq]
  have e4 : ∀ [Inhabited Unit], IntKind.i64.wrap ((i : Int) / 2) = (q : Int) := by intro _; rw [w64 (by omega) (by omega)]; omega
  have q1 := arr_ix o (j := q) (by omega)
  have q2 := bl_ld o (j := q) (by omega)
  simp [e4, q1, q2]
theorem grants_w {v : NetV} {x : NetD} {id a : Nat} {e : TypeId} {tail : List Value} (hr : H[id]? = some ⟨netCells v x ++ tail, 0, e⟩) (o : dNet.Ow H v x) (hx : runOk x) (ha : (a : Int) < cnt x.1.1 x.1.2.1) :
   wp (vcall C frz 188 [.pointer (some ⟨id, 0, some 0⟩), .int .i64 a] H) (fun r H' => Ow grF 169 H' r (grN x a) ∧ (∀ i ∈ ids r, H.length ≤ i) ∧ Chg H H' []) := by
  have ones := dNet_one o
  have cr := cnt_range x.1.1 x.1.2.1
  have hidl := box_lt hr
  rw [vcall_go (fn := Tryz.f188) Tryz.func188 rfl (by kernel_rfl) rfl]
  have oB0 : Ow Fl.bool 215 (H ++ [⟨[], 0, 169⟩, ⟨[.bool false, .bool false, .bool false, .bool false, .bool false], 0, 215⟩]) (.slice (some ⟨H.length + 1, 0, some 0⟩) 5 0) (List.replicate 5 false) := Ow.new (D := Fl.bool) (xs := List.replicate 5 false) (k := 1) rfl rfl rfl rfl
  have oG0 : Ow grF 169 (H ++ [⟨[], 0, 169⟩, ⟨[.bool false, .bool false, .bool false, .bool false, .bool false], 0, 215⟩]) (.slice (some ⟨H.length, 0, some 0⟩) 0 0) [] := Ow.new0 (D := grF) (xs := []) rfl rfl rfl rfl
  have bp : bplaces Tryz.prog 215 = some [(0, 1), (1, 1), (2, 1), (3, 1), (4, 1)] := by kernel_rfl
  simp [bp]
  refine wp_inv (fun n t H' => ∃ (p : Nat) (r : Value), n = 5 - p ∧ p ≤ 5 ∧ t 0 = .pointer (some ⟨id, 0, some 0⟩) ∧ t 1 = .int .i64 a ∧ t 5 = r ∧ t 6 = .pointer (some ⟨H.length + 1, 0, some 0⟩) ∧ t 7 = .int .i64 p ∧ Chg H H' [] ∧
      Ow Fl.bool 215 H' (.slice (some ⟨H.length + 1, 0, some 0⟩) 5 0) (grTo x a p).2 ∧ Ow grF 169 H' r (grTo x a p).1 ∧ (∀ j ∈ ids r, H.length ≤ j ∧ j ≠ H.length + 1)) ?_ (n := 5)
    ⟨0, .slice (some ⟨H.length, 0, some 0⟩) 0 0, rfl, by omega, by simp, by simp, by simp, by simp, by simp, Chg.app _, oB0, oG0, by simp⟩
  rintro n t H' ⟨p, r, rfl, hp, t0, t1, t5, t6, t7, ch, oB, oG, nG⟩ ih
  simp [t0, t1, t5, t6, t7]
  refine wp_dec ?_ ?_ <;> intro g
  · have hp' : p < 5 := by omega
    obtain ⟨l5, gat, gnd, gle⟩ := grTo_ok x a p hp
    have gs := grTo_succ x a p
    unfold grStep at gs
    have r1 := box_chg hr ch (by simp)
    have o1 := Dt.chg (T := dNet) o ch (by simp)
    have hbl : H.length + 1 < H'.length := oB.lt _ (by simp)
    generalize grTo x a p = st at *
    simp [t0, t1, t5, t6, t7]
    refine wp_thn (requests_w r1 o1 hx ha hp') ?_
    rintro L H1 ⟨oL, nL, cL⟩
    have oB1 := oB.chg cL (by simp)
    have oG1 := oG.chg cL (by simp)
    have c1 := ch.trans cL
    simp [t0, t1, t5, t6, t7]
    have hrl : ((reqsN x a p).map Int.ofNat).length ≤ 10 := by
      rw [List.length_map]
      have h2 := List.length_filter_le (fun i => decide (reqN x a i p)) (List.range 10)
      rw [List.length_range] at h2
      exact h2
    refine wp_thn (deleteFunc_w L _ (fun y => st.2.getD (y / 2).toNat false) _ oL (by omega) (fun i hi => by have := nL i hi; have := ch.1; omega) (fun K hK F y hy => ?_)) ?_
    · obtain ⟨i, hi, rfl⟩ := List.mem_map.1 hy
      have hi10 : i < 10 := List.mem_range.1 (List.mem_filter.1 hi).1
      have := grants1_c (frz := F) (i := i) (oB1.chg hK (fun j hj hh => by have := nL j hh; simp at hj; omega)) l5 hi10
      simp
      exact this
    rintro U H2 ⟨oU, nU, cU⟩
    have fm : ((reqsN x a p).map Int.ofNat).filter (fun y => !(fun y => st.2.getD (y / 2).toNat false) y) = (freeN x a p st.2).map Int.ofNat := free_map
    rw [fm] at oU
    have c2 := c1.trans' cU (fun i hi => .inr (by have := nL i hi; have := ch.1; omega))
    have oB2 := oB1.chg cU (fun j hj hh => by have := nL j hh; simp at hj; omega)
    have lG := oG.lt
    have oG2 := oG1.chg cU (fun j hj hh => by have := nL j hh; have := lG j hj; omega)
    have r2 := box_chg hr c2 (by simp)
    have o2 := Dt.chg (T := dNet) o c2 (by simp)
    unfold netCells at r2
    simp only [List.cons_append, List.nil_append] at r2
    obtain ⟨z, hz⟩ : ∃ z, z = 5 * a + p := ⟨_, rfl⟩
    have hzl : z < x.2.2.2.2.1.length := by have := hx.2.1.2.2.1; omega
    have e1 : ∀ [Inhabited Unit], IntKind.i64.wrap (5 * (a : Int)) = 5 * (a : Int) := by intro _; exact w64 (by omega) (by omega)
    have e2 : ∀ [Inhabited Unit], IntKind.i64.wrap (5 * (a : Int) + (p : Int)) = (z : Int) := by intro _; rw [w64 (by omega) (by omega)]; omega
    have rd := Rd.isI o2.2.2.2.2.1.1.rd
    have q1 := rd.idx (P := Tryz.prog) (ty := 24) (e := 3) (by simp) (i := (z : Int)) (by omega) (by omega)
    have q2 := rd.load (P := Tryz.prog) (e := 3) (by simp) hzl
    simp only [Int.toNat_natCast] at q1 q2
    have hti : inR 0 (x.2.2.2.2.1.getD z 0) 9 := by
      have : x.2.2.2.2.1.getD z 0 = x.2.2.2.2.1[z] := by simp [List.getD_eq_getElem?_getD, hzl]
      rw [this]; exact hx.2.2.2.2 _ (List.getElem_mem hzl)
    have ff := fun F => firstFrom_c (frz := F) (H := H2) U _ _ oU.rd.isI (by have := free_len (x := x) (a := a) (p := p) (u := st.2); omega) free_in hti
    have hpk : firstF (x.2.2.2.2.1.getD z 0) ((freeN x a p st.2).map Int.ofNat) = pickN x a p st.2 := by rw [hz]; rfl
    rw [hpk] at ff
    generalize x.2.2.2.2.1.getD z 0 = T at *
    simp [t0, t1, t5, t6, t7, VM.look, VM.vnil, r2, ones, e1, e2, q1, q2, ff]
    by_cases g2 : 0 ≤ pickN x a p st.2
    rotate_left
    · rw [if_neg g2] at gs
      simp [t0, t1, t5, t6, t7, g2]
      refine ih (5 - (p + 1)) _ _ ⟨p + 1, r, rfl, by omega, by simp [t0], by simp [t1], by simp [t5], by simp [t6], ?_, c2, by rw [gs]; exact oB2, by rw [gs]; exact oG2, nG⟩ (by omega)
      simp [t7]; rw [w64 (by omega) (by omega)]
    rw [if_pos g2] at gs
    obtain ⟨k, hk, hk10⟩ := pick_lt g2
    rw [hk, Int.toNat_natCast] at gs
    obtain ⟨q, hq⟩ : ∃ q, q = k / 2 := ⟨_, rfl⟩
    rw [← hq] at gs
    have e4 : ∀ [Inhabited Unit], IntKind.i64.wrap ((k : Int) / 2) = (q : Int) := by intro _; rw [w64 (by omega) (by omega)]; omega
    have ai := arr_ix oB2 (j := q) (by omega)
    obtain ⟨H3, s3, oB3, c3, l3⟩ := oB2.put1 (P := Tryz.prog) (frz := H.length) rfl (et := 4) (ag := false) (by simp) (j := q) (x := .bool true) (y := true) (by omega) rfl rfl rfl (fun i hi => by simp at hi; omega)
    have c03 := c2.trans' c3 (fun i hi => .inr (by simp at hi; omega))
    have oG3 := oG2.chg c3 (fun j hj hh => (nG j hj).2 (by simpa using hh))
    have l03 := c03.1
    obtain ⟨r', H4, hap, oG4, c4, n4⟩ := oG3.push (P := Tryz.prog) (frz := H.length) (ty := 145) (a := (a, p, k)) (by simp) rfl (by omega) (fun i hi => (nG i hi).1)
    simp only [grF_f] at hap
    have oB4 := oB3.chg c4 (fun j hj hh => by simp at hj; exact (nG j hh).2 hj)
    have l2 := c2.1
    have l13 := ch.1
    have lcU := cU.1
    have lcL := cL.1
    simp [-vappend_nil, -vappend_mk, t0, t1, t5, t6, t7, hk, e4, ai, s3, hap]
    refine ih (5 - (p + 1)) _ _ ⟨p + 1, r', rfl, by omega, by simp [t0], by simp [t1], by simp, by simp [t6], ?_, c03.trans' c4 (fun i hi => .inr (nG i hi).1), by rw [gs]; exact oB4, by rw [gs]; exact oG4, fun j hj => ?_⟩ (by omega)
    · simp [t7]; rw [w64 (by omega) (by omega)]
    · rcases n4 j hj with h1 | h1
      · exact nG j h1
      · omega
  · have : p = 5 := by omega
    subst this
    simp [t0, t1, t5, t6, t7]
    exact ⟨oG, fun i hi => (nG i hi).1, ch⟩
end Go.Proofs.YtcigpclbhfkgaaaGreat.V
/-! All grants, and what enters. -/
set_option linter.all false
namespace Go.Proofs.YtcigpclbhfkgaaaGreat.V
open Go Go.VM Go.Proofs
set_option maxRecDepth 10000
variable {frz : Nat} {H : Heap}
theorem allTo_len (x : NetD) (n : Nat) : (allTo x n).length ≤ 5 * n := (allTo_ok x n).2.2
noncomputable def enterTo (x : NetD) (n : Nat) : List Nat := (List.range n).filter fun k => entersN x k
theorem enterTo_succ (x : NetD) (n : Nat) : enterTo x (n + 1) = if entersN x n then enterTo x n ++ [n] else enterTo x n := by
  unfold enterTo; rw [List.range_succ, List.filter_append]
  by_cases h : entersN x n <;> simp [h]
theorem enterTo_len (x : NetD) (n : Nat) : (enterTo x n).length ≤ n := by
  have := List.length_filter_le (fun k => decide (entersN x k)) (List.range n)
  rw [List.length_range] at this; exact this
theorem allGrants_w {v : NetV} {x : NetD} {id : Nat} {e : TypeId} {tail : List Value} (hr : H[id]? = some ⟨netCells v x ++ tail, 0, e⟩) (o : dNet.Ow H v x) (hx : runOk x) :
   wp (vcall C frz 151 [.pointer (some ⟨id, 0, some 0⟩)] H) (fun r H' => Ow grF 169 H' r (allN x) ∧ (∀ i ∈ ids r, H.length ≤ i) ∧ Chg H H' []) := by
  have ones := dNet_one o
  obtain ⟨N, hN⟩ : ∃ N : Nat, cnt x.1.1 x.1.2.1 = N := ⟨(cnt x.1.1 x.1.2.1).toNat, by have := cnt_range x.1.1 x.1.2.1; omega⟩
  have hN2 : N ≤ 16 := by have := cnt_range x.1.1 x.1.2.1; omega
  have hall : allN x = allTo x N := by unfold allN; rw [hN, Int.toNat_natCast]
  have hidl := box_lt hr
  rw [vcall_go (fn := Tryz.f151) Tryz.func151 rfl (by kernel_rfl) rfl]
  have hr' := hr
  unfold netCells at hr'
  simp only [List.cons_append, List.nil_append] at hr'
  have rd := (RdL.app (L := [⟨[], 0, 169⟩]) o.2.2.2.2.2.1.1.rd)
  have ll := rd.1.len (P := Tryz.prog) (ty := 44) (by simp)
  rw [rd.2.1] at ll
  have hsl : x.2.2.2.2.2.1.length = N := by have := hx.2.1.2.2.2.1; omega
  rw [hsl] at ll
  rw [hall]
  simp [VM.look, VM.vnil, hr', get_app' hr', ones, ll]
  refine wp_inv (fun n t H' => ∃ (i : Nat) (r : Value), n = N - i ∧ i ≤ N ∧ t 0 = .pointer (some ⟨id, 0, some 0⟩) ∧ t 3 = r ∧ t 10 = .int .i64 N ∧ t 11 = .int .i64 i ∧ Chg H H' [] ∧ Ow grF 169 H' r (allTo x i) ∧ (∀ j ∈ ids r, H.length ≤ j)) ?_ (n := N)
    ⟨0, .slice (some ⟨H.length, 0, some 0⟩) 0 0, rfl, by omega, by simp, by simp, by simp, by simp, Chg.app _, Ow.new0 (D := grF) (xs := []) rfl rfl rfl rfl, by simp⟩
  rintro n t H' ⟨i, r, rfl, hi, t0, t3, t10, t11, ch, oo, nr⟩ ih
  simp [t0, t3, t10, t11]
  refine wp_dec ?_ ?_ <;> intro g
  · have hi' : i < N := by omega
    have r1 := box_chg hr ch (by simp)
    have o1 := Dt.chg (T := dNet) o ch (by simp)
    simp [t0, t3, t10, t11]
    refine wp_thn (grants_w r1 o1 hx (a := i) (by omega)) ?_
    rintro L H1 ⟨oL, nL, cL⟩
    have l1 := ch.1
    have l2 := cL.1
    have al := allTo_len x i
    have gl := grN_len x i
    obtain ⟨r', H2, hap, o2, c2, n2⟩ := (oo.chg cL (by simp)).append (P := Tryz.prog) (frz := H.length) (ty := 145) oL.rd (by simp) (ones_grF _) (by omega) nr
    have asu := allTo_succ x i
    simp [-vappend_nil, -vappend_mk, t0, t3, t10, t11, hap]
    refine ih (N - (i + 1)) _ _ ⟨i + 1, r', rfl, by omega, by simp [t0], by simp, by simp [t10], ?_, (ch.trans cL).trans' c2 (fun j hj => .inr (nr j hj)), by rw [asu]; exact o2, fun j hj => ?_⟩ (by omega)
    · simp [t11]; rw [w64 (by omega) (by omega)]
    · rcases n2 j hj with h1 | h1
      · exact nr j h1
      · omega
  · have : i = N := by omega
    subst this
    simp [t0, t3, t10, t11]
    exact ⟨oo, nr, ch⟩
theorem entering_w {v : NetV} {x : NetD} {id : Nat} {e : TypeId} {tail : List Value} (hr : H[id]? = some ⟨netCells v x ++ tail, 0, e⟩) (o : dNet.Ow H v x) (hx : runOk x) :
   wp (vcall C frz 152 [.pointer (some ⟨id, 0, some 0⟩)] H) (fun r H' => Ow Fl.int 3 H' r ((enterN x).map Int.ofNat) ∧ (∀ i ∈ ids r, H.length ≤ i) ∧ Chg H H' []) := by
  have ones := dNet_one o
  obtain ⟨N, hN⟩ : ∃ N : Nat, cnt x.1.1 x.1.2.1 = N := ⟨(cnt x.1.1 x.1.2.1).toNat, by have := cnt_range x.1.1 x.1.2.1; omega⟩
  have hN2 : N ≤ 16 := by have := cnt_range x.1.1 x.1.2.1; omega
  have hall : enterN x = enterTo x N := by unfold enterN enterTo; rw [hN, Int.toNat_natCast]
  have hidl := box_lt hr
  rw [vcall_go (fn := Tryz.f152) Tryz.func152 rfl (by kernel_rfl) rfl]
  unfold netCells at hr
  simp only [List.cons_append, List.nil_append] at hr
  have rd := (RdL.app (L := [⟨[], 0, 3⟩]) o.2.2.2.2.2.1.1.rd)
  have ll := rd.1.len (P := Tryz.prog) (ty := 44) (by simp)
  rw [rd.2.1] at ll
  have hsl : x.2.2.2.2.2.1.length = N := by have := hx.2.1.2.2.2.1; omega
  have hbl : x.2.2.1.length = 10 * N := by have := hx.2.1.1; omega
  rw [hsl] at ll
  rw [hall]
  simp [VM.look, VM.vnil, hr, get_app' hr, ones, ll]
  refine wp_inv (fun n t H' => ∃ (i : Nat) (r : Value), n = N - i ∧ i ≤ N ∧ t 0 = .pointer (some ⟨id, 0, some 0⟩) ∧ t 3 = r ∧ t 10 = v.2.2.2.2.2.1.1 ∧ t 11 = .int .i64 N ∧ t 12 = .int .i64 i ∧ Chg H H' [] ∧ Ow Fl.int 3 H' r ((enterTo x i).map Int.ofNat) ∧ (∀ j ∈ ids r, H.length ≤ j)) ?_ (n := N)
    ⟨0, .slice (some ⟨H.length, 0, some 0⟩) 0 0, rfl, by omega, by simp, by simp, by simp, by simp, by simp, Chg.app _, Ow.new0 (D := Fl.int) (xs := []) rfl rfl rfl rfl, by simp⟩
  rintro n t H' ⟨i, r, rfl, hi, t0, t3, t10, t11, t12, ch, oo, nr⟩ ih
  simp [t0, t3, t10, t11, t12]
  refine wp_dec ?_ ?_ <;> intro g
  rotate_left
  · have : i = N := by omega
    subst this
    simp [t0, t3, t10, t11, t12]
    exact ⟨oo, nr, ch⟩
  have hi' : i < N := by omega
  have r1 := box_chg hr ch (by simp)
  have o1 := Dt.chg (T := dNet) o ch (by simp)
  have his : i < x.2.2.2.2.2.1.length := by omega
  obtain ⟨u, a1, a2, a3, a4⟩ := RdL_at o1.2.2.2.2.2.1.1.rd (ty := 44) (e := 113) (by simp) (by simp) his
  have la := a4.len (P := Tryz.prog) (ty := 113) (by simp)
  have qa : VM.one u = true ∧ u.cells = #[u] := ⟨a4.one', a4.cells⟩
  have hgd : x.2.2.2.2.2.1.getD i [] = x.2.2.2.2.2.1[i] := by simp [List.getD_eq_getElem?_getD, his]
  have hes := enterTo_succ x i
  have hel := enterTo_len x i
  simp [t0, t3, t10, t11, t12, a2, a3]
  rw [go_draw (h := by kernel_rfl)]
  by_cases g0 : x.2.2.2.2.2.1[i] = []
  · have hne : ¬ entersN x i := fun k => k.1 (by rw [hgd]; exact g0)
    rw [if_neg hne] at hes
    rw [g0] at la
    simp [t0, t3, t10, t11, t12, la]
    refine ih (N - (i + 1)) _ _ ⟨i + 1, r, rfl, by omega, by simp [t0], by simp [t3], by simp [t10], by simp [t11], ?_, ch, by rw [hes]; exact oo, nr⟩ (by omega)
    simp [t12]; rw [w64 (by omega) (by omega)]
  have g0' : 0 < x.2.2.2.2.2.1[i].length := List.length_pos_iff.2 g0
  obtain ⟨z0, f1, f2, f3, c1, c2, c3, _⟩ := front a4 g0
  obtain ⟨en1, en2, en3⟩ := ent_ok hx (k := i) (by rw [hgd]; exact g0)
  have hsh : srcHead x i = headL x.2.2.2.2.2.1[i] := by unfold srcHead; rw [hgd]
  have hcl := en1.2
  rw [hsh] at en2 hcl
  generalize headL x.2.2.2.2.2.1[i] = f at *
  have bA : ∀ F, vcall C F 154 [.int .i64 (i : Int), .int .i64 4, .int .i64 f.2.2.1] H' = some (.int .i64 (entAt x i : Int), H') := fun F => by
    rw [bufferAt_c, if_pos ⟨⟨by omega, by omega⟩, ⟨by omega, by omega⟩, hcl⟩, en2]; congr 3
  have key : entersN x i ↔ (x.2.2.1.getD (entAt x i) []).length < 3 := ⟨fun k => k.2, fun k => ⟨by rw [hgd]; exact g0, k⟩⟩
  have hzl : entAt x i < x.2.2.1.length := by unfold inR at hcl; omega
  generalize entAt x i = z at *
  obtain ⟨u', b1, b2, b3, b4⟩ := RdL_at o1.2.2.1.1.rd (ty := 44) (e := 113) (by simp) (by simp) hzl
  have lb := b4.len (P := Tryz.prog) (ty := 113) (by simp)
  have hgz : x.2.2.1.getD z [] = x.2.2.1[z] := by simp [List.getD_eq_getElem?_getD, hzl]
  have qb : VM.one u' = true ∧ u'.cells = #[u'] := ⟨b4.one', b4.cells⟩
  rw [hgz] at key
  simp [-vfieldAddr, vfa_ptr, t0, t3, t10, t11, t12, la, g0', VM.look, VM.vnil, r1, ones, z0, f2, c2, bA, b2, b3, lb]
  refine wp_dec ?_ ?_ <;> intro g1
  · rw [if_pos (key.2 (by omega))] at hes
    obtain ⟨r', H2, hap, o2, c2', n2⟩ := oo.push (P := Tryz.prog) (frz := H.length) (ty := 24) (a := (i : Int)) (by simp) rfl (by simp; omega) nr
    simp only [Fl.int_f] at hap
    have l0 := ch.1
    simp [t0, t3, t10, t11, t12, hap]
    refine ih (N - (i + 1)) _ _ ⟨i + 1, r', rfl, by omega, by simp [t0], by simp, by simp [t10], by simp [t11], ?_, ch.trans' c2' (fun j hj => .inr (nr j hj)), ?_, fun j hj => ?_⟩ (by omega)
    · simp [t12]; rw [w64 (by omega) (by omega)]
    · rw [hes, List.map_append]; exact o2
    · rcases n2 j hj with h1 | h1
      · exact nr j h1
      · omega
  · rw [if_neg (fun k => by have := key.1 k; omega)] at hes
    simp [t0, t3, t10, t11, t12]
    refine ih (N - (i + 1)) _ _ ⟨i + 1, r, rfl, by omega, by simp [t0], by simp [t3], by simp [t10], by simp [t11], ?_, ch, by rw [hes]; exact oo, nr⟩ (by omega)
    simp [t12]; rw [w64 (by omega) (by omega)]
end Go.Proofs.YtcigpclbhfkgaaaGreat.V
/-! All grants, and what enters: the reference. -/
set_option linter.all false
namespace Go.Proofs.YtcigpclbhfkgaaaGreat.V
open Go Go.VM Go.Proofs
set_option maxRecDepth 10000
variable {frz : Nat} {H : Heap}
/-- the free requests of a port, seen up to an input -/
noncomputable def freeTo (x : NetD) (a p : Nat) (u : List Bool) (n : Nat) : List Nat := (List.range n).filter fun i => !u.getD (i / 2) false && decide (reqN x a i p)
theorem freeTo_all (x : NetD) (a p : Nat) (u : List Bool) : freeTo x a p u 10 = freeN x a p u := by
  unfold freeTo freeN reqsN; rw [List.filter_filter]
theorem freeTo_succ (x : NetD) (a p : Nat) (u : List Bool) (n : Nat) : freeTo x a p u (n + 1) = if u.getD (n / 2) false = false ∧ reqN x a n p then freeTo x a p u n ++ [n] else freeTo x a p u n := by
  unfold freeTo; rw [List.range_succ, List.filter_append]
  by_cases h : u.getD (n / 2) false = false
  · by_cases h2 : reqN x a n p
    · rw [if_pos ⟨h, h2⟩]; simp only [List.filter_cons, h, h2]; simp
    · rw [if_neg (fun k => h2 k.2)]; simp only [List.filter_cons, h, h2]; simp
  · rw [if_neg (fun k => h k.1)]
    have h' : u.getD (n / 2) false = true := by simpa using h
    simp only [List.filter_cons, h']; simp
theorem freeTo_len (x : NetD) (a p : Nat) (u : List Bool) (n : Nat) : (freeTo x a p u n).length ≤ n := by
  have := List.length_filter_le (fun i => !u.getD (i / 2) false && decide (reqN x a i p)) (List.range n)
  rw [List.length_range] at this; exact this
theorem sl_ix {K : Heap} {e : TypeId} {v : Value} {u : List Bool} (o : Ow Fl.bool e K v u) {j : Nat} (hj : j < u.length) : vindexAddr Tryz.prog K 210 v (.int .i64 (j : Int)) = some (elp v j) := by
  have := o.rd.idx (P := Tryz.prog) (ty := 210) (e := 4) (by simp) (i := (j : Int)) (by omega) (by omega)
  simpa using this
theorem l18Grants_w {v : NetV} {x : NetD} {a : Nat} (o : dNet.Ow H v x) (hx : runOk x) (ha : (a : Int) < cnt x.1.1 x.1.2.1) :
   wp (vcall C frz 172 [dNet.val v x, .int .i64 a] H) (fun r H' => Ow grF 169 H' r (grN x a) ∧ (∀ i ∈ ids r, H.length ≤ i) ∧ Chg H H' []) := by
  have ones := dNet_one o
  have cr := cnt_range x.1.1 x.1.2.1
  simp only [dNet_val]
  rw [vcall_go (fn := Tryz.f172) Tryz.func172 rfl (by kernel_rfl) rfl]
  obtain ⟨G, hG⟩ : ∃ G, G = H ++ [⟨netCells v x, 0, 46⟩, ⟨[], 0, 169⟩, ⟨[.bool false, .bool false, .bool false, .bool false, .bool false], 0, 4⟩] := ⟨_, rfl⟩
  have oB0 : Ow Fl.bool 4 G (.slice (some ⟨H.length + 2, 0, some 0⟩) 5 0) (List.replicate 5 false) := by rw [hG]; exact Ow.new (D := Fl.bool) (xs := List.replicate 5 false) (k := 2) rfl rfl rfl rfl
  have oG0 : Ow grF 169 G (.slice (some ⟨H.length + 1, 0, some 0⟩) 0 0) [] := by rw [hG]; exact Ow.new (D := grF) (xs := []) (k := 1) rfl rfl rfl rfl
  have cG : Chg H G [] := by rw [hG]; exact Chg.app _
  have hr : G[H.length]? = some ⟨netCells v x, 0, 46⟩ := by rw [hG]; simp
  have hGs : H ++ [⟨netCells v x, 0, 46⟩, ⟨[], 0, 169⟩, ⟨[.bool false, .bool false, .bool false, .bool false, .bool false], 0, 4⟩] = G := hG.symm
  have lG0 : G.length = H.length + 3 := by rw [hG]; simp
  unfold netCells at hr hGs
  simp [ones]
  rw [hGs]
  clear hG hGs
  refine wp_inv (fun n t H' => ∃ (p : Nat) (r : Value), n = 5 - p ∧ p ≤ 5 ∧ t 1 = .int .i64 a ∧ t 2 = .pointer (some ⟨H.length, 0, some 0⟩) ∧ t 5 = r ∧ t 6 = .slice (some ⟨H.length + 2, 0, some 0⟩) 5 0 ∧ t 7 = .int .i64 p ∧ Chg H H' [] ∧ H'[H.length]? = some ⟨netCells v x, 0, 46⟩ ∧
      Ow Fl.bool 4 H' (.slice (some ⟨H.length + 2, 0, some 0⟩) 5 0) (grTo x a p).2 ∧ Ow grF 169 H' r (grTo x a p).1 ∧ (∀ j ∈ ids r, H.length + 1 ≤ j ∧ j ≠ H.length + 2)) ?_ (n := 5)
    ⟨0, .slice (some ⟨H.length + 1, 0, some 0⟩) 0 0, rfl, by omega, by simp, by simp, by simp, by simp, by simp, cG, by unfold netCells; exact hr, oB0, oG0, by simp⟩
  rintro n t H' ⟨p, r, rfl, hp, t1, t2, t5, t6, t7, ch, b0, oB, oG, nG⟩ ih
  simp [t1, t2, t5, t6, t7]
  refine wp_dec ?_ ?_ <;> intro g
  rotate_left
  · have : p = 5 := by omega
    subst this
    simp [t1, t2, t5, t6, t7]
    exact ⟨oG, fun i hi => by have := (nG i hi).1; omega, ch⟩
  have hp' : p < 5 := by omega
  obtain ⟨l5, gat, gnd, gle⟩ := grTo_ok x a p hp
  have gs := grTo_succ x a p
  unfold grStep at gs
  have hbl : H.length + 2 < H'.length := oB.lt _ (by simp)
  have lGr := oG.lt
  generalize grTo x a p = st at *
  simp [t1, t2, t5, t6, t7]
  refine wp_inv (fun n t1' H1 => ∃ (i : Nat) (f : Value), n = 10 - i ∧ i ≤ 10 ∧ t1' 1 = .int .i64 a ∧ t1' 2 = .pointer (some ⟨H.length, 0, some 0⟩) ∧ t1' 5 = r ∧ t1' 6 = .slice (some ⟨H.length + 2, 0, some 0⟩) 5 0 ∧ t1' 7 = .int .i64 p ∧ t1' 8 = f ∧ t1' 9 = .int .i64 i ∧ Chg H' H1 [] ∧
      Ow Fl.int 3 H1 f ((freeTo x a p st.2 i).map Int.ofNat) ∧ (∀ j ∈ ids f, H'.length ≤ j)) ?_ (n := 10)
    ⟨0, .slice (some ⟨H'.length, 0, some 0⟩) 0 0, rfl, by omega, by simp [t1], by simp [t2], by simp [t5], by simp [t6], by simp [t7], by simp, by simp, Chg.app _, Ow.new0 (D := Fl.int) (xs := []) rfl rfl rfl rfl, by simp⟩
  clear t1 t2 t5 t6 t7
  rintro n t H1 ⟨i, f, rfl, hi, t1, t2, t5, t6, t7, t8, t9, c1, oF, nF⟩ ih2
  have c01 := ch.trans c1
  have b1 := box_chg b0 c1 (by simp)
  have o1 := Dt.chg (T := dNet) o c01 (by simp)
  have oB1 := oB.chg c1 (by simp)
  unfold netCells at b1
  have l1 := c1.1
  simp [t1, t2, t5, t6, t7, t8, t9]
  refine wp_dec ?_ ?_ <;> intro g1
  · have hi' : i < 10 := by omega
    obtain ⟨q, hq⟩ : ∃ q, q = i / 2 := ⟨_, rfl⟩
    have e4 : ∀ [Inhabited Unit], IntKind.i64.wrap ((i : Int) / 2) = (q : Int) := by intro _; rw [w64 (by omega) (by omega)]; omega
    have fs := freeTo_succ x a p st.2 i
    have fl := freeTo_len x a p st.2 i
    rw [← hq] at fs
    have q1 := sl_ix oB1 (j := q) (by omega)
    have q2 := bl_ld oB1 (j := q) (by omega)
    have rq := fun F => l17Request_c (frz := F) (H := H1) (i := i) o1 hx ha hi' hp'
    simp only [dNet_val] at rq
    generalize st.2.getD q false = B at *
    simp [t1, t2, t5, t6, t7, t8, t9, e4, q1, q2]
    cases B with
    | true =>
      rw [if_neg (by simp)] at fs
      simp [t1, t2, t5, t6, t7, t8, t9]
      refine ih2 (10 - (i + 1)) _ _ ⟨i + 1, f, rfl, by omega, by simp [t1], by simp [t2], by simp [t5], by simp [t6], by simp [t7], by simp [t8], ?_, c1, by rw [fs]; exact oF, nF⟩ (by omega)
      simp [t9]; rw [w64 (by omega) (by omega)]
    | false =>
      simp [t1, t2, t5, t6, t7, t8, t9, VM.look, b1, ones, rq]
      by_cases g2 : reqN x a i p
      · rw [if_pos ⟨rfl, g2⟩] at fs
        obtain ⟨f', H2, hap, o2, c2, n2⟩ := oF.push (P := Tryz.prog) (frz := H.length) (ty := 24) (a := (i : Int)) (by simp) rfl (by simp; omega) (fun j hj => by have := nF j hj; omega)
        simp only [Fl.int_f] at hap
        have hF1 : H.length ≤ H1.length := by omega
        simp [t1, t2, t5, t6, t7, t8, t9, g2, hap, hF1]
        refine ih2 (10 - (i + 1)) _ _ ⟨i + 1, f', rfl, by omega, by simp [t1], by simp [t2], by simp [t5], by simp [t6], by simp [t7], by simp, ?_, c1.trans' c2 (fun j hj => .inr (nF j hj)), ?_, fun j hj => ?_⟩ (by omega)
        · simp [t9]; rw [w64 (by omega) (by omega)]
        · rw [fs, List.map_append]; exact o2
        · rcases n2 j hj with h1 | h1
          · exact nF j h1
          · omega
      · rw [if_neg (fun k => g2 k.2)] at fs
        simp [t1, t2, t5, t6, t7, t8, t9, g2]
        refine ih2 (10 - (i + 1)) _ _ ⟨i + 1, f, rfl, by omega, by simp [t1], by simp [t2], by simp [t5], by simp [t6], by simp [t7], by simp [t8], ?_, c1, by rw [fs]; exact oF, nF⟩ (by omega)
        simp [t9]; rw [w64 (by omega) (by omega)]
  have hi10 : i = 10 := by omega
  subst hi10
  clear ih2
  rw [freeTo_all] at oF
  obtain ⟨z, hz⟩ : ∃ z, z = 5 * a + p := ⟨_, rfl⟩
  have hzl : z < x.2.2.2.2.1.length := by have := hx.2.1.2.2.1; omega
  have e1 : ∀ [Inhabited Unit], IntKind.i64.wrap (5 * (a : Int)) = 5 * (a : Int) := by intro _; exact w64 (by omega) (by omega)
  have e2 : ∀ [Inhabited Unit], IntKind.i64.wrap (5 * (a : Int) + (p : Int)) = (z : Int) := by intro _; rw [w64 (by omega) (by omega)]; omega
  have rd := Rd.isI o1.2.2.2.2.1.1.rd
  have q1 := rd.idx (P := Tryz.prog) (ty := 24) (e := 3) (by simp) (i := (z : Int)) (by omega) (by omega)
  have q2 := rd.load (P := Tryz.prog) (e := 3) (by simp) hzl
  simp only [Int.toNat_natCast] at q1 q2
  have hti : inR 0 (x.2.2.2.2.1.getD z 0) 9 := by
    have : x.2.2.2.2.1.getD z 0 = x.2.2.2.2.1[z] := by simp [List.getD_eq_getElem?_getD, hzl]
    rw [this]; exact hx.2.2.2.2 _ (List.getElem_mem hzl)
  have ff := fun F => sFirstFrom_c (frz := F) (H := H1) f _ _ oF.rd.isI (by have := free_len (x := x) (a := a) (p := p) (u := st.2); omega) free_in hti
  have hpk : firstF (x.2.2.2.2.1.getD z 0) ((freeN x a p st.2).map Int.ofNat) = pickN x a p st.2 := by rw [hz]; rfl
  rw [hpk] at ff
  have oG1 := oG.chg c1 (by simp)
  generalize x.2.2.2.2.1.getD z 0 = T at *
  simp [t1, t2, t5, t6, t7, t8, t9, VM.look, b1, ones, e1, e2, q1, q2, ff]
  by_cases g2 : 0 ≤ pickN x a p st.2
  rotate_left
  · rw [if_neg g2] at gs
    simp [t1, t2, t5, t6, t7, g2]
    refine ih (5 - (p + 1)) _ _ ⟨p + 1, r, rfl, by omega, by simp [t1], by simp [t2], by simp [t5], by simp [t6], ?_, ch.trans c1, by unfold netCells; exact b1, by rw [gs]; exact oB1, by rw [gs]; exact oG1, nG⟩ (by omega)
    simp [t7]; rw [w64 (by omega) (by omega)]
  rw [if_pos g2] at gs
  obtain ⟨k, hk, hk10⟩ := pick_lt g2
  rw [hk, Int.toNat_natCast] at gs
  obtain ⟨q, hq⟩ : ∃ q, q = k / 2 := ⟨_, rfl⟩
  rw [← hq] at gs
  have e4 : ∀ [Inhabited Unit], IntKind.i64.wrap ((k : Int) / 2) = (q : Int) := by intro _; rw [w64 (by omega) (by omega)]; omega
  have ai := sl_ix oB1 (j := q) (by omega)
  obtain ⟨H3, s3, oB3, c3, l3⟩ := oB1.put1 (P := Tryz.prog) (frz := H.length) rfl (et := 4) (ag := false) (by simp) (j := q) (x := .bool true) (y := true) (by omega) rfl rfl rfl (fun i hi => by simp at hi; omega)
  have c13 := (ch.trans c1).trans' c3 (fun i hi => .inr (by simp at hi; omega))
  have oG3 := oG1.chg c3 (fun j hj hh => (nG j hj).2 (by simpa using hh))
  have b3 := box_chg b1 c3 (by simp)
  obtain ⟨r', H4, hap, oG4, c4, n4⟩ := oG3.push (P := Tryz.prog) (frz := H.length) (ty := 145) (a := (a, p, k)) (by simp) rfl (by omega) (fun i hi => by have := (nG i hi).1; omega)
  simp only [grF_f] at hap
  have oB4 := oB3.chg c4 (fun j hj hh => by simp at hj; exact (nG j hh).2 hj)
  have b4 := box_chg b3 c4 (fun hh => by have := (nG _ hh).1; omega)
  simp [-vappend_nil, -vappend_mk, t1, t2, t5, t6, t7, hk, e4, ai, s3, hap]
  refine ih (5 - (p + 1)) _ _ ⟨p + 1, r', rfl, by omega, by simp [t1], by simp [t2], by simp, by simp [t6], ?_, c13.trans' c4 (fun i hi => .inr (by have := (nG i hi).1; omega)), by unfold netCells; exact b4, by rw [gs]; exact oB4, by rw [gs]; exact oG4, fun j hj => ?_⟩ (by omega)
  · simp [t7]; rw [w64 (by omega) (by omega)]
  · rcases n4 j hj with h1 | h1
    · exact nG j h1
    · have := c3.1; omega
theorem l18All_w {v : NetV} {x : NetD} (o : dNet.Ow H v x) (hx : runOk x) :
   wp (vcall C frz 123 [dNet.val v x] H) (fun r H' => Ow grF 169 H' r (allN x) ∧ (∀ i ∈ ids r, H.length ≤ i) ∧ Chg H H' []) := by
  have ones := dNet_one o
  obtain ⟨N, hN⟩ : ∃ N : Nat, cnt x.1.1 x.1.2.1 = N := ⟨(cnt x.1.1 x.1.2.1).toNat, by have := cnt_range x.1.1 x.1.2.1; omega⟩
  have hN2 : N ≤ 16 := by have := cnt_range x.1.1 x.1.2.1; omega
  have hall : allN x = allTo x N := by unfold allN; rw [hN, Int.toNat_natCast]
  simp only [dNet_val]
  rw [vcall_go (fn := Tryz.f123) Tryz.func123 rfl (by kernel_rfl) rfl]
  obtain ⟨G, hG⟩ : ∃ G, G = H ++ [⟨netCells v x, 0, 46⟩, ⟨[], 0, 169⟩] := ⟨_, rfl⟩
  have oG0 : Ow grF 169 G (.slice (some ⟨H.length + 1, 0, some 0⟩) 0 0) [] := by rw [hG]; exact Ow.new (D := grF) (xs := []) (k := 1) rfl rfl rfl rfl
  have cG : Chg H G [] := by rw [hG]; exact Chg.app _
  have hr : G[H.length]? = some ⟨netCells v x, 0, 46⟩ := by rw [hG]; simp
  have hGs : H ++ [⟨netCells v x, 0, 46⟩, ⟨[], 0, 169⟩] = G := hG.symm
  have lG0 : G.length = H.length + 2 := by rw [hG]; simp
  unfold netCells at hr hGs
  rw [hall]
  simp [ones]
  rw [hGs]
  clear hG hGs
  refine wp_inv (fun n t H' => ∃ (i : Nat) (r : Value), n = N - i ∧ i ≤ N ∧ t 1 = .pointer (some ⟨H.length, 0, some 0⟩) ∧ t 3 = r ∧ t 4 = .int .i64 i ∧ Chg H H' [] ∧ H'[H.length]? = some ⟨netCells v x, 0, 46⟩ ∧ Ow grF 169 H' r (allTo x i) ∧ (∀ j ∈ ids r, H.length + 1 ≤ j)) ?_ (n := N)
    ⟨0, .slice (some ⟨H.length + 1, 0, some 0⟩) 0 0, rfl, by omega, by simp, by simp, by simp, cG, by unfold netCells; exact hr, oG0, by simp⟩
  rintro n t H' ⟨i, r, rfl, hi, t1, t3, t4, ch, b0, oo, nr⟩ ih
  have o1 := Dt.chg (T := dNet) o ch (by simp)
  have b0' := b0
  unfold netCells at b0'
  have nc := fun F => nodeCount_c (frz := F) (H := H') x.1.1 x.1.2.1
  have nc2 := fun F => sNodeCount_c (frz := F) (H := H') x.1.1 x.1.2.1
  rw [hN] at nc nc2
  simp [t1, t3, t4, VM.look, b0', ones, nc, nc2]
  refine wp_dec ?_ ?_ <;> intro g
  · have hi' : i < N := by omega
    have gr := l18Grants_w (frz := H.length) (a := i) o1 hx (by omega)
    simp only [dNet_val] at gr
    simp [t1, t3, t4, VM.look, b0', ones]
    refine wp_thn gr ?_
    rintro L H1 ⟨oL, nL, cL⟩
    have l1 := ch.1
    have l2 := cL.1
    have al := allTo_len x i
    have gl := grN_len x i
    have b1 := box_chg b0 cL (by simp)
    obtain ⟨r', H2, hap, o2, c2, n2⟩ := (oo.chg cL (by simp)).append (P := Tryz.prog) (frz := H.length) (ty := 145) oL.rd (by simp) (ones_grF _) (by omega) (fun j hj => by have := nr j hj; omega)
    have asu := allTo_succ x i
    simp [-vappend_nil, -vappend_mk, t1, t3, t4, hap]
    refine ih (N - (i + 1)) _ _ ⟨i + 1, r', rfl, by omega, by simp [t1], by simp, ?_, (ch.trans cL).trans' c2 (fun j hj => .inr (by have := nr j hj; omega)), box_chg b1 c2 (fun hh => by have := nr _ hh; omega), by rw [asu]; exact o2, fun j hj => ?_⟩ (by omega)
    · simp [t4]; rw [w64 (by omega) (by omega)]
    · rcases n2 j hj with h1 | h1
      · exact nr j h1
      · have := box_lt b0; omega
  · have : i = N := by omega
    subst this
    simp [t1, t3, t4]
    exact ⟨oo, fun j hj => by have := nr j hj; omega, ch⟩
theorem l19Entering_w {v : NetV} {x : NetD} (o : dNet.Ow H v x) (hx : runOk x) :
   wp (vcall C frz 124 [dNet.val v x] H) (fun r H' => Ow Fl.int 3 H' r ((enterN x).map Int.ofNat) ∧ (∀ i ∈ ids r, H.length ≤ i) ∧ Chg H H' []) := by
  have ones := dNet_one o
  obtain ⟨N, hN⟩ : ∃ N : Nat, cnt x.1.1 x.1.2.1 = N := ⟨(cnt x.1.1 x.1.2.1).toNat, by have := cnt_range x.1.1 x.1.2.1; omega⟩
  have hN2 : N ≤ 16 := by have := cnt_range x.1.1 x.1.2.1; omega
  have hall : enterN x = enterTo x N := by unfold enterN enterTo; rw [hN, Int.toNat_natCast]
  simp only [dNet_val]
  rw [vcall_go (fn := Tryz.f124) Tryz.func124 rfl (by kernel_rfl) rfl]
  have hsl : x.2.2.2.2.2.1.length = N := by have := hx.2.1.2.2.2.1; omega
  have hbl : x.2.2.1.length = 10 * N := by have := hx.2.1.1; omega
  obtain ⟨G, hG⟩ : ∃ G, G = H ++ [⟨netCells v x, 0, 46⟩, ⟨[], 0, 3⟩] := ⟨_, rfl⟩
  have oG0 : Ow Fl.int 3 G (.slice (some ⟨H.length + 1, 0, some 0⟩) 0 0) [] := by rw [hG]; exact Ow.new (D := Fl.int) (xs := []) (k := 1) rfl rfl rfl rfl
  have cG : Chg H G [] := by rw [hG]; exact Chg.app _
  have hr : G[H.length]? = some ⟨netCells v x, 0, 46⟩ := by rw [hG]; simp
  have hGs : H ++ [⟨netCells v x, 0, 46⟩, ⟨[], 0, 3⟩] = G := hG.symm
  unfold netCells at hr hGs
  rw [hall]
  simp [ones]
  rw [hGs]
  clear hG hGs
  refine wp_inv (fun n t H' => ∃ (i : Nat) (r : Value), n = N - i ∧ i ≤ N ∧ t 1 = .pointer (some ⟨H.length, 0, some 0⟩) ∧ t 3 = r ∧ t 4 = .int .i64 i ∧ Chg H H' [] ∧ H'[H.length]? = some ⟨netCells v x, 0, 46⟩ ∧ Ow Fl.int 3 H' r ((enterTo x i).map Int.ofNat) ∧ (∀ j ∈ ids r, H.length + 1 ≤ j)) ?_ (n := N)
    ⟨0, .slice (some ⟨H.length + 1, 0, some 0⟩) 0 0, rfl, by omega, by simp, by simp, by simp, cG, by unfold netCells; exact hr, oG0, by simp⟩
  rintro n t H' ⟨i, r, rfl, hi, t1, t3, t4, ch, b0, oo, nr⟩ ih
  have r1 := b0
  unfold netCells at r1
  have o1 := Dt.chg (T := dNet) o ch (by simp)
  have rd := o1.2.2.2.2.2.1.1.rd
  have ll := rd.1.len (P := Tryz.prog) (ty := 44) (by simp)
  rw [rd.2.1, hsl] at ll
  simp [t1, t3, t4, VM.look, r1, ones, ll]
  refine wp_dec ?_ ?_ <;> intro g
  rotate_left
  · have : i = N := by omega
    subst this
    simp [t1, t3, t4]
    exact ⟨oo, fun j hj => by have := nr j hj; omega, ch⟩
  have hi' : i < N := by omega
  have his : i < x.2.2.2.2.2.1.length := by omega
  obtain ⟨u, a1, a2, a3, a4⟩ := RdL_at o1.2.2.2.2.2.1.1.rd (ty := 44) (e := 113) (by simp) (by simp) his
  have la := a4.len (P := Tryz.prog) (ty := 113) (by simp)
  have qa : VM.one u = true ∧ u.cells = #[u] := ⟨a4.one', a4.cells⟩
  have hgd : x.2.2.2.2.2.1.getD i [] = x.2.2.2.2.2.1[i] := by simp [List.getD_eq_getElem?_getD, his]
  have hes := enterTo_succ x i
  have hel := enterTo_len x i
  simp [t1, t3, t4]
  rw [go_draw (h := by kernel_rfl)]
  by_cases g0 : x.2.2.2.2.2.1[i] = []
  · have hne : ¬ entersN x i := fun k => k.1 (by rw [hgd]; exact g0)
    rw [if_neg hne] at hes
    rw [g0] at la
    simp [t1, t3, t4, VM.look, r1, ones, a2, a3, la]
    refine ih (N - (i + 1)) _ _ ⟨i + 1, r, rfl, by omega, by simp [t1], by simp [t3], ?_, ch, b0, by rw [hes]; exact oo, nr⟩ (by omega)
    simp [t4]; rw [w64 (by omega) (by omega)]
  have g0' : 0 < x.2.2.2.2.2.1[i].length := List.length_pos_iff.2 g0
  obtain ⟨z0, f1, f2, f3, c1, c2, c3, _⟩ := front a4 g0
  obtain ⟨en1, en2, en3⟩ := ent_ok hx (k := i) (by rw [hgd]; exact g0)
  have hsh : srcHead x i = headL x.2.2.2.2.2.1[i] := by unfold srcHead; rw [hgd]
  have hcl := en1.2
  rw [hsh] at en2 hcl
  generalize headL x.2.2.2.2.2.1[i] = f at *
  have key : entersN x i ↔ (x.2.2.1.getD (entAt x i) []).length < 3 := ⟨fun k => k.2, fun k => ⟨by rw [hgd]; exact g0, k⟩⟩
  have hzl : entAt x i < x.2.2.1.length := by unfold inR at hcl; omega
  unfold inR at hcl
  generalize entAt x i = z at *
  have e1 : ∀ [Inhabited Unit], IntKind.i64.wrap (10 * (i : Int)) = 10 * (i : Int) := by intro _; exact w64 (by omega) (by omega)
  have e2 : ∀ [Inhabited Unit], IntKind.i64.wrap (10 * (i : Int) + 8) = 10 * (i : Int) + 8 := by intro _; exact w64 (by omega) (by omega)
  have e3 : ∀ [Inhabited Unit], IntKind.i64.wrap (10 * (i : Int) + 8 + f.2.2.1) = (z : Int) := by intro _; rw [w64 (by omega) (by omega)]; omega
  obtain ⟨u', b1, b2, b3, b4⟩ := RdL_at o1.2.2.1.1.rd (ty := 44) (e := 113) (by simp) (by simp) hzl
  have lb := b4.len (P := Tryz.prog) (ty := 113) (by simp)
  have hgz : x.2.2.1.getD z [] = x.2.2.1[z] := by simp [List.getD_eq_getElem?_getD, hzl]
  have qb : VM.one u' = true ∧ u'.cells = #[u'] := ⟨b4.one', b4.cells⟩
  rw [hgz] at key
  simp [-vfieldAddr, vfa_ptr, t1, t3, t4, la, g0', VM.look, r1, ones, a2, a3, z0, f2, c2, e1, e2, e3, b2, b3, lb]
  refine wp_dec ?_ ?_ <;> intro g1
  · rw [if_pos (key.2 (by omega))] at hes
    obtain ⟨r', H2, hap, o2, c2', n2⟩ := oo.push (P := Tryz.prog) (frz := H.length) (ty := 24) (a := (i : Int)) (by simp) rfl (by simp; omega) (fun j hj => by have := nr j hj; omega)
    simp only [Fl.int_f] at hap
    have l0 := ch.1
    simp [t1, t3, t4, hap]
    refine ih (N - (i + 1)) _ _ ⟨i + 1, r', rfl, by omega, by simp [t1], by simp, ?_, ch.trans' c2' (fun j hj => .inr (by have := nr j hj; omega)), box_chg b0 c2' (fun hh => by have := nr _ hh; omega), ?_, fun j hj => ?_⟩ (by omega)
    · simp [t4]; rw [w64 (by omega) (by omega)]
    · rw [hes, List.map_append]; exact o2
    · rcases n2 j hj with h1 | h1
      · exact nr j h1
      · have := box_lt b0; omega
  · rw [if_neg (fun k => by have := key.1 k; omega)] at hes
    simp [t1, t3, t4]
    refine ih (N - (i + 1)) _ _ ⟨i + 1, r, rfl, by omega, by simp [t1], by simp [t3], ?_, ch, b0, by rw [hes]; exact oo, nr⟩ (by omega)
    simp [t4]; rw [w64 (by omega) (by omega)]
end Go.Proofs.YtcigpclbhfkgaaaGreat.V
/-! One list of a list of lists is cut at the front, or grows at the end. -/
set_option linter.all false
namespace Go.Proofs.YtcigpclbhfkgaaaGreat.V
open Go Go.VM Go.Proofs
set_option maxRecDepth 10000
variable {frz : Nat} {H : Heap}
theorem upd_at {s : SSD} {j : Nat} (h : j < s.length) (f : List FlitD → List FlitD) : upd s j f = s.set j (f s[j]) := by
  unfold upd; rw [List.getD_eq_getElem?_getD, List.getElem?_eq_getElem h]; rfl
/-- what holds after one inner slice has been stored -/
structure Put (K K3 : Heap) (u u' : SSV) (s' : SSD) : Prop where
  hd : u'.1 = u.1
  ow : dSS.Ow K3 u' s'
  nd : (dSS.ids u').Nodup
  ids : ∀ i ∈ dSS.ids u', i ∈ dSS.ids u ∨ K.length ≤ i
  chg : Chg K K3 (dSS.ids u)
theorem ss_hd {K : Heap} {u : SSV} {s : SSD} (o : dSS.Ow K u s) {j : Nat} (hj : j < s.length) :
    ∃ a, u.2[j]? = some a ∧ vindexAddr Tryz.prog K 44 u.1 (.int .i64 (j : Int)) = some (elp u.1 j) ∧ vload Tryz.prog K 113 (elp u.1 j) = some a ∧ Ow flF 157 K a s[j] ∧ VM.one a = true ∧ a.cells = #[a] ∧ VM.live K u.1 := by
  obtain ⟨a, a1, a2, a3, a4⟩ := RdL_at o.1.rd (ty := 44) (e := 113) (by simp) (by simp) hj
  have oa := o.1.2.2 j a s[j] a1 (by simp [hj])
  exact ⟨a, a1, a2, a3, oa, a4.one', a4.cells, Ow_live o.1.1⟩
theorem ss_push {K : Heap} {u : SSV} {s : SSD} {j : Nat} {a : Value} (o : dSS.Ow K u s) (nd : (dSS.ids u).Nodup) (hj : j < s.length) (hb : s[j].length + 1 ≤ 67108864) (hf : ∀ i ∈ dSS.ids u, frz ≤ i) (ha : u.2[j]? = some a) (y : FlitD) :
    ∃ a' K2 K3, vappend Tryz.prog frz (K ++ [⟨flF.f y, 0, 157⟩]) 113 113 a (.slice (some ⟨K.length, 0, some 0⟩) 1 0) = some (a', K2) ∧ vindexAddr Tryz.prog K2 44 u.1 (.int .i64 (j : Int)) = some (elp u.1 j) ∧
      vstore Tryz.prog frz K2 113 a' (elp u.1 j) = some K3 ∧ VM.live K2 u.1 ∧ VM.live K3 u.1 ∧ VM.one a' = true ∧ a'.cells = #[a'] ∧ Chg K K2 (ids a) ∧ Put K K3 u (u.1, u.2.set j a') (upd s j (· ++ [y])) := by
  have hj' : j < u.2.length := by rw [o.1.2.1]; exact hj
  have ea : u.2[j] = a := by rw [List.getElem?_eq_getElem hj'] at ha; exact Option.some.inj ha
  have oa : Ow flF 157 K a s[j] := o.1.2.2 j a _ ha (by simp [hj])
  have hia : ∀ i ∈ ids a, i ∈ dSS.ids u := fun i hi => mem_idsL ha hi
  obtain ⟨a', K2, hap, oa', c2, na'⟩ := oa.push (P := Tryz.prog) (frz := frz) (ty := 113) (a := y) (by simp) rfl (by omega) (fun i hi => hf i (hia i hi))
  have c2' : Chg K K2 (ids u.2[j]) := by rw [ea]; exact c2
  obtain ⟨K3, hst, oL, c3, ndL, idL, l3⟩ := OwL_put (frz := frz) (et := 113) (ag := false) o.1 nd hj' c2' oa' (by rw [ea]; exact na') (fun i hi => hf i hi) (by simp)
  have dav : ∀ i ∈ ids u.1, i ∉ ids a := fun i hi hh => (List.nodup_append.1 nd).2.2 i hi i (List.mem_flatMap.2 ⟨a, List.mem_of_getElem? ha, hh⟩) rfl
  have ol2 := o.1.1.chg c2 dav
  have hsl := o.1.2.1
  have ix2 := ol2.rd.idx (P := Tryz.prog) (ty := 44) (e := 113) (by simp) (i := (j : Int)) (by omega) (by omega)
  simp only [Int.toNat_natCast, Nat.mul_one, show Fl.val.n = 1 from rfl] at ix2
  have hup := upd_at hj (· ++ [y])
  refine ⟨a', K2, K3, hap, ix2, hst, Ow_live ol2, Ow_live oL.1, oa'.rd.one', oa'.rd.cells, c2, rfl, ?_, ndL, idL, c3⟩
  rw [hup]
  exact ss_set oL o.2.1 o.2.2 (by simp; omega)
theorem ss_pop {K : Heap} {u : SSV} {s : SSD} {j : Nat} {a : Value} (o : dSS.Ow K u s) (nd : (dSS.ids u).Nodup) (hj : j < s.length) (hne : s[j] ≠ []) (hf : ∀ i ∈ dSS.ids u, frz ≤ i) (hfK : frz ≤ K.length) (ha : u.2[j]? = some a) :
    ∃ z a' K2 K3, vload Tryz.prog (K ++ [⟨[], 0, 157⟩]) 113 (elp u.1 j) = some a ∧ vindexAddr Tryz.prog (K ++ [⟨[], 0, 157⟩]) 44 u.1 (.int .i64 (j : Int)) = some (elp u.1 j) ∧
      vslice Tryz.prog (K ++ [⟨[], 0, 157⟩]) 113 (some (.int .i64 1)) none a = some z ∧
      vappend Tryz.prog frz (K ++ [⟨[], 0, 157⟩]) 113 113 (.slice (some ⟨K.length, 0, some 0⟩) 0 0) z = some (a', K2) ∧ vindexAddr Tryz.prog K2 44 u.1 (.int .i64 (j : Int)) = some (elp u.1 j) ∧
      vstore Tryz.prog frz K2 113 a' (elp u.1 j) = some K3 ∧ VM.live (K ++ [⟨[], 0, 157⟩]) u.1 ∧ VM.live K2 u.1 ∧ VM.live K3 u.1 ∧ VM.one a' = true ∧ a'.cells = #[a'] ∧ Chg K K2 [] ∧ Put K K3 u (u.1, u.2.set j a') (upd s j (List.drop 1)) := by
  have hj' : j < u.2.length := by rw [o.1.2.1]; exact hj
  have ea : u.2[j] = a := by rw [List.getElem?_eq_getElem hj'] at ha; exact Option.some.inj ha
  have o1 := Dt.app (T := dSS) (L := [⟨[], 0, 157⟩]) o
  obtain ⟨a1, h1, h2, h3, oa, h4, h5, h6⟩ := ss_hd o1 hj
  have e1 : a1 = a := by rw [ha] at h1; exact (Option.some.inj h1).symm
  subst e1
  have hsl := o.1.2.1
  have hpos := List.length_pos_iff.2 hne
  obtain ⟨z, hz, oz, nz⟩ := oa.slice (P := Tryz.prog) (ty := 113) (lo := some (.int .i64 1)) (hi := none) (l := 1) (u := s[j].length) (by simp) rfl rfl (by omega) (Nat.le_refl _)
  have et : (s[j].drop 1).take (s[j].length - 1) = s[j].drop 1 := List.take_of_length_le (by simp)
  rw [et] at oz
  have hlb := o.2.2 _ (List.getElem_mem hj)
  have on : Ow flF 157 (K ++ [⟨[], 0, 157⟩]) (.slice (some ⟨K.length, 0, some 0⟩) 0 0) [] := Ow.new0 (D := flF) (xs := []) rfl rfl rfl rfl
  obtain ⟨a', K2, hap, oa', c2, na'⟩ := on.append (P := Tryz.prog) (frz := frz) (ty := 113) oz.rd (by simp) (ones_flF _) (by simp; omega) (fun i hi => by simp at hi; omega)
  rw [List.nil_append] at oa'
  have c12 : Chg K K2 [] := (Chg.app _).trans' c2 (fun i hi => .inr (by simp at hi; omega))
  obtain ⟨K3, hst, oL, c3, ndL, idL, l3⟩ := OwL_put (frz := frz) (et := 113) (ag := false) o.1 nd hj' (c12.mono (fun _ h => by cases h)) oa' (fun i hi => by
    rcases na' i hi with g | g
    · right; simp at g; omega
    · right; simp at g; omega) (fun i hi => hf i hi) (by simp)
  have ol2 := o.1.1.chg c12 (by simp)
  have ix2 := ol2.rd.idx (P := Tryz.prog) (ty := 44) (e := 113) (by simp) (i := (j : Int)) (by omega) (by omega)
  simp only [Int.toNat_natCast, Nat.mul_one, show Fl.val.n = 1 from rfl] at ix2
  have hup := upd_at hj (List.drop 1)
  refine ⟨z, a', K2, K3, h3, h2, hz, hap, ix2, hst, h6, Ow_live ol2, Ow_live oL.1, oa'.rd.one', oa'.rd.cells, c12, rfl, ?_, ndL, idL, c3⟩
  rw [hup]
  exact ss_set oL o.2.1 o.2.2 (by simp; omega)
end Go.Proofs.YtcigpclbhfkgaaaGreat.V
/-! A network that is stepped in place: what holds between the loops. -/
set_option linter.all false
namespace Go.Proofs.YtcigpclbhfkgaaaGreat.V
open Go Go.VM Go.Proofs
set_option maxRecDepth 10000
variable {frz : Nat} {H : Heap}
/-- the same in a drawn region, where the empty slice stands for itself -/
theorem ss_popE {K : Heap} {u : SSV} {s : SSD} {j : Nat} {a : Value} (o : dSS.Ow K u s) (nd : (dSS.ids u).Nodup) (hj : j < s.length) (hne : s[j] ≠ []) (hf : ∀ i ∈ dSS.ids u, frz ≤ i) (ha : u.2[j]? = some a) :
    ∃ z a' K2 K3, vslice Tryz.prog K 113 (some (.int .i64 1)) none a = some z ∧
      vappend Tryz.prog frz K 113 113 (.slice none 0 0) z = some (a', K2) ∧ vindexAddr Tryz.prog K2 44 u.1 (.int .i64 (j : Int)) = some (elp u.1 j) ∧
      vstore Tryz.prog frz K2 113 a' (elp u.1 j) = some K3 ∧ VM.live K2 u.1 ∧ VM.live K3 u.1 ∧ VM.one a' = true ∧ a'.cells = #[a'] ∧ Chg K K2 [] ∧ Put K K3 u (u.1, u.2.set j a') (upd s j (List.drop 1)) := by
  have hj' : j < u.2.length := by rw [o.1.2.1]; exact hj
  obtain ⟨a1, h1, h2, h3, oa, h4, h5, h6⟩ := ss_hd o hj
  have e1 : a1 = a := by rw [ha] at h1; exact (Option.some.inj h1).symm
  subst e1
  have hsl := o.1.2.1
  have hpos := List.length_pos_iff.2 hne
  obtain ⟨z, hz, oz, nz⟩ := oa.slice (P := Tryz.prog) (ty := 113) (lo := some (.int .i64 1)) (hi := none) (l := 1) (u := s[j].length) (by simp) rfl rfl (by omega) (Nat.le_refl _)
  have et : (s[j].drop 1).take (s[j].length - 1) = s[j].drop 1 := List.take_of_length_le (by simp)
  rw [et] at oz
  have hlb := o.2.2 _ (List.getElem_mem hj)
  have on : Ow flF 157 K (.slice none 0 0) [] := .inl ⟨rfl, rfl⟩
  obtain ⟨a', K2, hap, oa', c12, na'⟩ := on.append (P := Tryz.prog) (frz := frz) (ty := 113) oz.rd (by simp) (ones_flF _) (by simp; omega) (by simp)
  rw [List.nil_append] at oa'
  obtain ⟨K3, hst, oL, c3, ndL, idL, l3⟩ := OwL_put (frz := frz) (et := 113) (ag := false) o.1 nd hj' (c12.mono (fun i h => by simp at h)) oa' (fun i hi => by
    rcases na' i hi with g | g
    · simp at g
    · exact .inr g) (fun i hi => hf i hi) (by simp)
  have c12' : Chg K K2 [] := c12.mono (fun i h => by simp at h)
  have ol2 := o.1.1.chg c12' (by simp)
  have ix2 := ol2.rd.idx (P := Tryz.prog) (ty := 44) (e := 113) (by simp) (i := (j : Int)) (by omega) (by omega)
  simp only [Int.toNat_natCast, Nat.mul_one, show Fl.val.n = 1 from rfl] at ix2
  have hup := upd_at hj (List.drop 1)
  refine ⟨z, a', K2, K3, hz, hap, ix2, hst, Ow_live ol2, Ow_live oL.1, oa'.rd.one', oa'.rd.cells, c12', rfl, ?_, ndL, idL, c3⟩
  rw [hup]
  exact ss_set oL o.2.1 o.2.2 (by simp; omega)
theorem ow_nil {α : Type} {D : Fl α} {e : TypeId} {K : Heap} {v : Value} {xs : List α} (o : Ow D e K v xs) (h : 0 < xs.length) (j : Nat) : VM.vnil K (elp v j) = some (elp v j) := by
  rcases o with ⟨_, rfl⟩ | ⟨id, off, r, rfl, h2, _⟩
  · simp at h
  · simp [elp, VM.vnil, VM.look, h2]
/-- the same network with other inner slices -/
def vw (v : NetV) (h5 h8 h9 : List Value) : NetV := (v.1, v.2.1, (v.2.2.1.1, h5), v.2.2.2.1, v.2.2.2.2.1, (v.2.2.2.2.2.1.1, h8), (v.2.2.2.2.2.2.1.1, h9), v.2.2.2.2.2.2.2)
theorem vw_id (v : NetV) : vw v v.2.2.1.2 v.2.2.2.2.2.1.2 v.2.2.2.2.2.2.1.2 = v := rfl
theorem vw_vw (v : NetV) (a b c a' b' c' : List Value) : vw (vw v a b c) a' b' c' = vw v a' b' c' := rfl
/-- the net since a heap -/
structure NS (H K : Heap) (W : List Nat) (v : NetV) (y : NetD) (h5 h8 h9 : List Value) : Prop where
  ow : dNet.Ow K (vw v h5 h8 h9) y
  nd : (dNet.ids (vw v h5 h8 h9)).Nodup
  ids : ∀ i ∈ dNet.ids (vw v h5 h8 h9), i ∈ dNet.ids v ∨ H.length ≤ i
  chg : Chg H K (W ++ dNet.ids v)
theorem NS.start {v : NetV} {y : NetD} (W : List Nat) (o : dNet.Ow H v y) (nd : (dNet.ids v).Nodup) : NS H H W v y v.2.2.1.2 v.2.2.2.2.2.1.2 v.2.2.2.2.2.2.1.2 :=
  ⟨o, nd, fun i hi => .inl hi, Chg.refl _⟩
/-- something else changes -/
theorem NS.other {K K' : Heap} {W : List Nat} {v : NetV} {y : NetD} {h5 h8 h9 : List Value} {I : List Nat} (n : NS H K W v y h5 h8 h9) (c : Chg K K' I) (hd : ∀ i ∈ dNet.ids (vw v h5 h8 h9), i ∉ I) (hI : ∀ i ∈ I, i ∈ W ∨ H.length ≤ i) : NS H K' W v y h5 h8 h9 :=
  ⟨Dt.chg (T := dNet) n.ow c hd, n.nd, n.ids, n.chg.trans' c (fun i hi => (hI i hi).imp (fun h => List.mem_append_left _ h) id)⟩
theorem NS.step {K K' : Heap} {W : List Nat} {v : NetV} {y y' : NetD} {h5 h8 h9 h5' h8' h9' : List Value} {I : List Nat} (n : NS H K W v y h5 h8 h9) (c : Chg K K' I) (hI : ∀ i ∈ I, i ∈ dNet.ids (vw v h5 h8 h9))
    (o : dNet.Ow K' (vw v h5' h8' h9') y') (nd : (dNet.ids (vw v h5' h8' h9')).Nodup) (hi : ∀ i ∈ dNet.ids (vw v h5' h8' h9'), i ∈ dNet.ids (vw v h5 h8 h9) ∨ K.length ≤ i) : NS H K' W v y' h5' h8' h9' :=
  ⟨o, nd, fun i h => by
    rcases hi i h with g | g
    · exact n.ids i g
    · have := n.chg.1; right; omega, n.chg.trans' c (fun i h => (n.ids i (hI i h)).imp (fun h => List.mem_append_right _ h) id)⟩
theorem NS.buf {K K' : Heap} {W : List Nat} {v : NetV} {y : NetD} {h5 h8 h9 h5' : List Value} {s' : SSD} (n : NS H K W v y h5 h8 h9) (p : Put K K' (v.2.2.1.1, h5) (v.2.2.1.1, h5') s') :
    NS H K' W v (withBuf y s') h5' h8 h9 ∧ (∀ i ∈ dNet.ids (vw v h5' h8 h9), i ∈ dNet.ids (vw v h5 h8 h9) ∨ K.length ≤ i) ∧ Chg K K' (dNet.ids (vw v h5 h8 h9)) := by
  obtain ⟨a, b, c⟩ := net_putBuf (n := vw v h5 h8 h9) (u := (v.2.2.1.1, h5')) n.ow n.nd p.chg p.ow p.nd p.ids
  exact ⟨n.step p.chg (fun i hi => net_inBuf (n := vw v h5 h8 h9) i hi) a b c, c, p.chg.mono (fun i hi => net_inBuf (n := vw v h5 h8 h9) i hi)⟩
theorem NS.src {K K' : Heap} {W : List Nat} {v : NetV} {y : NetD} {h5 h8 h9 h8' : List Value} {s' : SSD} (n : NS H K W v y h5 h8 h9) (p : Put K K' (v.2.2.2.2.2.1.1, h8) (v.2.2.2.2.2.1.1, h8') s') :
    NS H K' W v (withSrc y s') h5 h8' h9 ∧ (∀ i ∈ dNet.ids (vw v h5 h8' h9), i ∈ dNet.ids (vw v h5 h8 h9) ∨ K.length ≤ i) ∧ Chg K K' (dNet.ids (vw v h5 h8 h9)) := by
  obtain ⟨a, b, c⟩ := net_putSrc (n := vw v h5 h8 h9) (u := (v.2.2.2.2.2.1.1, h8')) n.ow n.nd p.chg p.ow p.nd p.ids
  exact ⟨n.step p.chg (fun i hi => net_inSrc (n := vw v h5 h8 h9) i hi) a b c, c, p.chg.mono (fun i hi => net_inSrc (n := vw v h5 h8 h9) i hi)⟩
theorem NS.arr {K K' : Heap} {W : List Nat} {v : NetV} {y : NetD} {h5 h8 h9 h9' : List Value} {s' : SSD} (n : NS H K W v y h5 h8 h9) (p : Put K K' (v.2.2.2.2.2.2.1.1, h9) (v.2.2.2.2.2.2.1.1, h9') s') :
    NS H K' W v (withArr y s') h5 h8 h9' ∧ (∀ i ∈ dNet.ids (vw v h5 h8 h9'), i ∈ dNet.ids (vw v h5 h8 h9) ∨ K.length ≤ i) ∧ Chg K K' (dNet.ids (vw v h5 h8 h9)) := by
  obtain ⟨a, b, c⟩ := net_putArr (n := vw v h5 h8 h9) (u := (v.2.2.2.2.2.2.1.1, h9')) n.ow n.nd p.chg p.ow p.nd p.ids
  exact ⟨n.step p.chg (fun i hi => net_inArr (n := vw v h5 h8 h9) i hi) a b c, c, p.chg.mono (fun i hi => net_inArr (n := vw v h5 h8 h9) i hi)⟩
/-- an owner is written -/
theorem NS.own {K : Heap} {W : List Nat} {v : NetV} {y : NetD} {h5 h8 h9 : List Value} (n : NS H K W v y h5 h8 h9) (hf : ∀ i ∈ dNet.ids (vw v h5 h8 h9), frz ≤ i) {j : Nat} (hj : j < y.2.2.2.1.length) (z : Int) :
    ∃ K', vstore Tryz.prog frz K 3 (.int .i64 z) (elp v.2.2.2.1 j) = some K' ∧ NS H K' W v (withOwn y (y.2.2.2.1.set j z)) h5 h8 h9 ∧ Chg K K' (dNet.ids (vw v h5 h8 h9)) := by
  obtain ⟨K', s, o, c, l⟩ := n.ow.2.2.2.1.1.put1 (P := Tryz.prog) (frz := frz) rfl (et := 3) (ag := false) (by simp) hj (x := .int .i64 z) (y := z) rfl rfl rfl (fun i hi => hf i (net_inOwn (n := vw v h5 h8 h9) i hi))
  obtain ⟨a, b, c'⟩ := net_putOwn (n := vw v h5 h8 h9) (u := v.2.2.2.1) (s := y.2.2.2.1.set j z) n.ow n.nd c ⟨o, by have := n.ow.2.2.2.1.2; simpa using this⟩ (net_ndOwn (n := vw v h5 h8 h9) n.nd) (fun i hi => .inl hi)
  exact ⟨K', s, n.step c (fun i hi => net_inOwn (n := vw v h5 h8 h9) i hi) a b c', c.mono (fun i hi => net_inOwn (n := vw v h5 h8 h9) i hi)⟩
/-- a turn is written -/
theorem NS.turn {K : Heap} {W : List Nat} {v : NetV} {y : NetD} {h5 h8 h9 : List Value} (n : NS H K W v y h5 h8 h9) (hf : ∀ i ∈ dNet.ids (vw v h5 h8 h9), frz ≤ i) {j : Nat} (hj : j < y.2.2.2.2.1.length) (z : Int) :
    ∃ K', vstore Tryz.prog frz K 3 (.int .i64 z) (elp v.2.2.2.2.1 j) = some K' ∧ NS H K' W v (withTurn y (y.2.2.2.2.1.set j z)) h5 h8 h9 ∧ Chg K K' (dNet.ids (vw v h5 h8 h9)) := by
  obtain ⟨K', s, o, c, l⟩ := n.ow.2.2.2.2.1.1.put1 (P := Tryz.prog) (frz := frz) rfl (et := 3) (ag := false) (by simp) hj (x := .int .i64 z) (y := z) rfl rfl rfl (fun i hi => hf i (net_inTurn (n := vw v h5 h8 h9) i hi))
  obtain ⟨a, b, c'⟩ := net_putTurn (n := vw v h5 h8 h9) (u := v.2.2.2.2.1) (s := y.2.2.2.2.1.set j z) n.ow n.nd c ⟨o, by have := n.ow.2.2.2.2.1.2; simpa using this⟩ (net_ndTurn (n := vw v h5 h8 h9) n.nd) (fun i hi => .inl hi)
  exact ⟨K', s, n.step c (fun i hi => net_inTurn (n := vw v h5 h8 h9) i hi) a b c', c.mono (fun i hi => net_inTurn (n := vw v h5 h8 h9) i hi)⟩
/-- the states between the loops -/
noncomputable def nPop (x : NetD) (i : Nat) : NetD := withBuf x (((allN x).take i).foldl popS x.2.2.1)
noncomputable def nPush (x y : NetD) (i : Nat) : NetD :=
  (y.1, y.2.1, ((allN x).take i).foldl (pushS x) y.2.2.1, ((allN x).take i).foldl (ownS x) y.2.2.2.1, ((allN x).take i).foldl turnS y.2.2.2.2.1, y.2.2.2.2.2.1, ((allN x).take i).foldl (arrS x) y.2.2.2.2.2.2.1, y.2.2.2.2.2.2.2)
noncomputable def nEnt (x y : NetD) (i : Nat) : NetD :=
  (y.1, y.2.1, ((enterN x).take i).foldl (entS x) y.2.2.1, y.2.2.2.1, y.2.2.2.2.1, ((enterN x).take i).foldl srcS y.2.2.2.2.2.1, y.2.2.2.2.2.2.1, y.2.2.2.2.2.2.2)
theorem step_eq (x : NetD) : stepN x = older (nEnt x (nPush x (nPop x (allN x).length) (allN x).length) (enterN x).length) 1 := by
  unfold nEnt nPush nPop older withBuf
  simp only [List.take_length]
  rfl
end Go.Proofs.YtcigpclbhfkgaaaGreat.V
