/- Texts of a proof, joined. -/
import Derived.Test.YtnakhkfgheapoaaKM0
import Derived.Test.YtnakhkfgheapoaaKM1
import Derived.Test.YtnakhkfgheapoaaKFnBroken0
import Derived.Test.YtnakhkfgheapoaaKFnBroken1
/-! Channels of a mesh. -/
set_option linter.all false
namespace Go.Proofs.Ytnakhkfgheapoaa.V
open Go Go.VM Go.Proofs
set_option maxRecDepth 10000
variable {frz : Nat} {H : Heap}
theorem ow_ix0 {v : Value} {xs : List Int} {e : TypeId} (o : Ow Fl.int e H v xs) {i : Nat} (h1 : i < xs.length) : vindexAddr Try.prog H 22 v (.int .i64 (i : Nat)) = some (elp v i) ∧ vload Try.prog H 3 (elp v i) = some (.int .i64 xs[i]) := by
  have h2 := o.rd.isI.idx (P := Try.prog) (ty := 22) (e := 3) (by simp) (i := (i : Int)) (by omega) (by omega)
  have h3 := (o.rd.isI.load (P := Try.prog) (e := 3) (by simp) h1).trans (by rw [getD_get _ _ h1])
  exact ⟨by simpa using h2, h3⟩
def chN (w h : Int) (b : List Int) (m : Nat) : List Int := ((List.range m).filter (fun c : Nat => decide (has w h b (c : Int)))).map (fun c : Nat => (c : Int))
theorem chN_succ (w h : Int) (b : List Int) (m : Nat) : chN w h b (m + 1) = if has w h b (m : Int) then chN w h b m ++ [(m : Int)] else chN w h b m := by
  unfold chN
  rw [List.range_succ, List.filter_append, List.map_append]
  by_cases hh : has w h b (m : Int)
  · rw [if_pos hh]; simp [hh]
  · rw [if_neg hh]; simp [hh]
theorem chN_len (w h : Int) (b : List Int) : ∀ m, (chN w h b m).length ≤ m
  | 0 => Nat.le_refl _
  | m + 1 => by
    rw [chN_succ]
    have := chN_len w h b m
    split <;> simp <;> omega
theorem chN_mem {w h : Int} {b : List Int} {m : Nat} {x : Int} (hx : x ∈ chN w h b m) : has w h b x := by
  unfold chN at hx
  obtain ⟨c, hc, rfl⟩ := List.mem_map.1 hx
  simpa using (List.mem_filter.1 hc).2
def chans (w h : Int) (b : List Int) : List Int := if meshOk w h b then chN w h b (4 * (cnt w h).toNat) else []
theorem channels_w (w h : Int) (v : Value) (b : List Int) (hI : IsI H v b) (hl : b.length ≤ 1073741824) :
   wp (vcall C frz 53 [.agg #[.int .i64 w, .int .i64 h, v]] H) (fun u H' => Ow Fl.int 3 H' u (chans w h b) ∧ (∀ i ∈ ids u, H.length ≤ i) ∧ Chg H H' []) := by
  have hc := cnt_range w h
  obtain ⟨N, hN⟩ : ∃ N : Nat, cnt w h = N := ⟨(cnt w h).toNat, by omega⟩
  have hN2 : N ≤ 16 := by omega
  have hNt : (cnt w h).toNat = N := by omega
  rw [vcall_go (fn := Try.f53) Try.func53 rfl (by kernel_rfl) rfl]
  have e4 : IntKind.i64.wrap (4 * (N : Int)) = ((4 * N : Nat) : Int) := by rw [w64 (by omega) (by omega)]; omega
  obtain ⟨M, hM⟩ : ∃ M, M = 4 * N := ⟨_, rfl⟩
  rw [← hM] at e4
  simp [nodeCount_c, hI.one', hI.cells, hN, e4]
  refine wp_inv (fun n t H' => ∃ (i : Nat) (u : Value), n = M - i ∧ i ≤ M ∧ t 1 = .pointer (some ⟨H.length, 0, some 0⟩) ∧ t 3 = u ∧ t 9 = .int .i64 M ∧ t 10 = .int .i64 i ∧ H'[H.length]? = some ⟨[.int .i64 w, .int .i64 h, v], 0, 33⟩ ∧
      Ow Fl.int 3 H' u (if meshOk w h b then chN w h b i else []) ∧ (∀ j ∈ ids u, H.length + 1 ≤ j) ∧ Chg H H' []) ?_ (n := M)
    ⟨0, .slice (some ⟨H.length + 1, 0, some 0⟩) 0 0, rfl, by omega, by simp, by simp, by simp, by simp, by simp, by
      have : (if meshOk w h b then chN w h b 0 else []) = [] := by split <;> rfl
      rw [this]; exact Ow.new (D := Fl.int) (e := 3) (xs := []) (H := H) (k := 1) (by simp) rfl rfl rfl, by simp, Chg.app _⟩
  rintro n t H' ⟨i, u, rfl, hi, t1, t3, t9, t10, b0, o, nu, ch⟩ ih
  have hI1 := ((hI.rd).chg ch (by simp)).isI
  simp [t1, t3, t9, t10]
  refine wp_dec ?_ ?_ <;> intro g1
  · simp [t1, t3, t9, t10, VM.look, b0, hI.one', hI.cells, hasChannel_c _ _ _ _ _ hI1 hl, -Bool.decide_and]
    have e1 : ∀ [Inhabited Unit], IntKind.i64.wrap ((i : Int) + 1) = ((i + 1 : Nat) : Int) := by intro _; rw [w64 (by omega) (by omega)]; omega
    refine wp_dec ?_ ?_ <;> intro g2
    · have hll : (if meshOk w h b then chN w h b i else []).length ≤ i := by rw [if_pos g2.1]; exact chN_len _ _ _ _
      obtain ⟨u', H2, hap, o2, c2, n2⟩ := o.push (P := Try.prog) (frz := H.length) (ty := 22) (a := (i : Int)) (by simp) rfl (by omega) (fun j hj => by have := nu j hj; omega)
      simp only [Fl.int_f] at hap
      have l0 := ch.1
      have k0 := box_lt b0
      simp [t1, t3, t9, t10, hap]
      refine ih (M - (i + 1)) _ _ ⟨i + 1, u', rfl, by omega, by simp [t1], by simp, by simp [t9], by simp [e1], box_chg b0 c2 (fun hh => by have := nu _ hh; omega), ?_, fun j hj => ?_, ch.trans' c2 (fun j hj => .inr (by have := nu j hj; omega))⟩ (by omega)
      · rw [if_pos g2.1] at o2 ⊢
        rw [chN_succ, if_pos g2.2]; exact o2
      · rcases n2 j hj with h1 | h1
        · exact nu j h1
        · omega
    · simp [t1, t3, t9, t10]
      refine ih (M - (i + 1)) _ _ ⟨i + 1, u, rfl, by omega, by simp [t1], by simp [t3], by simp [t9], by simp [e1], b0, ?_, nu, ch⟩ (by omega)
      by_cases hm : meshOk w h b
      · rw [if_pos hm] at o ⊢
        rw [chN_succ, if_neg (fun hh => g2 ⟨hm, hh⟩)]; exact o
      · rw [if_neg hm] at o ⊢; exact o
  · have him : i = M := by omega
    simp [t3]
    refine ⟨?_, fun j hj => by have := nu j hj; omega, ch⟩
    unfold chans; rw [hNt, ← hM, ← him]; exact o
theorem sChannels_w (w h : Int) (v : Value) (b : List Int) (hI : IsI H v b) (hl : b.length ≤ 1073741824) :
   wp (vcall C frz 55 [.agg #[.int .i64 w, .int .i64 h, v]] H) (fun u H' => Ow Fl.int 3 H' u (chans w h b) ∧ (∀ i ∈ ids u, H.length ≤ i) ∧ Chg H H' []) := by
  have hc := cnt_range w h
  obtain ⟨N, hN⟩ : ∃ N : Nat, cnt w h = N := ⟨(cnt w h).toNat, by omega⟩
  have hN2 : N ≤ 16 := by omega
  have hNt : (cnt w h).toNat = N := by omega
  rw [vcall_go (fn := Try.f55) Try.func55 rfl (by kernel_rfl) rfl]
  have e4 : IntKind.i64.wrap (4 * (N : Int)) = ((4 * N : Nat) : Int) := by rw [w64 (by omega) (by omega)]; omega
  obtain ⟨M, hM⟩ : ∃ M, M = 4 * N := ⟨_, rfl⟩
  rw [← hM] at e4
  simp [sMeshOk_c _ _ _ _ (hI.app _) hl, hI.one', hI.cells]
  refine wp_joino (F := ?F) (k := ?k) (o := ?o) (Q := ?Q) (fun t H' => t 3 = t 3 ∧ Ow Fl.int 3 H' (t 3) (chans w h b) ∧ (∀ j ∈ ids (t 3), H.length + 1 ≤ j) ∧ Chg H H' []) ?main ?rest
  case main =>
   intro rest
   refine wp_inv (fun n t H' => ∃ (i : Nat) (u : Value), n = M - i ∧ i ≤ M ∧ t 1 = .pointer (some ⟨H.length, 0, some 0⟩) ∧ t 3 = u ∧ t 4 = .bool (decide (meshOk w h b)) ∧ t 5 = .int .i64 i ∧ H'[H.length]? = some ⟨[.int .i64 w, .int .i64 h, v], 0, 33⟩ ∧
      Ow Fl.int 3 H' u (if meshOk w h b then chN w h b i else []) ∧ (∀ j ∈ ids u, H.length + 1 ≤ j) ∧ Chg H H' []) ?_ (n := M)
    ⟨0, .slice (some ⟨H.length + 1, 0, some 0⟩) 0 0, rfl, by omega, by simp, by simp, by simp, by simp, by simp, by
      have : (if meshOk w h b then chN w h b 0 else []) = [] := by split <;> rfl
      rw [this]; exact Ow.new (D := Fl.int) (e := 3) (xs := []) (H := H) (k := 1) (by simp) rfl rfl rfl, by simp, Chg.app _⟩
   rintro n t H' ⟨i, u, rfl, hi, t1, t3, t4, t5, b0, o, nu, ch⟩ ih
   have hI1 := ((hI.rd).chg ch (by simp)).isI
   have nc := fun F L => (sNodeCount_c (frz := F) (H := L) w h).trans (by rw [hN])
   have e4' : IntKind.i64.wrap (4 * (N : Int)) = (M : Int) := e4
   simp [t1, t3, t4, t5, VM.look, b0, nc, e4']
   refine wpg_dec ?_ ?_ <;> intro g1
   · simp [t1, t3, t4, t5, g1]
     refine wp_dec ?_ ?_ <;> intro hm
     · simp [t1, t3, t4, t5, VM.look, b0, hI.one', hI.cells, l03Has_c _ _ _ _ _ hI1 hl]
       have e1 : ∀ [Inhabited Unit], IntKind.i64.wrap ((i : Int) + 1) = ((i + 1 : Nat) : Int) := by intro _; rw [w64 (by omega) (by omega)]; omega
       rw [if_pos hm] at o
       refine wp_dec ?_ ?_ <;> intro g2
       · have hll : (chN w h b i).length ≤ i := chN_len _ _ _ _
         obtain ⟨u', H2, hap, o2, c2, n2⟩ := o.push (P := Try.prog) (frz := H.length) (ty := 22) (a := (i : Int)) (by simp) rfl (by omega) (fun j hj => by have := nu j hj; omega)
         simp only [Fl.int_f] at hap
         have l0 := ch.1
         have k0 := box_lt b0
         simp [t1, t3, t4, t5, hap]
         refine ih (M - (i + 1)) _ _ ⟨i + 1, u', rfl, by omega, by simp [t1], by simp, by simp [t4], by simp [e1], box_chg b0 c2 (fun hh => by have := nu _ hh; omega), ?_, fun j hj => ?_, ch.trans' c2 (fun j hj => .inr (by have := nu j hj; omega))⟩ (by omega)
         · rw [if_pos hm, chN_succ, if_pos g2]; exact o2
         · rcases n2 j hj with h1 | h1
           · exact nu j h1
           · omega
       · simp [t1, t3, t4, t5]
         refine ih (M - (i + 1)) _ _ ⟨i + 1, u, rfl, by omega, by simp [t1], by simp [t3], by simp [t4], by simp [e1], b0, ?_, nu, ch⟩ (by omega)
         rw [if_pos hm, chN_succ, if_neg g2]; exact o
     · rw [if_neg hm] at o
       simp [t1, t3, t4, t5, -go_exit_blk]
       refine rest _ _ ?_
       have hch : chans w h b = [] := if_neg hm
       exact ⟨rfl, by simp [t3, hch]; exact o, by simp [t3]; exact nu, ch⟩
   · have him : i = M := by omega
     simp [t1, t3, t4, t5, g1, -go_exit_blk]
     refine rest _ _ ?_
     refine ⟨rfl, ?_, by simp [t3]; exact nu, ch⟩
     simp [t3]
     unfold chans; rw [hNt, ← hM, ← him]; exact o
  case rest =>
    rintro t H' ⟨_, o, nu, ch⟩
    simp
    exact ⟨o, fun j hj => by have := nu j hj; omega, ch⟩
theorem sameInts_c (v u : Value) (xs ys : List Int) (hI : IsI H v xs) (hJ : IsI H u ys) (hl : xs.length ≤ 1073741824) : vcall C frz 54 [v, u] H = some (.bool (decide (xs = ys)), H) := by
  refine wp.exact (by simp) ?_ rfl
  rw [vcall_go (fn := Try.f54) Try.func54 rfl (by kernel_rfl) rfl]
  simp [hI.len, hJ.len]
  refine wp_dec ?_ ?_ <;> intro g0
  · have hle : xs.length = ys.length := by omega
    simp
    refine wp_inv (fun n t H' => ∃ i : Nat, n = xs.length - i ∧ i ≤ xs.length ∧ t 0 = v ∧ t 1 = u ∧ t 5 = .int .i64 i ∧ H' = H ∧ xs.take i = ys.take i) ?_ (n := xs.length) ⟨0, rfl, by omega, by simp, by simp, by simp, rfl, rfl⟩
    rintro n t H' ⟨i, rfl, hi, t0, t1, t5, hH, he⟩ ih
    rw [hH]
    simp [t0, t1, t5, hI.len]
    refine wp_dec ?_ ?_ <;> intro g1
    · have q1 := hI.idx (P := Try.prog) (ty := 22) (e := 3) (by simp) (i := (i : Int)) (by omega) (by omega)
      have r1 := (hI.load (P := Try.prog) (e := 3) (by simp) g1).trans (by rw [getD_get _ _ g1])
      have q2 := hJ.idx (P := Try.prog) (ty := 22) (e := 3) (by simp) (i := (i : Int)) (by omega) (by omega)
      have g1' : i < ys.length := by omega
      have r2 := (hJ.load (P := Try.prog) (e := 3) (by simp) g1').trans (by rw [getD_get _ _ g1'])
      simp only [Int.toNat_natCast] at q1 q2
      simp [t0, t1, t5]
      rw [go_draw (h := by kernel_rfl)]
      simp [t0, t1, t5, q1, r1, q2, r2]
      refine wp_dec ?_ ?_ <;> intro g2
      · simp [t0, t1, t5]
        refine ih (xs.length - (i + 1)) _ _ ⟨i + 1, rfl, by omega, by simp [t0], by simp [t1], ?_, rfl, ?_⟩ (by omega)
        · simp; rw [w64 (by omega) (by omega)]
        · rw [List.take_succ_eq_append_getElem g1, List.take_succ_eq_append_getElem g1', he, g2]
      · simp
        intro hh; subst hh; exact g2 rfl
    · have him : i = xs.length := by omega
      simp
      rw [him, List.take_length] at he
      rw [he, hle, List.take_length]
  · simp
    intro hh; exact g0 (by rw [hh])
theorem hasI_c (v : Value) (xs : List Int) (k : Int) (hI : IsI H v xs) (hl : xs.length ≤ 1073741824) : vcall C frz 28 [v, .int .i64 k] H = some (.bool (decide (k ∈ xs)), H) := by
  refine wp.exact (by simp) ?_ rfl
  rw [vcall_go (fn := Try.f28) Try.func28 rfl (by kernel_rfl) rfl]
  simp
  refine wp_inv (fun n t H' => ∃ i : Nat, n = xs.length - i ∧ i ≤ xs.length ∧ t 0 = v ∧ t 1 = .int .i64 k ∧ t 5 = .int .i64 i ∧ H' = H ∧ k ∉ xs.take i) ?_ (n := xs.length) ⟨0, rfl, by omega, by simp, by simp, by simp, rfl, by simp⟩
  rintro n t H' ⟨i, rfl, hi, t0, t1, t5, hH, he⟩ ih
  rw [hH]
  simp [t0, t1, t5, hI.len]
  refine wp_dec ?_ ?_ <;> intro g1
  · have q1 := hI.idx (P := Try.prog) (ty := 22) (e := 3) (by simp) (i := (i : Int)) (by omega) (by omega)
    have r1 := (hI.load (P := Try.prog) (e := 3) (by simp) g1).trans (by rw [getD_get _ _ g1])
    simp only [Int.toNat_natCast] at q1
    simp [t0, t1, t5, q1, r1]
    refine wp_dec ?_ ?_ <;> intro g2
    · simp
      rw [← g2]; exact List.getElem_mem g1
    · simp [t0, t1, t5]
      refine ih (xs.length - (i + 1)) _ _ ⟨i + 1, rfl, by omega, by simp [t0], by simp [t1], ?_, rfl, ?_⟩ (by omega)
      · simp; rw [w64 (by omega) (by omega)]
      · rw [List.take_succ_eq_append_getElem g1]
        intro hh
        rcases List.mem_append.1 hh with hh | hh
        · exact he hh
        · exact g2 (List.mem_singleton.1 hh).symm
  · have him : i = xs.length := by omega
    simp
    rw [him, List.take_length] at he
    exact he
/-! plain: one channel more is broken -/
theorem broke_mem {b : List Int} {c x : Int} : x ∈ broke b c ↔ x ∈ b ∨ x = c := by
  unfold broke
  rw [(isort_perm _).mem_iff]; simp
theorem has_broke {w h : Int} {b : List Int} {c x : Int} : has w h (broke b c) x ↔ has w h b x ∧ x ≠ c := by
  unfold has
  rw [broke_mem]
  constructor
  · rintro ⟨h1, h2⟩; exact ⟨⟨h1, fun hh => h2 (.inl hh)⟩, fun hh => h2 (.inr hh)⟩
  · rintro ⟨⟨h1, h2⟩, h3⟩; exact ⟨h1, fun hh => hh.elim h2 h3⟩
theorem meshOk_broke {w h : Int} {b : List Int} {c : Int} (hok : breakOk w h b c) : meshOk w h (broke b c) := by
  obtain ⟨hm, hl, hn⟩ := hok
  obtain ⟨m1, m2, m3⟩ := (meshOk_iff w h b).1 hm
  refine (meshOk_iff w h _).2 ⟨m1, fun x hx => ?_, ?_⟩
  · rcases broke_mem.1 hx with h1 | h1
    · exact m2 x h1
    · rw [h1]; exact hl
  · have hs := isort_sorted (b ++ [c])
    have hnd : (b ++ [c]).Nodup := by
      rw [List.nodup_append]
      refine ⟨m3.imp (fun h => by omega), by simp, fun x hx y hy => ?_⟩
      rw [List.mem_singleton.1 hy]
      intro e; subst e; exact hn hx
    have hnd2 : (isort (b ++ [c])).Nodup := (isort_perm _).nodup_iff.2 hnd
    have := List.pairwise_and_iff.2 ⟨hs, hnd2⟩
    exact this.imp (fun h => by obtain ⟨h1, h2⟩ := h; omega)
theorem chN_broke {w h : Int} {b : List Int} {k : Nat} (hk : has w h b (k : Int)) : ∀ m, (chN w h (broke b k) m).length + (if k < m then 1 else 0) = (chN w h b m).length
  | 0 => by simp [chN]
  | m + 1 => by
    have ih := chN_broke hk m
    rw [chN_succ, chN_succ]
    by_cases hm : has w h b (m : Int)
    · rw [if_pos hm]
      by_cases hkm : k = m
      · subst hkm
        rw [if_neg (fun hh => (has_broke.1 hh).2 rfl), if_pos (by omega)]
        rw [if_neg (by omega)] at ih
        simp; omega
      · rw [if_pos (has_broke.2 ⟨hm, by omega⟩)]
        simp
        by_cases h1 : k < m
        · rw [if_pos h1] at ih; rw [if_pos (by omega)]; omega
        · rw [if_neg h1] at ih; rw [if_neg (by omega)]; omega
    · rw [if_neg hm, if_neg (fun hh => hm (has_broke.1 hh).1)]
      have : k ≠ m := fun e => by subst e; exact hm hk
      by_cases h1 : k < m
      · rw [if_pos h1] at ih; rw [if_pos (by omega)]; omega
      · rw [if_neg h1] at ih; rw [if_neg (by omega)]; omega
theorem chans_broke {w h : Int} {b : List Int} {c : Int} (hok : breakOk w h b c) : (chans w h (broke b c)).length + 1 = (chans w h b).length ∧ c ∉ chans w h (broke b c) := by
  have hl := hok.2.1.1
  have hc := cnt_range w h
  obtain ⟨k, rfl⟩ := Int.eq_ofNat_of_zero_le hl.1
  unfold chans
  rw [if_pos (meshOk_broke hok), if_pos hok.1]
  have := chN_broke hok.2 (4 * (cnt w h).toNat)
  rw [if_pos (by omega)] at this
  exact ⟨this, fun hh => (has_broke.1 (chN_mem hh)).2 rfl⟩
theorem chans_has {w h : Int} {b : List Int} {x : Int} (hx : x ∈ chans w h b) : breakOk w h b x := by
  unfold chans at hx
  by_cases hm : meshOk w h b
  · rw [if_pos hm] at hx; exact ⟨hm, chN_mem hx⟩
  · rw [if_neg hm] at hx; cases hx
theorem chans_len (w h : Int) (b : List Int) : (chans w h b).length ≤ 64 := by
  have hc := cnt_range w h
  unfold chans
  split
  · have := chN_len w h b (4 * (cnt w h).toNat); omega
  · simp
end Go.Proofs.Ytnakhkfgheapoaa.V
/-! The law FnBroken. -/
set_option linter.all false
namespace Go.Proofs.Ytnakhkfgheapoaa.V
open Go Go.VM Go.Proofs
set_option maxRecDepth 10000
variable {frz : Nat} {H : Heap}
theorem law_FnBroken_w {a0 : List Int} {u0 : Value} (s0 : IsS (Kn.int .u8) H u0 a0)
    (w0 : a0.length ≤ maxLen ∧ ∀ x1 ∈ a0, (Lit.int .u8 x1).wf = true) :
    wp (vcall C frz 11 [u0] H) (fun r _ => r = .bool true) := by
  have r0 := IsS_bytes s0
  rw [vcall_go (fn := Try.f11) Try.func11 rfl (by kernel_rfl) rfl]
  simp [big_c _ _ r0]
  refine wp_dec ?_ ?_ <;> intro g0
  · simp
  · simp
    refine wp_thn (drawMesh_w u0 a0 r0 (by omega)) ?_
    rintro _ H1 ⟨v, w, h, b, rfl, hm, om, nm, c1⟩
    have one1 := And.intro om.rd.one' om.rd.cells
    have hlb := brk_len hm
    have cn1 := c1.1
    have om1 : Ow Fl.int 3 (H1 ++ [⟨[.int .i64 w, .int .i64 h, v], 0, 33⟩]) v b := om.app
    simp [VM.look, one1, cn1]
    refine wp_thn (channels_w w h v b om1.rd.isI (by omega)) ?_
    rintro c H2 ⟨oc, nc, c2⟩
    have cl := chans_len w h b
    have b2 : H2[H1.length]? = some ⟨[.int .i64 w, .int .i64 h, v], 0, 33⟩ := box_chg (by simp) c2 (by simp)
    have om2 := om1.chg c2 (by simp)
    simp [VM.look, b2, one1]
    refine wp_thn (sChannels_w w h v b om2.rd.isI (by omega)) ?_
    rintro d H3 ⟨od, nd, c3⟩
    have b3 := box_chg b2 c3 (by simp)
    have oc3 := oc.chg c3 (by simp)
    have om3 := om2.chg c3 (by simp)
    have one3 := And.intro oc3.rd.one' oc3.rd.cells
    have si := fun F => sameInts_c (frz := F) (H := H3) c d _ _ oc3.rd.isI od.rd.isI (by omega)
    simp [si, oc3.rd.len]
    refine wp_dec ?_ ?_ <;> intro g1
    · simp
    · simp
      have r3 : Rd Fl.u8 H3 u0 a0 := (((r0.chg c1 (by simp)).app).chg c2 (by simp)).chg c3 (by simp)
      refine wp_thn (drawPlaces_w u0 a0 r3 (by omega)) ?_
      rintro u H4 ⟨xs, o, hx, hr, nu, c4⟩
      have e0 := hr xs[0] (List.getElem_mem (by omega))
      have q0 := ow_ix0 o (i := 0) (by omega)
      simp only [Int.natCast_zero] at q0
      have q0a := q0.1
      have q0b := q0.2
      have hpos : 0 < (chans w h b).length := by
        rcases Nat.eq_zero_or_pos (chans w h b).length with h1 | h1
        · exact absurd (by first | exact h1 | exact List.length_eq_zero_iff.1 h1 | omega) g1
        · exact h1
      obtain ⟨k, hk⟩ : ∃ k : Nat, xs[0] % ((chans w h b).length : Int) = k := ⟨(xs[0] % ((chans w h b).length : Int)).toNat, (Int.toNat_of_nonneg (Int.emod_nonneg _ (by omega))).symm⟩
      have hkl : k < (chans w h b).length := by have := Int.emod_lt_of_pos xs[0] (show (0 : Int) < (chans w h b).length by omega); omega
      have t0 : (xs[0]).tmod ((chans w h b).length : Int) = (k : Int) := by rw [Int.tmod_eq_emod_of_nonneg e0.1]; exact hk
      have f0 : IntKind.i64.wrap (k : Int) = (k : Int) := w64 (by omega) (by omega)
      have oc4 := oc3.chg c4 (by simp)
      have qc := ow_ix0 oc4 hkl
      have hok := chans_has (List.getElem_mem hkl)
      obtain ⟨K, hK⟩ : ∃ K, K = (chans w h b)[k] := ⟨_, rfl⟩
      rw [← hK] at hok qc
      have qca := qc.1
      have qcb := qc.2
      have b4 := box_chg b3 c4 (by simp)
      have om4 := om3.chg c4 (by simp)
      have hne : ¬ (chans w h b).length = 0 := by omega
      have hne2 : ¬ chans w h b = [] := fun hh => by rw [hh] at hpos; simp at hpos
      have l4 := oc4.rd.len (P := Try.prog) (ty := 22) (by simp)
      simp [q0a, q0b, hx, l4, hne, hne2, t0, f0, qca, qcb, VM.look, b4, one1]
      refine wp_thn (withBroken_w w h v b K om4.rd.isI (by omega)) ?_
      rintro _ H5 ⟨_, rfl, x, rfl, ox, c5, n5, d5⟩
      have ewb : withBroken w h b K = broke b K := if_pos hok
      rw [ewb] at ox ⊢
      obtain ⟨hcl, hnk⟩ := chans_broke hok
      have hm' := meshOk_broke hok
      have hhas : ¬ has w h (broke b K) K := fun hh => (has_broke.1 hh).2 rfl
      have hlb' := brk_len hm'
      generalize broke b K = b' at *
      have ob : Ow Fl.int 3 H5 x b' := ox.1
      have onex := And.intro ob.rd.one' ob.rd.cells
      have cn5 : H.length ≤ H5.length := by have := c2.1; have := c3.1; have := c4.1; have := c5.1; simp at *; omega
      have ob6 : Ow Fl.int 3 (H5 ++ [⟨[.int .i64 w, .int .i64 h, x], 0, 33⟩]) x b' := ob.app
      simp [dMesh_val, hok, VM.look, onex, cn5]
      refine wp_thn (channels_w w h x b' ob6.rd.isI (by omega)) ?_
      rintro y H6 ⟨oy, ny, c6⟩
      have b6 : H6[H5.length]? = some ⟨[.int .i64 w, .int .i64 h, x], 0, 33⟩ := box_chg (by simp) c6 (by simp)
      have oc6 := ((oc4.chg c5 (by simp)).app (L := [⟨[.int .i64 w, .int .i64 h, x], 0, 33⟩])).chg c6 (by simp)
      have ob7 := ob6.chg c6 (by simp)
      have l6 := oc6.rd.len (P := Try.prog) (ty := 22) (by simp)
      have ly := oy.rd.len (P := Try.prog) (ty := 22) (by simp)
      have cl' := chans_len w h b'
      have mo := fun F => meshOk_c (frz := F) (H := H6) w h x b' ob7.rd.isI (by omega)
      have hc' := fun F => hasChannel_c (frz := F) (H := H6) w h x b' K ob7.rd.isI (by omega)
      have hx' := fun F => hasI_c (frz := F) (H := H6) y _ K oy.rd.isI (by omega)
      have f7 : IntKind.i64.wrap (((chans w h b).length : Int) - 1) = ((chans w h b').length : Int) := by rw [w64 (by omega) (by omega)]; omega
      simp [VM.look, b6, onex, mo, hm', hc', hhas, l6, ly, f7, hx', hnk]
theorem law_FnBroken {a0 : List Int} {u0 : Value} (s0 : IsS (Kn.int .u8) H u0 a0)
    (w0 : a0.length ≤ maxLen ∧ ∀ x1 ∈ a0, (Lit.int .u8 x1).wf = true) :
    vcall C frz 11 [u0] H = some (.bool true, H) :=
  (law_FnBroken_w s0 w0).exact (by simp) rfl
end Go.Proofs.Ytnakhkfgheapoaa.V
