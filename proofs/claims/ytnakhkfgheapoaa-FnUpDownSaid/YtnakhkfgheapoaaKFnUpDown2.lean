/- Texts of a proof, joined. -/
import Derived.Test.YtnakhkfgheapoaaKM0
import Derived.Test.YtnakhkfgheapoaaKM1
import Derived.Test.YtnakhkfgheapoaaKFnUpDown0
import Derived.Test.YtnakhkfgheapoaaKFnUpDown1
/-! Draws: bytes of an argument. -/
set_option linter.all false
namespace Go.Proofs.Ytnakhkfgheapoaa.V
open Go Go.VM Go.Proofs
theorem cellsOf_u8 : ∀ xs : List Int, cellsOf Fl.u8 xs = xs.map (.int .u8)
  | [] => rfl
  | a :: l => by rw [cellsOf_cons, cellsOf_u8 l]; rfl
theorem IsS_bytes {H : Heap} {v : Value} {xs : List Int} (h : IsS (Kn.int .u8) H v xs) : Rd Fl.u8 H v xs := by
  rcases h with h | ⟨id, off, r, h1, h2, h3, h4⟩
  · exact .inl h
  · have hs : (Kn.int .u8).sz = 1 := rfl
    rw [hs] at h3 h4
    have e0 : cellsOf Fl.u8 xs = xs.map (.int .u8) := cellsOf_u8 xs
    refine .inr ⟨id, off, r, h1, h2, ?_, by simpa using h3⟩
    rw [e0]
    refine List.ext_getElem? fun j => ?_
    by_cases hj : j < xs.length
    · have := h4 j xs[j] (by simp [hj])
      have e : (r.cells.drop (off + j * 1)).take 1 = [.int .u8 xs[j]] := this
      have e2 := congrArg (·[0]?) e
      simp at e2
      rw [List.getElem?_take, if_pos (by simpa using hj), List.getElem?_drop]
      simp [e2, hj]
    · rw [List.getElem?_take, if_neg (by simpa using hj), List.getElem?_eq_none (by rw [List.length_map]; omega)]
end Go.Proofs.Ytnakhkfgheapoaa.V
/-! Channels of a mesh. -/
set_option linter.all false
namespace Go.Proofs.Ytnakhkfgheapoaa.V
open Go Go.VM Go.Proofs
set_option maxRecDepth 10000
variable {frz : Nat} {H : Heap}
theorem ow_ix0 {v : Value} {xs : List Int} {e : TypeId} (o : Ow Fl.int e H v xs) {i : Nat} (h1 : i < xs.length) : vindexAddr Try.prog H 22 v (.int .i64 (i : Nat)) = some (elp v i) ∧ vload Try.prog H 3 (elp v i) = some (.int .i64 xs[i]) := by
  have h2 := o.rd.isI.idx (P := Try.prog) (ty := 22) (e := 3) (by simp) (i := (i : Int)) (by omega) (by omega)
  have h3 := (o.rd.isI.load (P := Try.prog) (e := 3) (by simp) h1).trans (by rw [getD_get _ _ h1])
  exact ⟨by simpa using h2, h3⟩
def chN (w h : Int) (b : List Int) (m : Nat) : List Int := ((List.range m).filter (fun c : Nat => decide (has w h b (c : Int)))).map (fun c : Nat => (c : Int))
theorem chN_succ (w h : Int) (b : List Int) (m : Nat) : chN w h b (m + 1) = if has w h b (m : Int) then chN w h b m ++ [(m : Int)] else chN w h b m := by
  unfold chN
  rw [List.range_succ, List.filter_append, List.map_append]
  by_cases hh : has w h b (m : Int)
  · rw [if_pos hh]; simp [hh]
  · rw [if_neg hh]; simp [hh]
theorem chN_len (w h : Int) (b : List Int) : ∀ m, (chN w h b m).length ≤ m
  | 0 => Nat.le_refl _
  | m + 1 => by
    rw [chN_succ]
    have := chN_len w h b m
    split <;> simp <;> omega
theorem chN_mem {w h : Int} {b : List Int} {m : Nat} {x : Int} (hx : x ∈ chN w h b m) : has w h b x := by
  unfold chN at hx
  obtain ⟨c, hc, rfl⟩ := List.mem_map.1 hx
  simpa using (List.mem_filter.1 hc).2
def chans (w h : Int) (b : List Int) : List Int := if meshOk w h b then chN w h b (4 * (cnt w h).toNat) else []
theorem channels_w (w h : Int) (v : Value) (b : List Int) (hI : IsI H v b) (hl : b.length ≤ 1073741824) :
   wp (vcall C frz 53 [.agg #[.int .i64 w, .int .i64 h, v]] H) (fun u H' => Ow Fl.int 3 H' u (chans w h b) ∧ (∀ i ∈ ids u, H.length ≤ i) ∧ Chg H H' []) := by
  have hc := cnt_range w h
  obtain ⟨N, hN⟩ : ∃ N : Nat, cnt w h = N := ⟨(cnt w h).toNat, by omega⟩
  have hN2 : N ≤ 16 := by omega
  have hNt : (cnt w h).toNat = N := by omega
  rw [vcall_go (fn := Try.f53) Try.func53 rfl (by kernel_rfl) rfl]
  have e4 : IntKind.i64.wrap (4 * (N : Int)) = ((4 * N : Nat) : Int) := by rw [w64 (by omega) (by omega)]; omega
  obtain ⟨M, hM⟩ : ∃ M, M = 4 * N := ⟨_, rfl⟩
  rw [← hM] at e4
  simp [nodeCount_c, hI.one', hI.cells, hN, e4]
  refine wp_inv (fun n t H' => ∃ (i : Nat) (u : Value), n = M - i ∧ i ≤ M ∧ t 1 = .pointer (some ⟨H.length, 0, some 0⟩) ∧ t 3 = u ∧ t 9 = .int .i64 M ∧ t 10 = .int .i64 i ∧ H'[H.length]? = some ⟨[.int .i64 w, .int .i64 h, v], 0, 33⟩ ∧
      Ow Fl.int 3 H' u (if meshOk w h b then chN w h b i else []) ∧ (∀ j ∈ ids u, H.length + 1 ≤ j) ∧ Chg H H' []) ?_ (n := M)
    ⟨0, .slice (some ⟨H.length + 1, 0, some 0⟩) 0 0, rfl, by omega, by simp, by simp, by simp, by simp, by simp, by
      have : (if meshOk w h b then chN w h b 0 else []) = [] := by split <;> rfl
      rw [this]; exact Ow.new (D := Fl.int) (e := 3) (xs := []) (H := H) (k := 1) (by simp) rfl rfl rfl, by simp, Chg.app _⟩
  rintro n t H' ⟨i, u, rfl, hi, t1, t3, t9, t10, b0, o, nu, ch⟩ ih
  have hI1 := ((hI.rd).chg ch (by simp)).isI
  simp [t1, t3, t9, t10]
  refine wp_dec ?_ ?_ <;> intro g1
  · simp [t1, t3, t9, t10, VM.look, b0, hI.one', hI.cells, hasChannel_c _ _ _ _ _ hI1 hl, -Bool.decide_and]
    have e1 : ∀ [Inhabited Unit], IntKind.i64.wrap ((i : Int) + 1) = ((i + 1 : Nat) : Int) := by intro _; rw [w64 (by omega) (by omega)]; omega
    refine wp_dec ?_ ?_ <;> intro g2
    · have hll : (if meshOk w h b then chN w h b i else []).length ≤ i := by rw [if_pos g2.1]; exact chN_len _ _ _ _
      obtain ⟨u', H2, hap, o2, c2, n2⟩ := o.push (P := Try.prog) (frz := H.length) (ty := 22) (a := (i : Int)) (by simp) rfl (by omega) (fun j hj => by have := nu j hj; omega)
      simp only [Fl.int_f] at hap
      have l0 := ch.1
      have k0 := box_lt b0
      simp [t1, t3, t9, t10, hap]
      refine ih (M - (i + 1)) _ _ ⟨i + 1, u', rfl, by omega, by simp [t1], by simp, by simp [t9], by simp [e1], box_chg b0 c2 (fun hh => by have := nu _ hh; omega), ?_, fun j hj => ?_, ch.trans' c2 (fun j hj => .inr (by have := nu j hj; omega))⟩ (by omega)
      · rw [if_pos g2.1] at o2 ⊢
        rw [chN_succ, if_pos g2.2]; exact o2
      · rcases n2 j hj with h1 | h1
        · exact nu j h1
        · omega
    · simp [t1, t3, t9, t10]
      refine ih (M - (i + 1)) _ _ ⟨i + 1, u, rfl, by omega, by simp [t1], by simp [t3], by simp [t9], by simp [e1], b0, ?_, nu, ch⟩ (by omega)
      by_cases hm : meshOk w h b
      · rw [if_pos hm] at o ⊢
        rw [chN_succ, if_neg (fun hh => g2 ⟨hm, hh⟩)]; exact o
      · rw [if_neg hm] at o ⊢; exact o
  · have him : i = M := by omega
    simp [t3]
    refine ⟨?_, fun j hj => by have := nu j hj; omega, ch⟩
    unfold chans; rw [hNt, ← hM, ← him]; exact o
theorem sChannels_w (w h : Int) (v : Value) (b : List Int) (hI : IsI H v b) (hl : b.length ≤ 1073741824) :
   wp (vcall C frz 55 [.agg #[.int .i64 w, .int .i64 h, v]] H) (fun u H' => Ow Fl.int 3 H' u (chans w h b) ∧ (∀ i ∈ ids u, H.length ≤ i) ∧ Chg H H' []) := by
  have hc := cnt_range w h
  obtain ⟨N, hN⟩ : ∃ N : Nat, cnt w h = N := ⟨(cnt w h).toNat, by omega⟩
  have hN2 : N ≤ 16 := by omega
  have hNt : (cnt w h).toNat = N := by omega
  rw [vcall_go (fn := Try.f55) Try.func55 rfl (by kernel_rfl) rfl]
  have e4 : IntKind.i64.wrap (4 * (N : Int)) = ((4 * N : Nat) : Int) := by rw [w64 (by omega) (by omega)]; omega
  obtain ⟨M, hM⟩ : ∃ M, M = 4 * N := ⟨_, rfl⟩
  rw [← hM] at e4
  simp [sMeshOk_c _ _ _ _ (hI.app _) hl, hI.one', hI.cells]
  refine wp_joino (F := ?F) (k := ?k) (o := ?o) (Q := ?Q) (fun t H' => t 3 = t 3 ∧ Ow Fl.int 3 H' (t 3) (chans w h b) ∧ (∀ j ∈ ids (t 3), H.length + 1 ≤ j) ∧ Chg H H' []) ?main ?rest
  case main =>
   intro rest
   refine wp_inv (fun n t H' => ∃ (i : Nat) (u : Value), n = M - i ∧ i ≤ M ∧ t 1 = .pointer (some ⟨H.length, 0, some 0⟩) ∧ t 3 = u ∧ t 4 = .bool (decide (meshOk w h b)) ∧ t 5 = .int .i64 i ∧ H'[H.length]? = some ⟨[.int .i64 w, .int .i64 h, v], 0, 33⟩ ∧
      Ow Fl.int 3 H' u (if meshOk w h b then chN w h b i else []) ∧ (∀ j ∈ ids u, H.length + 1 ≤ j) ∧ Chg H H' []) ?_ (n := M)
    ⟨0, .slice (some ⟨H.length + 1, 0, some 0⟩) 0 0, rfl, by omega, by simp, by simp, by simp, by simp, by simp, by
      have : (if meshOk w h b then chN w h b 0 else []) = [] := by split <;> rfl
      rw [this]; exact Ow.new (D := Fl.int) (e := 3) (xs := []) (H := H) (k := 1) (by simp) rfl rfl rfl, by simp, Chg.app _⟩
   rintro n t H' ⟨i, u, rfl, hi, t1, t3, t4, t5, b0, o, nu, ch⟩ ih
   have hI1 := ((hI.rd).chg ch (by simp)).isI
   have nc := fun F L => (sNodeCount_c (frz := F) (H := L) w h).trans (by rw [hN])
   have e4' : IntKind.i64.wrap (4 * (N : Int)) = (M : Int) := e4
   simp [t1, t3, t4, t5, VM.look, b0, nc, e4']
   refine wpg_dec ?_ ?_ <;> intro g1
   · simp [t1, t3, t4, t5, g1]
     refine wp_dec ?_ ?_ <;> intro hm
     · simp [t1, t3, t4, t5, VM.look, b0, hI.one', hI.cells, l03Has_c _ _ _ _ _ hI1 hl]
       have e1 : ∀ [Inhabited Unit], IntKind.i64.wrap ((i : Int) + 1) = ((i + 1 : Nat) : Int) := by intro _; rw [w64 (by omega) (by omega)]; omega
       rw [if_pos hm] at o
       refine wp_dec ?_ ?_ <;> intro g2
       · have hll : (chN w h b i).length ≤ i := chN_len _ _ _ _
         obtain ⟨u', H2, hap, o2, c2, n2⟩ := o.push (P := Try.prog) (frz := H.length) (ty := 22) (a := (i : Int)) (by simp) rfl (by omega) (fun j hj => by have := nu j hj; omega)
         simp only [Fl.int_f] at hap
         have l0 := ch.1
         have k0 := box_lt b0
         simp [t1, t3, t4, t5, hap]
         refine ih (M - (i + 1)) _ _ ⟨i + 1, u', rfl, by omega, by simp [t1], by simp, by simp [t4], by simp [e1], box_chg b0 c2 (fun hh => by have := nu _ hh; omega), ?_, fun j hj => ?_, ch.trans' c2 (fun j hj => .inr (by have := nu j hj; omega))⟩ (by omega)
         · rw [if_pos hm, chN_succ, if_pos g2]; exact o2
         · rcases n2 j hj with h1 | h1
           · exact nu j h1
           · omega
       · simp [t1, t3, t4, t5]
         refine ih (M - (i + 1)) _ _ ⟨i + 1, u, rfl, by omega, by simp [t1], by simp [t3], by simp [t4], by simp [e1], b0, ?_, nu, ch⟩ (by omega)
         rw [if_pos hm, chN_succ, if_neg g2]; exact o
     · rw [if_neg hm] at o
       simp [t1, t3, t4, t5, -go_exit_blk]
       refine rest _ _ ?_
       have hch : chans w h b = [] := if_neg hm
       exact ⟨rfl, by simp [t3, hch]; exact o, by simp [t3]; exact nu, ch⟩
   · have him : i = M := by omega
     simp [t1, t3, t4, t5, g1, -go_exit_blk]
     refine rest _ _ ?_
     refine ⟨rfl, ?_, by simp [t3]; exact nu, ch⟩
     simp [t3]
     unfold chans; rw [hNt, ← hM, ← him]; exact o
  case rest =>
    rintro t H' ⟨_, o, nu, ch⟩
    simp
    exact ⟨o, fun j hj => by have := nu j hj; omega, ch⟩
theorem sameInts_c (v u : Value) (xs ys : List Int) (hI : IsI H v xs) (hJ : IsI H u ys) (hl : xs.length ≤ 1073741824) : vcall C frz 54 [v, u] H = some (.bool (decide (xs = ys)), H) := by
  refine wp.exact (by simp) ?_ rfl
  rw [vcall_go (fn := Try.f54) Try.func54 rfl (by kernel_rfl) rfl]
  simp [hI.len, hJ.len]
  refine wp_dec ?_ ?_ <;> intro g0
  · have hle : xs.length = ys.length := by omega
    simp
    refine wp_inv (fun n t H' => ∃ i : Nat, n = xs.length - i ∧ i ≤ xs.length ∧ t 0 = v ∧ t 1 = u ∧ t 5 = .int .i64 i ∧ H' = H ∧ xs.take i = ys.take i) ?_ (n := xs.length) ⟨0, rfl, by omega, by simp, by simp, by simp, rfl, rfl⟩
    rintro n t H' ⟨i, rfl, hi, t0, t1, t5, hH, he⟩ ih
    rw [hH]
    simp [t0, t1, t5, hI.len]
    refine wp_dec ?_ ?_ <;> intro g1
    · have q1 := hI.idx (P := Try.prog) (ty := 22) (e := 3) (by simp) (i := (i : Int)) (by omega) (by omega)
      have r1 := (hI.load (P := Try.prog) (e := 3) (by simp) g1).trans (by rw [getD_get _ _ g1])
      have q2 := hJ.idx (P := Try.prog) (ty := 22) (e := 3) (by simp) (i := (i : Int)) (by omega) (by omega)
      have g1' : i < ys.length := by omega
      have r2 := (hJ.load (P := Try.prog) (e := 3) (by simp) g1').trans (by rw [getD_get _ _ g1'])
      simp only [Int.toNat_natCast] at q1 q2
      simp [t0, t1, t5]
      rw [go_draw (h := by kernel_rfl)]
      simp [t0, t1, t5, q1, r1, q2, r2]
      refine wp_dec ?_ ?_ <;> intro g2
      · simp [t0, t1, t5]
        refine ih (xs.length - (i + 1)) _ _ ⟨i + 1, rfl, by omega, by simp [t0], by simp [t1], ?_, rfl, ?_⟩ (by omega)
        · simp; rw [w64 (by omega) (by omega)]
        · rw [List.take_succ_eq_append_getElem g1, List.take_succ_eq_append_getElem g1', he, g2]
      · simp
        intro hh; subst hh; exact g2 rfl
    · have him : i = xs.length := by omega
      simp
      rw [him, List.take_length] at he
      rw [he, hle, List.take_length]
  · simp
    intro hh; exact g0 (by rw [hh])
theorem hasI_c (v : Value) (xs : List Int) (k : Int) (hI : IsI H v xs) (hl : xs.length ≤ 1073741824) : vcall C frz 28 [v, .int .i64 k] H = some (.bool (decide (k ∈ xs)), H) := by
  refine wp.exact (by simp) ?_ rfl
  rw [vcall_go (fn := Try.f28) Try.func28 rfl (by kernel_rfl) rfl]
  simp
  refine wp_inv (fun n t H' => ∃ i : Nat, n = xs.length - i ∧ i ≤ xs.length ∧ t 0 = v ∧ t 1 = .int .i64 k ∧ t 5 = .int .i64 i ∧ H' = H ∧ k ∉ xs.take i) ?_ (n := xs.length) ⟨0, rfl, by omega, by simp, by simp, by simp, rfl, by simp⟩
  rintro n t H' ⟨i, rfl, hi, t0, t1, t5, hH, he⟩ ih
  rw [hH]
  simp [t0, t1, t5, hI.len]
  refine wp_dec ?_ ?_ <;> intro g1
  · have q1 := hI.idx (P := Try.prog) (ty := 22) (e := 3) (by simp) (i := (i : Int)) (by omega) (by omega)
    have r1 := (hI.load (P := Try.prog) (e := 3) (by simp) g1).trans (by rw [getD_get _ _ g1])
    simp only [Int.toNat_natCast] at q1
    simp [t0, t1, t5, q1, r1]
    refine wp_dec ?_ ?_ <;> intro g2
    · simp
      rw [← g2]; exact List.getElem_mem g1
    · simp [t0, t1, t5]
      refine ih (xs.length - (i + 1)) _ _ ⟨i + 1, rfl, by omega, by simp [t0], by simp [t1], ?_, rfl, ?_⟩ (by omega)
      · simp; rw [w64 (by omega) (by omega)]
      · rw [List.take_succ_eq_append_getElem g1]
        intro hh
        rcases List.mem_append.1 hh with hh | hh
        · exact he hh
        · exact g2 (List.mem_singleton.1 hh).symm
  · have him : i = xs.length := by omega
    simp
    rw [him, List.take_length] at he
    exact he
/-! plain: one channel more is broken -/
theorem broke_mem {b : List Int} {c x : Int} : x ∈ broke b c ↔ x ∈ b ∨ x = c := by
  unfold broke
  rw [(isort_perm _).mem_iff]; simp
theorem has_broke {w h : Int} {b : List Int} {c x : Int} : has w h (broke b c) x ↔ has w h b x ∧ x ≠ c := by
  unfold has
  rw [broke_mem]
  constructor
  · rintro ⟨h1, h2⟩; exact ⟨⟨h1, fun hh => h2 (.inl hh)⟩, fun hh => h2 (.inr hh)⟩
  · rintro ⟨⟨h1, h2⟩, h3⟩; exact ⟨h1, fun hh => hh.elim h2 h3⟩
theorem meshOk_broke {w h : Int} {b : List Int} {c : Int} (hok : breakOk w h b c) : meshOk w h (broke b c) := by
  obtain ⟨hm, hl, hn⟩ := hok
  obtain ⟨m1, m2, m3⟩ := (meshOk_iff w h b).1 hm
  refine (meshOk_iff w h _).2 ⟨m1, fun x hx => ?_, ?_⟩
  · rcases broke_mem.1 hx with h1 | h1
    · exact m2 x h1
    · rw [h1]; exact hl
  · have hs := isort_sorted (b ++ [c])
    have hnd : (b ++ [c]).Nodup := by
      rw [List.nodup_append]
      refine ⟨m3.imp (fun h => by omega), by simp, fun x hx y hy => ?_⟩
      rw [List.mem_singleton.1 hy]
      intro e; subst e; exact hn hx
    have hnd2 : (isort (b ++ [c])).Nodup := (isort_perm _).nodup_iff.2 hnd
    have := List.pairwise_and_iff.2 ⟨hs, hnd2⟩
    exact this.imp (fun h => by obtain ⟨h1, h2⟩ := h; omega)
theorem chN_broke {w h : Int} {b : List Int} {k : Nat} (hk : has w h b (k : Int)) : ∀ m, (chN w h (broke b k) m).length + (if k < m then 1 else 0) = (chN w h b m).length
  | 0 => by simp [chN]
  | m + 1 => by
    have ih := chN_broke hk m
    rw [chN_succ, chN_succ]
    by_cases hm : has w h b (m : Int)
    · rw [if_pos hm]
      by_cases hkm : k = m
      · subst hkm
        rw [if_neg (fun hh => (has_broke.1 hh).2 rfl), if_pos (by omega)]
        rw [if_neg (by omega)] at ih
        simp; omega
      · rw [if_pos (has_broke.2 ⟨hm, by omega⟩)]
        simp
        by_cases h1 : k < m
        · rw [if_pos h1] at ih; rw [if_pos (by omega)]; omega
        · rw [if_neg h1] at ih; rw [if_neg (by omega)]; omega
    · rw [if_neg hm, if_neg (fun hh => hm (has_broke.1 hh).1)]
      have : k ≠ m := fun e => by subst e; exact hm hk
      by_cases h1 : k < m
      · rw [if_pos h1] at ih; rw [if_pos (by omega)]; omega
      · rw [if_neg h1] at ih; rw [if_neg (by omega)]; omega
theorem chans_broke {w h : Int} {b : List Int} {c : Int} (hok : breakOk w h b c) : (chans w h (broke b c)).length + 1 = (chans w h b).length ∧ c ∉ chans w h (broke b c) := by
  have hl := hok.2.1.1
  have hc := cnt_range w h
  obtain ⟨k, rfl⟩ := Int.eq_ofNat_of_zero_le hl.1
  unfold chans
  rw [if_pos (meshOk_broke hok), if_pos hok.1]
  have := chN_broke hok.2 (4 * (cnt w h).toNat)
  rw [if_pos (by omega)] at this
  exact ⟨this, fun hh => (has_broke.1 (chN_mem hh)).2 rfl⟩
theorem chans_has {w h : Int} {b : List Int} {x : Int} (hx : x ∈ chans w h b) : breakOk w h b x := by
  unfold chans at hx
  by_cases hm : meshOk w h b
  · rw [if_pos hm] at hx; exact ⟨hm, chN_mem hx⟩
  · rw [if_neg hm] at hx; cases hx
theorem chans_len (w h : Int) (b : List Int) : (chans w h b).length ≤ 64 := by
  have hc := cnt_range w h
  unfold chans
  split
  · have := chN_len w h b (4 * (cnt w h).toNat); omega
  · simp
end Go.Proofs.Ytnakhkfgheapoaa.V
/-! The law FnUpDown. -/
set_option linter.all false
namespace Go.Proofs.Ytnakhkfgheapoaa.V
open Go Go.VM Go.Proofs
set_option maxRecDepth 10000
variable {frz : Nat} {H : Heap}
theorem law_FnUpDown_w {a0 : List Int} {u0 : Value} (s0 : IsS (Kn.int .u8) H u0 a0)
    (w0 : a0.length ≤ maxLen ∧ ∀ x1 ∈ a0, (Lit.int .u8 x1).wf = true) :
    wp (vcall C frz 4 [u0] H) (fun r _ => r = .bool true) := by
  have r0 := IsS_bytes s0
  rw [vcall_go (fn := Try.f4) Try.func4 rfl (by kernel_rfl) rfl]
  simp [big_c _ _ r0]
  refine wp_dec ?_ ?_ <;> intro g0
  · simp
  · simp
    refine wp_thn (drawMesh_w u0 a0 r0 (by omega)) ?_
    rintro _ H1 ⟨v, w, h, b, rfl, hm, om, nm, c1⟩
    have one1 := And.intro om.rd.one' om.rd.cells
    have hlb := brk_len hm
    have cn1 := c1.1
    simp [VM.look, one1, cn1]
    refine wp_thn (drawPlaces_w u0 a0 (r0.chg c1 (by simp)).app (by omega)) ?_
    rintro u H2 ⟨xs, o, hx, hr, nu, c2⟩
    have b2 : H2[H1.length]? = some ⟨[.int .i64 w, .int .i64 h, v], 0, 33⟩ := box_chg (by simp) c2 (by simp)
    have om2 := (om.app (L := [⟨[.int .i64 w, .int .i64 h, v], 0, 33⟩])).chg c2 (by simp)
    have hg : okG w h := hm.2
    obtain ⟨N, hN⟩ : ∃ N : Nat, w * h = N := ⟨(w * h).toNat, by have := mul_small hg; omega⟩
    have hN1 : 1 ≤ N ∧ N ≤ 16 := by have := mul_small hg; omega
    have hcnt : cnt w h = N := by unfold cnt; rw [if_pos hg]; exact hN
    have fN : ∀ [Inhabited Unit], IntKind.i64.wrap (w * h) = (N : Int) := by intro _; rw [hN, w64 (by omega) (by omega)]
    have pick : ∀ j, (hj : j < xs.length) → ∃ q : Nat, q < N ∧ (xs[j]).tmod (N : Int) = (q : Int) := fun j hj => by
      have e0 := hr xs[j] (List.getElem_mem hj)
      have h1 := Int.emod_lt_of_pos xs[j] (show (0 : Int) < N by omega)
      have h2 := Int.emod_nonneg xs[j] (show (N : Int) ≠ 0 by omega)
      exact ⟨(xs[j] % (N : Int)).toNat, by omega, by rw [Int.tmod_eq_emod_of_nonneg e0.1]; omega⟩
    obtain ⟨R, hR, tR⟩ := pick 0 (by omega)
    obtain ⟨A, hA, tA⟩ := pick 1 (by omega)
    obtain ⟨D, hD, tD⟩ := pick 2 (by omega)
    have q0 := ow_ix0 o (i := 0) (by omega)
    have q1 := ow_ix0 o (i := 1) (by omega)
    have q2 := ow_ix0 o (i := 2) (by omega)
    have ea : vindexAddr Try.prog H2 22 u (.int .i64 0) = some (elp u 0) := q0.1
    have eb : vindexAddr Try.prog H2 22 u (.int .i64 1) = some (elp u 1) := q1.1
    have ec : vindexAddr Try.prog H2 22 u (.int .i64 2) = some (elp u 2) := q2.1
    have q0b := q0.2
    have q1b := q1.2
    have q2b := q2.2
    have wr : ∀ [Inhabited Unit], IntKind.i64.wrap (R : Int) = (R : Int) := by intro _; exact w64 (by omega) (by omega)
    have wa : ∀ [Inhabited Unit], IntKind.i64.wrap (A : Int) = (A : Int) := by intro _; exact w64 (by omega) (by omega)
    have wd : ∀ [Inhabited Unit], IntKind.i64.wrap (D : Int) = (D : Int) := by intro _; exact w64 (by omega) (by omega)
    have hNz : ¬ N = 0 := by omega
    simp [VM.look, b2, fN, ea, eb, ec, q0b, q1b, q2b, tR, tA, tD, wr, wa, wd, hNz, one1]
    refine wp_thn (treeDepths_w w h v b R om2.rd.isI (by omega)) ?_
    rintro d H3 ⟨L3, e3, od, nd⟩
    have b3 := get_app' b2 L3
    have om3 := om2.app (L := L3)
    rw [← e3] at b3 om3 od
    simp [VM.look, b3, one1]
    refine wp_thn (treeParents_w w h v b R om3.rd.isI (by omega)) ?_
    rintro p H4 ⟨L4, e4, op, np⟩
    have od4 := od.app (L := L4)
    rw [← e4] at od4 op
    have HR : rootOk w h b R := ⟨hm, by omega, by omega⟩
    have hdl := (depths_inv HR).1
    have hpl := parents_length w h b R
    have ld := od4.rd.len (P := Try.prog) (ty := 22) (by simp)
    have lp := op.rd.len (P := Try.prog) (ty := 22) (by simp)
    have hdN : (depths w h b R).length = N := by omega
    have hpN : (parents w h b R).length = N := by omega
    simp [ld, lp, hdN, hpN]
    refine wp_thn (treeNodes_w p _ A D op.rd.isI (by omega)) ?_
    rintro x H5 ⟨L5, e5, ox, nx⟩
    have op5 := op.app (L := L5)
    have od5 := od4.app (L := L5)
    rw [← e5] at op5 od5 ox
    have cm := fun F => common_c (frz := F) (H := H5) p _ A D op5.rd.isI (by omega)
    have gA := ow_ix0 od5 (i := A) (by omega)
    have gD := ow_ix0 od5 (i := D) (by omega)
    have gAa := gA.1
    have gAb := gA.2
    have gDa := gD.1
    have gDb := gD.2
    have rA : (depths w h b R)[A] = rd (depths w h b R) A := (rd_at (by omega)).symm
    have rD : (depths w h b R)[D] = rd (depths w h b R) D := (rd_at (by omega)).symm
    rw [rA] at gAb
    rw [rD] at gDb
    have iA : isN w h A := ⟨by omega, by omega⟩
    have iD : isN w h D := ⟨by omega, by omega⟩
    have lx := ox.rd.len (P := Try.prog) (ty := 22) (by simp)
    simp [cm, gAa, gAb, gDa, gDb]
    by_cases hlow : rd (depths w h b R) A < 0 ∨ rd (depths w h b R) D < 0
    · have fin : (A : Int) ≠ D → (treeNodes (parents w h b R) A D).length = 0 := fun hne => by
        unfold treeNodes
        rw [common_low HR iA iD hne hlow, if_pos (by decide)]; rfl
      have key : A = D ∨ (treeNodes (parents w h b R) A D).length = 0 := by
        by_cases hAD : A = D
        · exact .inl hAD
        · exact .inr (fin (by omega))
      by_cases h1 : rd (depths w h b R) A < 0
      · simp [h1, lx]
        refine wpg_dec ?_ ?_ <;> intro hAD
        · simp [hAD]
        · have hk := fin (by omega)
          simp [hAD, lx, hk]
      · have h2 : rd (depths w h b R) D < 0 := hlow.resolve_left h1
        simp [h1, h2, gDa, gDb, lx]
        refine wpg_dec ?_ ?_ <;> intro hAD
        · simp [hAD]
        · have hk := fin (by omega)
          simp [hAD, lx, hk]
    · have h1 : ¬ rd (depths w h b R) A < 0 := fun hh => hlow (.inl hh)
      have h2 : ¬ rd (depths w h b R) D < 0 := fun hh => hlow (.inr hh)
      obtain ⟨i, w1, w2, w3, w4, w5, w6, w7, w8⟩ := way_facts HR iA iD (by omega) (by omega)
      simp [h1, h2, gDa, gDb]
      rw [go_draw (h := by kernel_rfl)]
      have hXl := treeNodes_len (parents w h b R) A D
      have hdm : ∀ y ∈ depths w h b R, -1 ≤ y ∧ y ≤ 1000 := fun y hy => by have := (depths_inv HR).2 y hy; omega
      have bA := (depths_inv HR).2 _ (rd_mem (s := depths w h b R) (k := A) (by omega) (by omega))
      have bD := (depths_inv HR).2 _ (rd_mem (s := depths w h b R) (k := D) (by omega) (by omega))
      have bC := (depths_inv HR).2 _ (rd_mem (s := depths w h b R) (k := common (parents w h b R) A D) w2.1 (by have := w2.2; omega))
      obtain ⟨K, hK⟩ := Int.eq_ofNat_of_zero_le w2.1
      have hKN : K < N := by have := w2.2; omega
      rw [hK] at w2 w5 w6 bC
      have gK := ow_ix0 od5 (i := K) (by omega)
      have gKa := gK.1
      have gKb := gK.2
      have rK : (depths w h b R)[K] = rd (depths w h b R) K := (rd_at (by omega)).symm
      rw [rK] at gKb
      generalize treeNodes (parents w h b R) A D = X at *
      have z0 := ow_ix0 ox (i := 0) w1
      have zl := ow_ix0 ox (i := X.length - 1) (by omega)
      rw [G_get w1] at w3
      rw [G_get (by omega)] at w4
      rw [w3] at z0
      rw [w4] at zl
      have z0a : vindexAddr Try.prog H5 22 x (.int .i64 0) = some (elp x 0) := z0.1
      have z0b := z0.2
      have zla := zl.1
      have zlb := zl.2
      have ud := fun F => upDown_w (frz := F) (H := H5) d x (depths w h b R) X i od5.rd.isI ox.rd.isI (by omega) (by omega) hdm w7
      have hh := fun F => hasI_c (frz := F) (H := H5) x X K ox.rd.isI (by omega)
      generalize rd (depths w h b R) A = dA at *
      generalize rd (depths w h b R) D = dD at *
      generalize rd (depths w h b R) K = dK at *
      have m1 : ∀ [Inhabited Unit], IntKind.i64.wrap ((X.length : Int) - 1) = ((X.length - 1 : Nat) : Int) := by intro _; rw [w64 (by omega) (by omega)]; omega
      have m2 : ∀ [Inhabited Unit], IntKind.i64.wrap (dA + dD) = dA + dD := by intro _; rw [w64 (by omega) (by omega)]
      have m3 : ∀ [Inhabited Unit], IntKind.i64.wrap (2 * dK) = 2 * dK := by intro _; rw [w64 (by omega) (by omega)]
      have m4 : ∀ [Inhabited Unit], IntKind.i64.wrap (dA + dD - 2 * dK) = dA + dD - 2 * dK := by intro _; rw [w64 (by omega) (by omega)]
      have m5 : ∀ [Inhabited Unit], IntKind.i64.wrap (dA + dD - 2 * dK + 1) = (X.length : Int) := by intro _; rw [w64 (by omega) (by omega)]; omega
      have m6 : ∀ [Inhabited Unit], IntKind.i64.wrap (dA + 1) = dA + 1 := by intro _; rw [w64 (by omega) (by omega)]
      have n1 : ¬ X.length = 0 := by omega
      have n2 : ¬ X = [] := fun e => by rw [e] at w1; simp at w1
      have n3 : ¬ N ≤ K := by omega
      have n4 : ¬ (K : Int) < 0 := by omega
      simp [lx, hK, n1, n2, n3, n4, z0a, z0b, m1, zla, zlb, gAa, gAb, gDa, gDb, gKa, gKb, m2, m3, m4, m5]
      rw [go_draw (h := by kernel_rfl)]
      simp [ud, hh, hK, w6]
      refine wp_thn (anc_w p _ A op5.rd.isI (by omega)) ?_
      rintro y H6 ⟨L6, e6, oy, ny⟩
      rw [← e6] at oy
      have ly := oy.rd.len (P := Try.prog) (ty := 22) (by simp)
      have gA6 := ow_ix0 (e6 ▸ od5.app (L := L6)) (i := A) (by omega)
      have gA6a := gA6.1
      have gA6b := gA6.2
      rw [rA] at gA6b
      simp [ly, gA6a, gA6b, m6, w8]
theorem law_FnUpDown {a0 : List Int} {u0 : Value} (s0 : IsS (Kn.int .u8) H u0 a0)
    (w0 : a0.length ≤ maxLen ∧ ∀ x1 ∈ a0, (Lit.int .u8 x1).wf = true) :
    vcall C frz 4 [u0] H = some (.bool true, H) :=
  (law_FnUpDown_w s0 w0).exact (by simp) rfl
end Go.Proofs.Ytnakhkfgheapoaa.V
