import Derived.Test.YtohkocaalbndoaaVG6
/-! Branching channels: the program's own. -/
set_option linter.all false
namespace Go.Proofs.Ytohkocaalbndoaa.V
open Go Go.VM Go.Proofs
set_option maxRecDepth 10000
variable {frz : Nat} {H : Heap}
theorem branching1_c (c : Int) (id : Nat) (s : Value) (es : List Int) (hr : H[id]? = some ⟨[s], 0, 28⟩) (hs : IsI H s es) (hn : es.length ≤ 1073741824) (hc : 0 ≤ c ∧ c < 64) :
   vcall C frz 75 [.int .i64 c, .pointer (some ⟨id, 0, some 0⟩)] H = some (.bool (!decide (c / 4 ∈ es)), H) := by
  rw [vcall_go (fn := Try.f75) Try.func75 rfl (by kernel_rfl) rfl]
  have e1 : IntKind.i64.wrap (c.tdiv 4) = c / 4 := by
    rw [Int.tdiv_eq_ediv_of_nonneg hc.1]
    exact w64 (by omega) (by omega)
  simp [VM.look, hr, e1, contains_c _ _ _ hs hn]
theorem branching_c (w h : Int) (v u : Value) (b cs : List Int) (r : Int) (hI : IsI H v b) (hU : IsI H u cs) (hl : b.length ≤ 1073741824) (hl' : cs.length ≤ 1073741823) :
   vcall C frz 41 [.agg #[.int .i64 w, .int .i64 h, v], u, .int .i64 r] H = some (.bool (decide (branching w h b cs r)), H) := by
  rw [vcall_go (fn := Try.f41) Try.func41 rfl (by kernel_rfl) rfl]
  simp [hI.one', hI.cells, isRoot_c _ _ _ _ _ (hI.app _) hl, -Bool.decide_and]
  refine br_dec _ ?_ ?_ <;> intro hm <;> simp [hm, (hU.app _).len]
  · refine go_inv (fun n t H' => ∃ (i g : Nat) (es : List Int) (G : Heap), n = cs.length - i ∧ i ≤ cs.length ∧ t 1 = u ∧ t 2 = .int .i64 r ∧ t 3 = .pointer (some ⟨H.length, 0, some 0⟩) ∧
      t 7 = .pointer (some ⟨H.length + 2, 0, some 0⟩) ∧ t 16 = u ∧ t 17 = .int .i64 cs.length ∧ t 18 = .int .i64 i ∧
      H' = H ++ ⟨[.int .i64 w, .int .i64 h, v], 0, 42⟩ :: ⟨es.map (.int .i64), g, 3⟩ :: ⟨[.slice (some ⟨H.length + 1, 0, some g⟩) (i + 1) 0], 0, 28⟩ :: G ∧ es = r :: (cs.take i).map (ende w h) ∧ es.length = i + 1 ∧ ∀ j < i, branchAt w h b cs r j) ?_ (n := cs.length) ⟨0, 0, [r], [], by simp⟩
    rintro n t H' ⟨i, g, es, G, rfl, hi, h1, h2, h3, h4, h10, h11, h5, rfl, he, hn, hj⟩ ih
    have hE : ∀ L, IsI (H ++ ⟨[.int .i64 w, .int .i64 h, v], 0, 42⟩ :: ⟨es.map (.int .i64), g, 3⟩ :: L) (.slice (some ⟨H.length + 1, 0, some g⟩) (i + 1) 0) es := fun L => by
      have := IsI.row (H := H ++ ⟨[.int .i64 w, .int .i64 h, v], 0, 42⟩ :: ⟨es.map (.int .i64), g, 3⟩ :: L) (id := H.length + 1) (xs := es) (r := ⟨es.map (.int .i64), g, 3⟩) (by simp) rfl
      rwa [hn] at this
    simp [h1, h2, h3, h4, h5, h10, h11, hU.lenA]
    refine br_dec _ ?_ ?_ <;> intro h6
    · simp [h1, h2, h3, h4, h5, h6, h10, h11, hU.idxA, hU.loadA, getD_get]
      rw [go_draw (h := by kernel_rfl)]
      simp [h1, h2, h3, h4, h5, h6, h10, h11, hU.idxA, hU.loadA, getD_get, hasChannel_c _ _ _ _ _ (hI.app _) hl, hI.one', hI.cells, hm.1]
      refine gd_dec _ _ ?_ ?_ <;> intro h7
      · obtain ⟨e1, e2⟩ := chan_div h7.1.1
        simp [h1, h2, h3, h4, h5, h6, h7, h10, h11, endOf_c _ _ _ _ _ (hI.app _) h7.1, hI.one', hI.cells]
        rw [show next w h (cs[i] / 4) (cs[i] % 4) = ende w h cs[i] from rfl]
        simp [contains_c _ _ _ (hE _) (by omega)]
        refine br_dec _ ?_ ?_ <;> intro h8 <;> simp [h1, h2, h3, h4, h5, h6, h10, h11, h8]
        · exact fun hh => (hh.2.1 i h6).2 (by rw [getD_get _ _ h6, ← he]; exact h8)
        · rw [go_draw (h := by kernel_rfl)]
          simp [h1, h2, h3, h4, h5, h6, h7, h10, h11, endOf_c _ _ _ _ _ (hI.app _) h7.1, hI.one', hI.cells, hn]
          refine vneed_eq (by omega) ?_
          refine ih (cs.length - (i + 1)) _ _ ⟨i + 1, g + 1, es ++ [ende w h cs[i]], _, rfl, by omega, by simp [h1], by simp [h2], by simp [h3], by simp [h4], by simp [h10], by simp [h11], ?_, by simp; exact ⟨rfl, rfl⟩, ?_, by simp [hn], ?_⟩ (by omega)
          · simp; rw [w64 (by omega) (by omega)]
          · rw [List.take_succ_eq_append_getElem h6, he]; simp only [List.map_append, List.map_cons, List.map_nil, List.cons_append]
          · intro j hji
            by_cases hji' : j < i
            · exact hj j hji'
            · have : j = i := by omega
              subst this
              refine ⟨by rw [getD_get _ _ h6]; exact h7, ?_⟩
              rw [getD_get _ _ h6, ← he]
              exact h8
      · simp [h1, h2, h3, h4, h5, h6, h7, h10, h11]
        exact fun hh => h7 (by have := (hh.2.1 i h6).1; rwa [getD_get _ _ h6] at this)
    · simp [h1, h2, h3, h4, h5, h6, h10, h11]
      have : i = cs.length := by omega
      subst this
      rw [List.take_length] at he
      rw [containsFunc_c u _ (fun c => !decide (c / 4 ∈ es)) cs (hU.app _) (by omega) (fun c hc => ?_)]
      · simp
        rw [Bool.eq_iff_iff, List.any_eq_true, Bool.not_eq_true', decide_eq_false_iff_not]
        refine ⟨fun ⟨c, hc, hp⟩ hb => ?_, fun hb => ?_⟩
        · obtain ⟨k, hk, rfl⟩ := List.getElem_of_mem hc
          have := hb.2.2 k hk
          rw [getD_get _ _ hk, ← he] at this
          simp [this] at hp
        · refine Classical.byContradiction fun hno => hb ⟨hm, hj, fun k hk => ?_⟩
          rw [getD_get _ _ hk, ← he]
          refine Classical.byContradiction fun hh => hno ⟨cs[k], List.getElem_mem hk, by simp [hh]⟩
      · obtain ⟨k, hk, rfl⟩ := List.getElem_of_mem hc
        have h7 := (hj k hk).1
        rw [getD_get _ _ hk] at h7
        have := cnt_range w h
        have := h7.1.1
        simp
        rw [branching1_c _ _ _ _ (by simp) (hE _) (by omega) (by omega)]
  · exact fun hh => hm hh.1
end Go.Proofs.Ytohkocaalbndoaa.V
