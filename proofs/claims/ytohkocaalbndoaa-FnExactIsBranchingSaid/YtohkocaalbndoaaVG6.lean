import Derived.Test.YtohkocaalbndoaaVG5
/-! Branching channels. -/
set_option linter.all false
namespace Go.Proofs.Ytohkocaalbndoaa.V
open Go Go.VM Go.Proofs
set_option maxRecDepth 10000
variable {frz : Nat} {H : Heap}
def ende (w h c : Int) : Int := next w h (c / 4) (c % 4)
def branchAt (w h : Int) (b cs : List Int) (r : Int) (i : Nat) : Prop := has w h b (cs.getD i 0) ∧ ende w h (cs.getD i 0) ∉ r :: (cs.take i).map (ende w h)
instance (w h : Int) (b cs : List Int) (r : Int) (i : Nat) : Decidable (branchAt w h b cs r i) := inferInstanceAs (Decidable (_ ∧ _))
def branching (w h : Int) (b cs : List Int) (r : Int) : Prop := (meshOk w h b ∧ isN w h r) ∧ (∀ i, i < cs.length → branchAt w h b cs r i) ∧ ∀ i, i < cs.length → cs.getD i 0 / 4 ∈ r :: cs.map (ende w h)
instance (w h : Int) (b cs : List Int) (r : Int) : Decidable (branching w h b cs r) := inferInstanceAs (Decidable (_ ∧ _))
theorem sBranching_c (w h : Int) (v u : Value) (b cs : List Int) (r : Int) (hI : IsI H v b) (hU : IsI H u cs) (hl : b.length ≤ 1073741824) (hl' : cs.length ≤ 1073741824) :
   vcall C frz 40 [.agg #[.int .i64 w, .int .i64 h, v], u, .int .i64 r] H = some (.bool (decide (branching w h b cs r)), H) := by
  rw [vcall_go (fn := Try.f40) Try.func40 rfl (by kernel_rfl) rfl]
  simp [hI.one', hI.cells, l31Ok_c _ _ _ _ _ (hI.app _) hl, -Bool.decide_and]
  refine br_dec _ ?_ ?_ <;> intro hm <;> simp [hm]
  · refine go_inv (fun n t H' => ∃ (i g : Nat) (es : List Int) (G : Heap), n = cs.length - i ∧ i ≤ cs.length ∧ t 1 = u ∧ t 2 = .int .i64 r ∧ t 3 = .pointer (some ⟨H.length, 0, some 0⟩) ∧
      t 7 = .slice (some ⟨H.length + 1, 0, some g⟩) i 0 ∧ t 8 = .int .i64 i ∧
      H' = H ++ ⟨[.int .i64 w, .int .i64 h, v], 0, 42⟩ :: ⟨es.map (.int .i64), g, 3⟩ :: G ∧ es = (cs.take i).map (ende w h) ∧ es.length = i ∧ ∀ j < i, branchAt w h b cs r j) ?_ (n := cs.length) ⟨0, 0, [], [], by simp⟩
    rintro n t H' ⟨i, g, es, G, rfl, hi, h1, h2, h3, h4, h5, rfl, he, hn, hj⟩ ih
    have hE : IsI (H ++ ⟨[.int .i64 w, .int .i64 h, v], 0, 42⟩ :: ⟨es.map (.int .i64), g, 3⟩ :: G) (.slice (some ⟨H.length + 1, 0, some g⟩) i 0) es := by
      have := IsI.row (H := H ++ ⟨[.int .i64 w, .int .i64 h, v], 0, 42⟩ :: ⟨es.map (.int .i64), g, 3⟩ :: G) (id := H.length + 1) (xs := es) (r := ⟨es.map (.int .i64), g, 3⟩) (by simp) rfl
      rwa [hn] at this
    simp [h1, h2, h3, h4, h5, hU.lenA]
    refine br_dec _ ?_ ?_ <;> intro h6
    · simp [h1, h2, h3, h4, h5, h6]
      rw [go_draw (h := by kernel_rfl)]
      simp [h1, h2, h3, h4, h5, h6, hU.idxA, hU.loadA, getD_get, l03Has_c _ _ _ _ _ (hI.app _) hl, hI.one', hI.cells]
      refine br_dec _ ?_ ?_ <;> intro h7
      · obtain ⟨e1, e2⟩ := chan_div h7.1.1
        simp [h1, h2, h3, h4, h5, h6, h7]
        rw [go_draw (h := by kernel_rfl)]
        simp [h1, h2, h3, h4, h5, h6, h7, hU.idxA, hU.loadA, getD_get, hI.one', hI.cells, e1, e2, sNextNode_c]
        rw [show next w h (cs[i] / 4) (cs[i] % 4) = ende w h cs[i] from rfl]
        refine gd_dec _ _ ?_ ?_ <;> intro h8 <;> simp [h1, h2, h3, h4, h5, h6, h7, h8, find_c _ _ _ hE (by omega)]
        · exact fun hh => (hh.2.1 i h6).2 (by rw [getD_get _ _ h6, h8]; exact List.mem_cons_self)
        · refine br_dec _ ?_ ?_ <;> intro h9
          · simp [h1, h2, h3, h4, h5, h6, h7, h8, h9]
            exact fun hh => (hh.2.1 i h6).2 (by rw [getD_get _ _ h6, ← he]; exact List.mem_cons_of_mem _ h9)
          · simp [h1, h2, h3, h4, h5, h6, h7, h8, h9, hn]
            refine vneed_eq (by omega) ?_
            refine ih (cs.length - (i + 1)) _ _ ⟨i + 1, g + 1, es ++ [ende w h cs[i]], _, rfl, by omega, by simp [h1], by simp [h2], by simp [h3], by simp, ?_, by simp; rfl, ?_, by simp [hn], ?_⟩ (by omega)
            · simp; rw [w64 (by omega) (by omega)]
            · rw [List.take_succ_eq_append_getElem h6, he]; simp only [List.map_append, List.map_cons, List.map_nil]
            · intro j hji
              by_cases hji' : j < i
              · exact hj j hji'
              · have : j = i := by omega
                subst this
                refine ⟨by rw [getD_get _ _ h6]; exact h7, ?_⟩
                rw [getD_get _ _ h6, ← he, List.mem_cons, not_or]
                exact ⟨h8, h9⟩
      · simp [h1, h2, h3, h4, h5, h6, h7]
        exact fun hh => h7 (by have := (hh.2.1 i h6).1; rwa [getD_get _ _ h6] at this)
    · simp [h1, h2, h3, h4, h5, h6]
      have : i = cs.length := by omega
      subst this
      rw [List.take_length] at he
      refine go_inv (fun n t H' => ∃ j : Nat, n = cs.length - j ∧ j ≤ cs.length ∧ t 1 = u ∧ t 2 = .int .i64 r ∧ t 7 = .slice (some ⟨H.length + 1, 0, some g⟩) cs.length 0 ∧ t 10 = .int .i64 j ∧
        H' = H ++ ⟨[.int .i64 w, .int .i64 h, v], 0, 42⟩ :: ⟨es.map (.int .i64), g, 3⟩ :: G ∧ ∀ k, k < j → cs.getD k 0 / 4 ∈ r :: es) ?_ (n := cs.length) ⟨0, by simp [h1, h2, h4]⟩
      clear ih h1 h2 h3 h4 h5 h6
      rintro n t H' ⟨i, rfl, hi, h1, h2, h3, h4, rfl, hk⟩ ih
      simp [h1, h2, h3, h4, hU.lenA]
      refine br_dec _ ?_ ?_ <;> intro h6
      · have h7 := (hj i h6).1
        rw [getD_get _ _ h6] at h7
        obtain ⟨e1, e2⟩ := chan_div h7.1.1
        have no : cs[i] / 4 ∉ r :: es → ¬ branching w h b cs r := fun hh hb => hh (by have := hb.2.2 i h6; rwa [getD_get _ _ h6, ← he] at this)
        have yes := fun (t' : Env) (e1 : t' 1 = u) (e2 : t' 2 = .int .i64 r) (e3 : t' 7 = .slice (some ⟨H.length + 1, 0, some g⟩) cs.length 0) (e4 : t' 10 = .int .i64 (i + 1 : Nat)) (e5 : cs[i] / 4 ∈ r :: es) =>
          ih (cs.length - (i + 1)) t' _ ⟨i + 1, rfl, by omega, e1, e2, e3, e4, rfl, fun k hki => by
            by_cases hk' : k < i
            · exact hk k hk'
            · have : k = i := by omega
              subst this; rw [getD_get _ _ h6]; exact e5⟩ (by omega)
        simp [h1, h2, h3, h4, h6, hU.idxA, hU.loadA, getD_get, e1]
        refine gd_dec _ _ ?_ ?_ <;> intro h8 <;> simp [h1, h2, h3, h4, h6, h8, hU.idxA, hU.loadA, getD_get, e1, find_c _ _ _ hE (by omega)]
        · refine yes _ (by simp [h1]) (by simp [h2]) (by simp [h3]) ?_ (h8 ▸ List.mem_cons_self)
          simp; rw [w64 (by omega) (by omega)]
        · refine br_dec _ ?_ ?_ <;> intro h9 <;> simp [h1, h2, h3, h4, h6, h8, h9]
          · refine yes _ (by simp [h1]) (by simp [h2]) (by simp [h3]) ?_ (List.mem_cons_of_mem _ h9)
            simp; rw [w64 (by omega) (by omega)]
          · exact no (by rw [List.mem_cons, not_or]; exact ⟨h8, h9⟩)
      · have : i = cs.length := by omega
        subst this
        simp [h1, h2, h3, h4, h6]
        rw [he] at hk
        exact ⟨hm, hj, hk⟩
  · exact fun hh => hm hh.1
end Go.Proofs.Ytohkocaalbndoaa.V
