/- Texts of a proof, joined. -/
import Derived.Test.YtcigpclbhfkgaaaGreatKM0
import Derived.Test.YtcigpclbhfkgaaaGreatKM1
import Derived.Test.YtcigpclbhfkgaaaGreatKFnExactChipRun0
/-! Tables that are valid. -/
set_option linter.all false
namespace Go.Proofs.YtcigpclbhfkgaaaGreat.V
open Go Go.VM Go.Proofs
set_option maxRecDepth 10000
variable {frz : Nat} {H : Heap}
theorem sq_small (w h : Int) : IntKind.i64.wrap (cnt w h * cnt w h) = cnt w h * cnt w h := by
  have hc := cnt_range w h
  have hc2 : cnt w h * cnt w h ≤ 16 * 16 := Int.mul_le_mul hc.2 hc.2 hc.1 (by omega)
  have hc3 : 0 * 0 ≤ cnt w h * cnt w h := Int.mul_le_mul hc.1 hc.1 (by omega) hc.1
  exact w64 (by omega) (by omega)
theorem sized_c (w h : Int) (v u : Value) (b T : List Int) (hI : IsI H v b) (hT : IsI H u T) (hl : b.length ≤ 1073741824) :
   vcall C frz 222 [.agg #[.int .i64 w, .int .i64 h, v], .agg #[u]] H = some (.bool (decide (tsized w h b T)), H) := by
  rw [vcall_go (fn := Tryz.f222) Tryz.func222 rfl (by kernel_rfl) rfl]
  simp [hI.one', hI.cells, hT.one', hT.cells, sNodeCount_c, sMeshOk_c _ _ _ _ (hI.app _) hl]
  refine gd_dec _ _ ?_ ?_ <;> intro h1 <;> simp [h1, tsized, hT.lenA, sq_small, hI.one', hI.cells, hT.one', hT.cells, sNodeCount_c, -Bool.decide_and]
def good (w h : Int) (b T : List Int) (a c : Nat) : Prop := ((a : Int) = c → portOf w h T a a = 4) ∧ ((a : Int) ≠ c → walk w h b T a c ≠ [])
theorem tableOk_iff (w h : Int) (b T : List Int) : tableOk w h b T ↔ tsized w h b T ∧ ∀ a, a < (cnt w h).toNat → ∀ c, c < (cnt w h).toNat → good w h b T a c := by
  unfold tableOk good
  refine and_congr Iff.rfl ⟨fun k a ha c hc => ?_, fun k a ha c hc => ?_⟩
  · exact ⟨fun e => (k a ha c hc).1 (by omega), fun e => (k a ha c hc).2 (by omega)⟩
  · exact ⟨fun e => (k a ha c hc).1 (by omega), fun e => (k a ha c hc).2 (by omega)⟩
theorem isN_nat {w h : Int} {a : Nat} (k : a < (cnt w h).toNat) : isN w h a := ⟨by omega, by omega⟩
theorem sTableOk_c (w h : Int) (v u : Value) (b T : List Int) (hI : IsI H v b) (hT : IsI H u T) (hl : b.length ≤ 1073741824) :
   vcall C frz 175 [.agg #[.int .i64 w, .int .i64 h, v], .agg #[u]] H = some (.bool (decide (tableOk w h b T)), H) := by
  rw [vcall_go (fn := Tryz.f175) Tryz.func175 rfl (by kernel_rfl) rfl]
  simp [hI.one', hI.cells, hT.one', hT.cells, sNodeCount_c, sized_c _ _ _ _ _ _ (hI.app _) (hT.app _) hl]
  refine br_dec _ ?_ ?_ <;> intro h1
  · simp [h1, hI.one', hI.cells, hT.one', hT.cells, sNodeCount_c]
    have hc := cnt_range w h
    have no : ∀ i j : Nat, i < (cnt w h).toNat → j < (cnt w h).toNat → ¬ good w h b T i j → ¬ tableOk w h b T := fun i j hi hj hg hh => hg (((tableOk_iff w h b T).1 hh).2 i hi j hj)
    refine go_inv (fun n t H' => ∃ (i : Nat) (G : Heap), n = (cnt w h).toNat - i ∧ i ≤ (cnt w h).toNat ∧ t 2 = .pointer (some ⟨H.length, 0, some 0⟩) ∧ t 3 = .pointer (some ⟨H.length + 1, 0, some 0⟩) ∧
      t 5 = .int .i64 (cnt w h) ∧ t 6 = .int .i64 i ∧ H' = H ++ ⟨[.int .i64 w, .int .i64 h, v], 0, 40⟩ :: ⟨[u], 0, 41⟩ :: G ∧ ∀ a, a < i → ∀ c, c < (cnt w h).toNat → good w h b T a c) ?_
      (n := (cnt w h).toNat) ⟨0, [], by simp⟩
    rintro n t H' ⟨i, G, rfl, hi, h2, h3, h5, h6, rfl, hk⟩ ih
    simp [h2, h3, h5, h6]
    refine br_dec _ ?_ ?_ <;> intro hlt
    · simp [h2, h3, h5, h6, hlt]
      refine go_inv (fun n t H' => ∃ (j : Nat) (G : Heap), n = (cnt w h).toNat - j ∧ j ≤ (cnt w h).toNat ∧ t 2 = .pointer (some ⟨H.length, 0, some 0⟩) ∧ t 3 = .pointer (some ⟨H.length + 1, 0, some 0⟩) ∧
        t 5 = .int .i64 (cnt w h) ∧ t 6 = .int .i64 i ∧ t 7 = .int .i64 j ∧ H' = H ++ ⟨[.int .i64 w, .int .i64 h, v], 0, 40⟩ :: ⟨[u], 0, 41⟩ :: G ∧ ∀ c, c < j → good w h b T i c) ?_
        (n := (cnt w h).toNat) ⟨0, G, by simp [h2, h3, h5, h6]⟩
      clear h2 h3 h5 h6
      rintro n t H' ⟨j, G, rfl, hj, h2, h3, h5, h6, h7, rfl, hkj⟩ ih2
      simp [h2, h3, h5, h6, h7]
      refine br_dec _ ?_ ?_ <;> intro hlj
      · have ni : i < (cnt w h).toNat := by omega
        have nj : j < (cnt w h).toNat := by omega
        obtain ⟨k0, k1, k2, k3⟩ := at_small (isN_nat ni) (isN_nat ni)
        have hTl := h1.2
        have e1 : IntKind.i64.wrap (i * cnt w h) = i * cnt w h := w64 (by omega) (by omega)
        have e2 : IntKind.i64.wrap (i * cnt w h + i) = i * cnt w h + i := w64 (by omega) (by omega)
        have q1 : ∀ L, vindexAddr Tryz.prog (H ++ L) 24 u (.int .i64 (i * cnt w h + i)) = some (elp u (i * cnt w h + i : Int).toNat) := fun L => hT.idxA (e := 3) (by simp) k0 (by omega)
        have q2 : ∀ L, vload Tryz.prog (H ++ L) 3 (elp u (i * cnt w h + i : Int).toNat) = some (.int .i64 (portOf w h T i i)) := fun L => hT.loadA (by simp) (by omega)
        have sw := fun F L => sWalk_c (frz := F) (H := H ++ L) w h v u b T i j (hI.app _) (hT.app _) hl h1 (isN_nat ni) (isN_nat nj)
        have yes := fun (t' : Env) (G' : Heap) (x2 : t' 2 = .pointer (some ⟨H.length, 0, some 0⟩)) (x3 : t' 3 = .pointer (some ⟨H.length + 1, 0, some 0⟩)) (x5 : t' 5 = .int .i64 (cnt w h)) (x6 : t' 6 = .int .i64 i) (x7 : t' 7 = .int .i64 (j + 1 : Nat)) (hg : good w h b T i j) =>
          ih2 ((cnt w h).toNat - (j + 1)) t' _ ⟨j + 1, G', rfl, by omega, x2, x3, x5, x6, x7, rfl, fun c hc' => by
            by_cases hcj : c < j
            · exact hkj c hcj
            · have : c = j := by omega
              subst this; exact hg⟩ (by omega)
        simp [h2, h3, h5, h6, h7, hlj]
        refine gd_dec _ _ ?_ ?_ <;> intro hij
        · obtain rfl : i = j := by omega
          simp [h2, h3, h5, h6, h7, hlj, e1, e2, q1, q2]
          refine gd_dec _ _ ?_ ?_ <;> intro hp
          · simp [h2, h3, h5, h6, h7, hlj, hp]
            refine yes _ _ (by simp [h2]) (by simp [h3]) (by simp [h5]) (by simp [h6]) ?_ ⟨fun _ => hp, fun hh => absurd rfl hh⟩
            simp; rw [w64 (by omega) (by omega)]
          · simp [h2, h3, h5, h6, h7, hlj, hp]
            exact no i i ni ni (fun hg => hp (hg.1 rfl))
        · simp [h2, h3, h5, h6, h7, hlj, hij, hI.one', hI.cells, hT.one', hT.cells, sw]
          refine br_dec _ ?_ ?_ <;> intro hp
          · simp [h2, h3, h5, h6, h7, hlj, hp]
            exact no i j ni nj (fun hg => hg.2 hij hp)
          · simp [h2, h3, h5, h6, h7, hlj, hp]
            refine yes _ _ (by simp [h2]) (by simp [h3]) (by simp [h5]) (by simp [h6]) ?_ ⟨fun hh => absurd hh hij, fun _ => hp⟩
            simp; rw [w64 (by omega) (by omega)]
      · have : j = (cnt w h).toNat := by omega
        subst this
        simp [h2, h3, h5, h6, h7, hlj]
        refine ih ((cnt w h).toNat - (i + 1)) _ _ ⟨i + 1, G, rfl, by omega, by simp [h2], by simp [h3], by simp [h5], ?_, rfl, fun a ha c hc' => ?_⟩ (by omega)
        · simp; rw [w64 (by omega) (by omega)]
        · by_cases hai : a < i
          · exact hk a hai c hc'
          · have : a = i := by omega
            subst this; exact hkj c hc'
    · simp [h2, h3, h5, h6, hlt]
      have : i = (cnt w h).toNat := by omega
      subst this
      exact (tableOk_iff w h b T).2 ⟨h1, hk⟩
  · simp [h1]
    exact fun k => h1 k.1
theorem areInside_c (v : Value) (xs : List Int) (lo hi : Int) (hI : IsI H v xs) (hl : xs.length ≤ 1073741824) :
   vcall C frz 145 [v, .int .i64 lo, .int .i64 hi] H = some (.bool (decide (∀ x ∈ xs, inR lo x hi)), H) := by
  rw [vcall_go (fn := Tryz.f145) Tryz.func145 rfl (by kernel_rfl) rfl]
  simp [hI.len]
  refine go_inv (fun n t H' => ∃ i : Nat, n = xs.length - i ∧ i ≤ xs.length ∧ t 1 = .int .i64 lo ∧ t 2 = .int .i64 hi ∧ t 9 = v ∧ t 10 = .int .i64 xs.length ∧ t 11 = .int .i64 i ∧ H' = H ∧ ∀ x ∈ xs.take i, inR lo x hi) ?_ (n := xs.length) ⟨0, by simp⟩
  rintro n t H' ⟨i, rfl, hi', h1, h2, h3, h4, h5, rfl, hj⟩ ih
  simp [h1, h2, h3, h4, h5]
  refine br_dec _ ?_ ?_ <;> intro h6
  · simp [h1, h2, h3, h4, h5, h6, hI.idx, hI.load, getD_get, inside_c]
    refine br_dec _ ?_ ?_ <;> intro h7 <;> simp [h1, h2, h3, h4, h5, h6, h7]
    · refine ih (xs.length - (i + 1)) _ _ ⟨i + 1, rfl, by omega, by simp [h1], by simp [h2], by simp [h3], by simp [h4], ?_, rfl, fun x hx => ?_⟩ (by omega)
      · simp; rw [w64 (by omega) (by omega)]
      · rw [List.take_succ_eq_append_getElem h6] at hx
        rcases List.mem_append.1 hx with hx | hx
        · exact hj x hx
        · rw [List.mem_singleton.1 hx]; exact h7
    · exact ⟨_, List.getElem_mem h6, h7⟩
  · have : i = xs.length := by omega
    subst this
    simp [h1, h2, h3, h4, h5]
    rwa [List.take_length] at hj
def rowPairs (n a m : Nat) : List (Nat × Nat) := ((List.range m).filter (fun c => a ≠ c)).map fun c => (a, c)
/-- the pairs in the order of the visits -/
def allPairs (n m : Nat) : List (Nat × Nat) := (List.range m).flatMap fun a => rowPairs n a n
theorem rowPairs_eq (n a m : Nat) (h : a = m) : rowPairs n a (m + 1) = rowPairs n a m := by
  simp [rowPairs, List.range_succ, h]
theorem rowPairs_ne (n a m : Nat) (h : a ≠ m) : rowPairs n a (m + 1) = rowPairs n a m ++ [(a, m)] := by
  simp [rowPairs, List.range_succ, h]
theorem allPairs_succ (n m : Nat) : allPairs n (m + 1) = allPairs n m ++ rowPairs n m n := by
  simp [allPairs, List.range_succ]
theorem mem_allPairs {n a c : Nat} : (a, c) ∈ allPairs n n ↔ a < n ∧ c < n ∧ a ≠ c := by
  simp [allPairs, rowPairs]
theorem pairs_w (w h : Int) (f : Value) {Q : Value → Heap → Prop} (Inv : List (Nat × Nat) → Heap → Prop)
    (h0 : Inv [] (H ++ [⟨[.int .i64 w, .int .i64 h], 0, 38⟩]))
    (hs : ∀ (done : List (Nat × Nat)) (a c : Nat) (H' : Heap), a < (cnt w h).toNat → c < (cnt w h).toNat → a ≠ c → Inv done H' → wp (vclos (vcall C frz) f [.int .i64 a, .int .i64 c] H') fun r H'' => (r = .bool true ∧ Inv (done ++ [(a, c)]) H'') ∨ (r = .bool false ∧ Q (.bool false) H''))
    (he : ∀ H', Inv (allPairs (cnt w h).toNat (cnt w h).toNat) H' → Q (.bool true) H') :
    wp (vcall C frz 226 [.agg #[.int .i64 w, .int .i64 h], f] H) Q := by
  rw [vcall_go (fn := Tryz.f226) Tryz.func226 rfl (by kernel_rfl) rfl]
  have hc := cnt_range w h
  simp [nodeCount_c]
  refine wp_inv (fun n t H' => ∃ (i : Nat), n = (cnt w h).toNat - i ∧ i ≤ (cnt w h).toNat ∧ t 1 = f ∧ t 5 = .int .i64 (cnt w h) ∧ t 10 = .int .i64 (cnt w h) ∧ t 11 = .int .i64 i ∧
    Inv (allPairs (cnt w h).toNat i) H') ?_ (n := (cnt w h).toNat) ⟨0, by simp [allPairs, h0]⟩
  rintro n t H' ⟨i, rfl, hi, h1, h5, h10, h11, hk⟩ ih
  simp [h1, h5, h10, h11]
  refine wp_dec ?_ ?_ <;> intro hlt
  · simp [h1, h5, h10, h11, hlt]
    refine wp_inv (fun n t H' => ∃ (j : Nat), n = (cnt w h).toNat - j ∧ j ≤ (cnt w h).toNat ∧ t 1 = f ∧ t 5 = .int .i64 (cnt w h) ∧ t 10 = .int .i64 (cnt w h) ∧ t 11 = .int .i64 i ∧ t 6 = .int .i64 i ∧ t 14 = .int .i64 (cnt w h) ∧ t 15 = .int .i64 j ∧
      Inv (allPairs (cnt w h).toNat i ++ rowPairs (cnt w h).toNat i j) H') ?_ (n := (cnt w h).toNat) ⟨0, by simp [h1, h5, h10, h11, rowPairs, hk]⟩
    clear h1 h5 h10 h11 hk
    rintro n t H' ⟨j, rfl, hj, h1, h5, h10, h11, h6, h14, h15, hk⟩ ih2
    simp [h1, h5, h10, h11, h6, h14, h15]
    refine wp_dec ?_ ?_ <;> intro hlj
    · have ni : i < (cnt w h).toNat := by omega
      have nj : j < (cnt w h).toNat := by omega
      have yes := fun (t' : Env) (H' : Heap) (x1 : t' 1 = f) (x5 : t' 5 = .int .i64 (cnt w h)) (x10 : t' 10 = .int .i64 (cnt w h)) (x11 : t' 11 = .int .i64 i) (x6 : t' 6 = .int .i64 i) (x14 : t' 14 = .int .i64 (cnt w h)) (x15 : t' 15 = .int .i64 (j + 1 : Nat)) (hg : Inv (allPairs (cnt w h).toNat i ++ rowPairs (cnt w h).toNat i (j + 1)) H') =>
        ih2 ((cnt w h).toNat - (j + 1)) t' H' ⟨j + 1, rfl, by omega, x1, x5, x10, x11, x6, x14, x15, hg⟩ (by omega)
      simp [h1, h5, h10, h11, h6, h14, h15, hlj]
      refine wpg_dec ?_ ?_ <;> intro hij
      · simp [h1, h5, h10, h11, h6, h14, h15, hlj, hij]
        refine yes _ _ (by simp [h1]) (by simp [h5]) (by simp [h10]) (by simp [h11]) (by simp [h6]) (by simp [h14]) ?_ (by rw [rowPairs_eq _ _ _ (by omega)]; exact hk)
        simp; rw [w64 (by omega) (by omega)]
      · simp [h1, h5, h10, h11, h6, h14, h15, hlj, hij]
        refine wp_thn (hs _ i j H' ni nj (by omega) hk) ?_
        rintro r H'' (⟨rfl, hq⟩ | ⟨rfl, hq⟩)
        · simp [h1, h5, h10, h11, h6, h14, h15, hlj, hij]
          refine yes _ _ (by simp [h1]) (by simp [h5]) (by simp [h10]) (by simp [h11]) (by simp [h6]) (by simp [h14]) ?_ (by rw [rowPairs_ne _ _ _ (by omega), ← List.append_assoc]; exact hq)
          simp; rw [w64 (by omega) (by omega)]
        · simp [h1, h5, h10, h11, h6, h14, h15, hlj, hij]
          exact hq
    · have : j = (cnt w h).toNat := by omega
      subst this
      simp [h1, h5, h10, h11, h6, h14, h15, hlj]
      refine ih ((cnt w h).toNat - (i + 1)) _ _ ⟨i + 1, rfl, by omega, by simp [h1], by simp [h5], by simp [h10], ?_, by rw [allPairs_succ]; exact hk⟩ (by omega)
      · simp; rw [w64 (by omega) (by omega)]
  · simp [h1, h5, h10, h11, hlt]
    have : i = (cnt w h).toNat := by omega
    subst this
    exact he _ hk
theorem tableOk1_c (w h : Int) (v u : Value) (b T : List Int) (a c : Int) (r1 r2 : Nat) (hI : IsI H v b) (hT : IsI H u T) (hl : b.length ≤ 1073741824) (hz : tsized w h b T) (ha : isN w h a) (hto : isN w h c) (hne : a ≠ c)
    (g1 : H[r1]? = some ⟨[.int .i64 w, .int .i64 h, v], 0, 40⟩) (g2 : H[r2]? = some ⟨[u], 0, 41⟩) :
   vcall C frz 227 [.int .i64 a, .int .i64 c, .pointer (some ⟨r1, 0, some 0⟩), .pointer (some ⟨r2, 0, some 0⟩)] H = some (.bool (!decide (walk w h b T a c = [])), H) := by
  rw [vcall_go (fn := Tryz.f227) Tryz.func227 rfl (by kernel_rfl) rfl]
  simp [VM.look, g1, g2, hI.one', hI.cells, hT.one', hT.cells, walk_c _ _ _ _ _ _ _ _ hI hT hl hz ha hto hne]
  by_cases hw : walk w h b T a c = []
  · simp [ret, hw]
  · have : 0 < (walk w h b T a c).length := List.length_pos_iff.2 hw
    simp [ret, hw, this]
theorem tableOk_w (w h : Int) (v u : Value) (b T : List Int) (hI : IsI H v b) (hT : IsI H u T) (hl : b.length ≤ 1073741824) :
   wp (vcall C frz 184 [.agg #[.int .i64 w, .int .i64 h, v], .agg #[u]] H) (fun r _ => r = .bool (decide (tableOk w h b T))) := by
  rw [vcall_go (fn := Tryz.f184) Tryz.func184 rfl (by kernel_rfl) rfl]
  simp [hI.one', hI.cells, hT.one', hT.cells, nodeCount_c, meshOk_c _ _ _ _ (hI.app _) hl]
  refine wpg_dec ?_ ?_ <;> intro hm
  · simp [hm, hT.lenA, sq_small]
    refine wp_dec ?_ ?_ <;> intro hz
    · simp [hz]
      have hs : tsized w h b T := ⟨hm, hz⟩
      have hc := cnt_range w h
      refine wp_inv (fun n t H' => ∃ (i : Nat), n = (cnt w h).toNat - i ∧ i ≤ (cnt w h).toNat ∧ t 2 = .pointer (some ⟨H.length, 0, some 0⟩) ∧ t 3 = .pointer (some ⟨H.length + 1, 0, some 0⟩) ∧ t 5 = .int .i64 (cnt w h) ∧ t 22 = .int .i64 (cnt w h) ∧ t 23 = .int .i64 i ∧
        H' = H ++ [⟨[.int .i64 w, .int .i64 h, v], 0, 40⟩, ⟨[u], 0, 41⟩] ∧ ∀ a, a < i → portOf w h T a a = 4) ?_ (n := (cnt w h).toNat) ⟨0, by simp⟩
      rintro n t H' ⟨i, rfl, hi, h2, h3, h5, h22, h23, rfl, hk⟩ ih
      simp [h2, h3, h5, h22, h23]
      refine wp_dec ?_ ?_ <;> intro hlt
      · have ni : i < (cnt w h).toNat := by omega
        obtain ⟨k0, k1, k2, k3⟩ := at_small (isN_nat ni) (isN_nat ni)
        have e1 : IntKind.i64.wrap (i * cnt w h) = i * cnt w h := w64 (by omega) (by omega)
        have e2 : IntKind.i64.wrap (i * cnt w h + i) = i * cnt w h + i := w64 (by omega) (by omega)
        have q1 : ∀ L, vindexAddr Tryz.prog (H ++ L) 24 u (.int .i64 (i * cnt w h + i)) = some (elp u (i * cnt w h + i : Int).toNat) := fun L => hT.idxA (e := 3) (by simp) k0 (by omega)
        have q2 : ∀ L, vload Tryz.prog (H ++ L) 3 (elp u (i * cnt w h + i : Int).toNat) = some (.int .i64 (portOf w h T i i)) := fun L => hT.loadA (by simp) (by omega)
        simp [h2, h3, h5, h22, h23, hlt, e1, e2, q1, q2]
        refine wp_dec ?_ ?_ <;> intro hp
        · simp [h2, h3, h5, h22, h23, hlt, hp]
          refine ih ((cnt w h).toNat - (i + 1)) _ _ ⟨i + 1, rfl, by omega, by simp [h2], by simp [h3], by simp [h5], by simp [h22], ?_, rfl, fun a ha => ?_⟩ (by omega)
          · simp; rw [w64 (by omega) (by omega)]
          · by_cases hai : a < i
            · exact hk a hai
            · have : a = i := by omega
              subst this; exact hp
        · simp [h2, h3, h5, h22, h23, hlt, hp]
          exact fun hh => hp ((hh.2 i ni i ni).1 rfl)
      · simp [h2, h3, h5, h22, h23, hlt]
        have : i = (cnt w h).toNat := by omega
        subst this
        refine wp_thn (pairs_w w h _ (Q := fun r _ => r = .bool (decide (tableOk w h b T))) (fun done H' => ∃ L, H' = H ++ [⟨[.int .i64 w, .int .i64 h, v], 0, 40⟩, ⟨[u], 0, 41⟩] ++ L ∧ ∀ p ∈ done, walk w h b T p.1 p.2 ≠ []) ⟨_, rfl, by simp⟩ ?_ ?_) ?_
        · rintro done a c _ ha hc' hne ⟨L, rfl, hd⟩
          simp
          rw [tableOk1_c w h v u b T a c _ _ (hI.app _) (hT.app _) hl hs (isN_nat ha) (isN_nat hc') (by omega) (by simp) (by simp)]
          simp
          by_cases hw : walk w h b T a c = []
          · refine .inr ⟨hw, ?_⟩
            exact fun hh => (hh.2 a (by omega) c (by omega)).2 (by omega) hw
          · refine .inl ⟨hw, fun p q hp => ?_⟩
            rcases hp with hp | ⟨rfl, rfl⟩
            · exact hd (p, q) hp
            · exact hw
        · rintro _ ⟨L, rfl, hd⟩
          simp
          exact ⟨hs, fun a ha c hc' => ⟨fun _ => hk a ha, fun hne => hd (a, c) (mem_allPairs.2 ⟨ha, hc', hne⟩)⟩⟩
        · rintro _ H' rfl
          simp
    · simp [hz]
      exact fun hh => hz hh.1.2
  · simp [hm]
    exact fun hh => hm hh.1.1
theorem tableOk_c (w h : Int) (v u : Value) (b T : List Int) (hI : IsI H v b) (hT : IsI H u T) (hl : b.length ≤ 1073741824) :
   vcall C frz 184 [.agg #[.int .i64 w, .int .i64 h, v], .agg #[u]] H = some (.bool (decide (tableOk w h b T)), H) :=
  (tableOk_w w h v u b T hI hT hl).exact (by simp) rfl
end Go.Proofs.YtcigpclbhfkgaaaGreat.V
/-! What unicasts cost. -/
set_option linter.all false
namespace Go.Proofs.YtcigpclbhfkgaaaGreat.V
open Go Go.VM Go.Proofs
set_option maxRecDepth 10000
variable {frz : Nat} {H : Heap}
def castOk (w h : Int) (b T : List Int) (a : Int) (ts : List Int) : Prop := tableOk w h b T ∧ isN w h a ∧ ∀ x ∈ ts, isN w h x
instance (w h : Int) (b T : List Int) (a : Int) (ts : List Int) : Decidable (castOk w h b T a ts) := inferInstanceAs (Decidable (_ ∧ _))
/-- what single packets to all targets cost -/
def cost (w h : Int) (b T : List Int) (a : Int) (ts : List Int) : Nat := (ts.map fun x => (walk w h b T a x).length).sum
theorem walk_len (w h : Int) (b T : List Int) (a to : Int) : (walk w h b T a to).length ≤ 16 := by
  have := walkN_len w h b T to (cnt w h).toNat a []
  have hc := cnt_range w h
  simp only [walk] at *
  simp at this; omega
theorem cost_succ {w h : Int} {b T : List Int} {a : Int} {ts : List Int} {i : Nat} (hi : i < ts.length) : cost w h b T a (ts.take (i + 1)) = cost w h b T a (ts.take i) + (walk w h b T a ts[i]).length := by
  unfold cost
  rw [List.take_succ_eq_append_getElem hi, List.map_append, List.sum_append]; simp
theorem cost_le (w h : Int) (b T : List Int) (a : Int) (ts : List Int) : cost w h b T a ts ≤ 16 * ts.length := by
  unfold cost
  induction ts with
  | nil => simp
  | cons x ts ih =>
    have := walk_len w h b T a x
    simp only [List.map_cons, List.sum_cons, List.length_cons]; omega
theorem walk_selfT {w h : Int} {b T : List Int} {a : Int} (ht : tableOk w h b T) (ha : isN w h a) : walk w h b T a a = [] := by
  obtain ⟨a0, a1⟩ := ha
  have := (ht.2 a.toNat (by omega) a.toNat (by omega)).1 rfl
  rw [show ((a.toNat : Nat) : Int) = a by omega] at this
  unfold walk
  cases (cnt w h).toNat <;> simp [walkN, this]
theorem walkT_c (w h : Int) (v u : Value) (b T : List Int) (a to : Int) (hI : IsI H v b) (hT : IsI H u T) (hl : b.length ≤ 1073741824) (hz : tableOk w h b T) (ha : isN w h a) (hto : isN w h to) :
   vcall C frz 228 [.agg #[.int .i64 w, .int .i64 h, v], .agg #[u], .int .i64 a, .int .i64 to] H = some (ret H (walk w h b T a to)) := by
  by_cases hne : a = to
  · subst hne
    rw [walk_selfT hz ha, vcall_go (fn := Tryz.f228) Tryz.func228 rfl (by kernel_rfl) rfl]
    simp [hI.one', hI.cells, hT.one', hT.cells, ret]
  · exact walk_c w h v u b T a to hI hT hl hz.1 ha hto hne
end Go.Proofs.YtcigpclbhfkgaaaGreat.V
/-! Latency without load; requests and replies. -/
set_option linter.all false
namespace Go.Proofs.YtcigpclbhfkgaaaGreat.V
open Go Go.VM Go.Proofs
set_option maxRecDepth 10000
variable {frz : Nat} {H : Heap}
def classesOk (w h : Int) (b A B : List Int) : Prop := tableOk w h b A ∧ tableOk w h b B
instance (w h : Int) (b A B : List Int) : Decidable (classesOk w h b A B) := inferInstanceAs (Decidable (_ ∧ _))
/-- a packet: its number, whence, whither, class, length -/
abbrev PkD := Int × Int × Int × Int × Int
def packetOk (w h : Int) (p : PkD) : Prop := inR 1 p.1 9999 ∧ isN w h p.2.1 ∧ isN w h p.2.2.1 ∧ p.2.1 ≠ p.2.2.1 ∧ inR 0 p.2.2.2.1 1 ∧ inR 1 p.2.2.2.2 5
instance (w h : Int) (p : PkD) : Decidable (packetOk w h p) := inferInstanceAs (Decidable (_ ∧ _))
def pkV (p : PkD) : Value := .agg #[.int .i64 p.1, .int .i64 p.2.1, .int .i64 p.2.2.1, .int .i64 p.2.2.2.1, .int .i64 p.2.2.2.2]
theorem classesOk_c (w h : Int) (v u1 u2 : Value) (b A B : List Int) (hI : IsI H v b) (h1 : IsI H u1 A) (h2 : IsI H u2 B) (hl : b.length ≤ 1073741824) :
   vcall C frz 142 [.agg #[.int .i64 w, .int .i64 h, v], .agg #[u1, u2]] H = some (.bool (decide (classesOk w h b A B)), H) := by
  rw [vcall_go (fn := Tryz.f142) Tryz.func142 rfl (by kernel_rfl) rfl]
  have one := And.intro (And.intro h1.one' h1.cells) (And.intro h2.one' h2.cells)
  simp [hI.one', hI.cells, one, tableOk_c _ _ _ _ _ _ (hI.app _) (h1.app _) hl]
  refine gd_dec _ _ ?_ ?_ <;> intro g <;> simp [g, classesOk, hI.one', hI.cells, one, tableOk_c _ _ _ _ _ _ (hI.app _) (h2.app _) hl]
theorem sClassesOk_c (w h : Int) (v u1 u2 : Value) (b A B : List Int) (hI : IsI H v b) (h1 : IsI H u1 A) (h2 : IsI H u2 B) (hl : b.length ≤ 1073741824) :
   vcall C frz 126 [.agg #[.int .i64 w, .int .i64 h, v], .agg #[u1, u2]] H = some (.bool (decide (classesOk w h b A B)), H) := by
  rw [vcall_go (fn := Tryz.f126) Tryz.func126 rfl (by kernel_rfl) rfl]
  have one := And.intro (And.intro h1.one' h1.cells) (And.intro h2.one' h2.cells)
  simp [hI.one', hI.cells, one, sTableOk_c _ _ _ _ _ _ (hI.app _) (h1.app _) hl]
  refine gd_dec _ _ ?_ ?_ <;> intro g <;> simp [g, classesOk, hI.one', hI.cells, one, sTableOk_c _ _ _ _ _ _ (hI.app _) (h2.app _) hl]
theorem packetOk_c (w h : Int) (p : PkD) : vcall C frz 85 [.agg #[.int .i64 w, .int .i64 h], pkV p] H = some (.bool (decide (packetOk w h p)), H) := by
  obtain ⟨i, a, b, c, l⟩ := p
  rw [vcall_go (fn := Tryz.f85) Tryz.func85 rfl (by kernel_rfl) rfl]
  by_cases g1 : inR 1 i 9999
  · by_cases g2 : isN w h a
    · by_cases g3 : isN w h b
      · by_cases g4 : a = b
        · simp [pkV, inside_c, isNode_c, g1, g2, g3, g4, packetOk]
        · by_cases g5 : inR 0 c 1
          · by_cases g6 : inR 1 l 5 <;> simp [pkV, inside_c, isNode_c, g1, g2, g3, g4, g5, g6, packetOk]
          · simp [pkV, inside_c, isNode_c, g1, g2, g3, g4, g5, packetOk]
      · simp [pkV, inside_c, isNode_c, g1, g2, g3, packetOk]
    · simp [pkV, inside_c, isNode_c, g1, g2, packetOk]
  · simp [pkV, inside_c, isNode_c, g1, packetOk]
theorem sPacketOk_c (w h : Int) (p : PkD) : vcall C frz 80 [.agg #[.int .i64 w, .int .i64 h], pkV p] H = some (.bool (decide (packetOk w h p)), H) := by
  obtain ⟨i, a, b, c, l⟩ := p
  rw [vcall_go (fn := Tryz.f80) Tryz.func80 rfl (by kernel_rfl) rfl]
  by_cases g1 : inR 1 i 9999
  · by_cases g2 : isN w h a
    · by_cases g3 : isN w h b
      · by_cases g4 : a = b
        · simp [pkV, l01In_c, l02Has_c, g1, g2, g3, g4, packetOk]
        · by_cases g5 : inR 0 c 1
          · by_cases g6 : inR 1 l 5 <;> simp [pkV, l01In_c, l02Has_c, g1, g2, g3, g4, g5, g6, packetOk]
          · simp [pkV, l01In_c, l02Has_c, g1, g2, g3, g4, g5, packetOk]
      · simp [pkV, l01In_c, l02Has_c, g1, g2, g3, packetOk]
    · simp [pkV, l01In_c, l02Has_c, g1, g2, packetOk]
  · simp [pkV, l01In_c, l02Has_c, g1, packetOk]
def zeroLoad (w h : Int) (b A B : List Int) (p : PkD) : Int :=
  if classesOk w h b A B ∧ packetOk w h p then ((walk w h b (if p.2.2.2.1 = 1 then B else A) p.2.1 p.2.2.1).length : Int) + p.2.2.2.2 + 1 else -1
theorem zeroLoad_range (w h : Int) (b A B : List Int) (p : PkD) : -1 ≤ zeroLoad w h b A B p ∧ zeroLoad w h b A B p ≤ 100 := by
  unfold zeroLoad; split
  · rename_i g
    have h1 := g.2.2.2.2.2.2
    have := walk_len w h b (if p.2.2.2.1 = 1 then B else A) p.2.1 p.2.2.1
    unfold inR at h1; omega
  · omega
/-- a request and its reply -/
def replyTime (w h : Int) (b A B : List Int) (p : PkD) (n : Int) : Int :=
  if zeroLoad w h b A B p < 0 ∨ zeroLoad w h b A B (p.1, p.2.2.1, p.2.1, IntKind.i64.wrap (1 - p.2.2.2.1), n) < 0 then -1 else zeroLoad w h b A B p + zeroLoad w h b A B (p.1, p.2.2.1, p.2.1, IntKind.i64.wrap (1 - p.2.2.2.1), n)
theorem zeroLoad_id {w h : Int} {b A B : List Int} {i j a c k l : Int} (h1 : inR 1 i 9999) (h2 : inR 1 j 9999) : zeroLoad w h b A B (i, a, c, k, l) = zeroLoad w h b A B (j, a, c, k, l) := by
  unfold zeroLoad packetOk
  simp only [h1, h2]
theorem toPacket_c (i a c k l : Int) : vcall C frz 83 [.agg #[.int .i64 i, .int .i64 a, .int .i64 c, .int .i64 k, .int .i64 l]] H = some (.agg #[.int .i64 i, .int .i64 a, .int .i64 c, .int .i64 k, .int .i64 l], H) := by
  rw [vcall_go (fn := Tryz.f83) Tryz.func83 rfl (by kernel_rfl) rfl]
  simp
end Go.Proofs.YtcigpclbhfkgaaaGreat.V
/-! Valid networks. -/
set_option linter.all false
namespace Go.Proofs.YtcigpclbhfkgaaaGreat.V
open Go Go.VM Go.Proofs
set_option maxRecDepth 10000
variable {frz : Nat} {H : Heap}
def flitOk (w h : Int) (f : FlitD) : Prop := isN w h f.2.1 ∧ inR 0 f.2.2.1 1
instance (w h : Int) (f : FlitD) : Decidable (flitOk w h f) := inferInstanceAs (Decidable (_ ∧ _))
def flitsOk (w h : Int) (l : List FlitD) : Prop := ∀ f ∈ l, flitOk w h f
instance (w h : Int) (l : List FlitD) : Decidable (flitsOk w h l) := inferInstanceAs (Decidable (∀ f ∈ l, flitOk w h f))
def sizesOk (x : NetD) : Prop := (x.2.2.1.length : Int) = 10 * cnt x.1.1 x.1.2.1 ∧ (x.2.2.2.1.length : Int) = 10 * cnt x.1.1 x.1.2.1 ∧ (x.2.2.2.2.1.length : Int) = 5 * cnt x.1.1 x.1.2.1 ∧ (x.2.2.2.2.2.1.length : Int) = cnt x.1.1 x.1.2.1 ∧ (x.2.2.2.2.2.2.1.length : Int) = cnt x.1.1 x.1.2.1
instance (x : NetD) : Decidable (sizesOk x) := inferInstanceAs (Decidable (_ ∧ _))
def bufOk (w h : Int) (l : List FlitD) (c : Int) : Prop := l.length ≤ 3 ∧ (∀ f ∈ l, f.2.2.1 = c) ∧ flitsOk w h l
instance (w h : Int) (l : List FlitD) (c : Int) : Decidable (bufOk w h l c) := inferInstanceAs (Decidable (_ ∧ _))
def srcOk (w h : Int) (l : List FlitD) : Prop := l.length ≤ 60 ∧ flitsOk w h l
instance (w h : Int) (l : List FlitD) : Decidable (srcOk w h l) := inferInstanceAs (Decidable (_ ∧ _))
/-- a valid network -/
def netOk (x : NetD) : Prop := classesOk x.1.1 x.1.2.1 x.1.2.2 x.2.1.1 x.2.1.2 ∧ sizesOk x ∧ (∀ i, i < x.2.2.1.length → bufOk x.1.1 x.1.2.1 (x.2.2.1.getD i []) ((i : Int) % 2)) ∧ (∀ l ∈ x.2.2.2.2.2.1, srcOk x.1.1 x.1.2.1 l) ∧
  (∀ o ∈ x.2.2.2.1, inR (-1) o 4) ∧ (∀ o ∈ x.2.2.2.2.1, inR 0 o 9) ∧ inR 0 x.2.2.2.2.2.2.2 1000000
instance (x : NetD) : Decidable (netOk x) := inferInstanceAs (Decidable (_ ∧ _))
theorem areFlits_c (w h : Int) (v : Value) (xs : List FlitD) (hI : Rd flF H v xs) (hl : xs.length ≤ 1073741824) :
   vcall C frz 144 [.agg #[.int .i64 w, .int .i64 h], v] H = some (.bool (decide (flitsOk w h xs)), H) := by
  refine wp.exact (by simp) ?_ rfl
  rw [vcall_go (fn := Tryz.f144) Tryz.func144 rfl (by kernel_rfl) rfl]
  generalize hB : decide (flitsOk w h xs) = B
  simp [hI.app.len (P := Tryz.prog) (ty := 113) (by simp)]
  refine wp_inv (fun n t H' => ∃ i : Nat, n = xs.length - i ∧ i ≤ xs.length ∧ t 2 = .pointer (some ⟨H.length, 0, some 0⟩) ∧ t 7 = v ∧ t 8 = .int .i64 xs.length ∧ t 9 = .int .i64 i ∧ Chg H H' [] ∧ H'[H.length]? = some ⟨[.int .i64 w, .int .i64 h], 0, 38⟩ ∧ ∀ f ∈ xs.take i, flitOk w h f) ?_ (n := xs.length)
    ⟨0, rfl, by omega, by simp, by simp, by simp, by simp, Chg.app _, by simp, by simp⟩
  rintro n t H' ⟨i, rfl, hi, t2, t7, t8, t9, c, b2, hk⟩ ih
  simp [t2, t7, t8, t9]
  refine wp_dec ?_ ?_ <;> intro g
  · have hi' : i < xs.length := by omega
    have rd := hI.chg c (by simp)
    have q1 := rd.idx (P := Tryz.prog) (ty := 113) (e := 157) (by simp) (i := (i : Int)) (by omega) (by omega)
    have q2 := rd.load (P := Tryz.prog) (e := 157) (by simp) hi'
    simp only [Int.toNat_natCast, flF_n] at q1 q2
    have l0 := c.1
    have hF : H.length ≤ H'.length := l0
    have b2' := fun r => box_chg (get_app' b2 [r]) (chg_set H'.length r) (by simp; have := box_lt b2; omega)
    have hlt := box_lt b2
    have hne : H'.length ≠ H.length := by omega
    have key : flitOk w h xs[i] ↔ isN w h xs[i].2.1 ∧ inR 0 xs[i].2.2.1 1 := Iff.rfl
    have hsucc : ∀ f ∈ xs.take (i + 1), f ∈ xs.take i ∨ f = xs[i] := fun f hf => by
      rw [List.take_succ_eq_append_getElem hi'] at hf
      rcases List.mem_append.1 hf with hf | hf
      · exact .inl hf
      · exact .inr (List.mem_singleton.1 hf)
    have hno : ¬ flitOk w h xs[i] → ¬ flitsOk w h xs := fun hh k => hh (k _ (List.getElem_mem hi'))
    simp [t2, t7, t8, t9, q1, q2, hF, flF_f, VM.look, b2, get_app' b2, isNode_c, inside_c]
    by_cases g1 : isN w h xs[i].2.1
    · by_cases g2 : inR 0 xs[i].2.2.1 1
      · simp [t2, t7, t8, t9, g1, g2, inside_c]
        refine ih (xs.length - (i + 1)) _ _ ⟨i + 1, rfl, by omega, by simp [t2], by simp [t7], by simp [t8], ?_, c.trans (Chg.app _), get_app' b2 _, fun f hf => ?_⟩ (by omega)
        · simp; rw [w64 (by omega) (by omega)]
        · rcases hsucc f hf with hf | rfl
          · exact hk f hf
          · exact ⟨g1, g2⟩
      · simp [t2, t7, t8, t9, g1, g2, inside_c]
        rw [← hB]; exact decide_eq_false (hno (fun hh => g2 hh.2))
    · simp [t2, t7, t8, t9, g1]
      rw [← hB]; exact decide_eq_false (hno (fun hh => g1 hh.1))
  · have : i = xs.length := by omega
    subst this
    rw [List.take_length] at hk
    simp [t2, t7, t8, t9]
    rw [← hB]; exact decide_eq_true hk
theorem l15Flits_c (w h : Int) (v : Value) (xs : List FlitD) (hI : Rd flF H v xs) (hl : xs.length ≤ 1073741824) :
   vcall C frz 134 [.agg #[.int .i64 w, .int .i64 h], v] H = some (.bool (decide (flitsOk w h xs)), H) := by
  refine wp.exact (by simp) ?_ rfl
  rw [vcall_go (fn := Tryz.f134) Tryz.func134 rfl (by kernel_rfl) rfl]
  generalize hB : decide (flitsOk w h xs) = B
  simp
  have rd : Rd flF (H ++ [⟨[.int .i64 w, .int .i64 h], 0, 38⟩]) v xs := hI.app
  refine wp_inv (fun n t H' => ∃ i : Nat, n = xs.length - i ∧ i ≤ xs.length ∧ t 1 = v ∧ t 2 = .pointer (some ⟨H.length, 0, some 0⟩) ∧ t 5 = .int .i64 i ∧ H' = H ++ [⟨[.int .i64 w, .int .i64 h], 0, 38⟩] ∧ ∀ f ∈ xs.take i, flitOk w h f) ?_ (n := xs.length)
    ⟨0, rfl, by omega, by simp, by simp, by simp, rfl, by simp⟩
  rintro n t H' ⟨i, rfl, hi, t1, t2, t5, rfl, hk⟩ ih
  simp [t1, t2, t5, rd.len (P := Tryz.prog) (ty := 113) (by simp)]
  refine wp_dec ?_ ?_ <;> intro g
  · have hi' : i < xs.length := by omega
    have q1 := rd.idx (P := Tryz.prog) (ty := 113) (e := 157) (by simp) (i := (i : Int)) (by omega) (by omega)
    have q2 := rd.cell (P := Tryz.prog) (e := 3) (by simp) hi' (c := 1) (by decide)
    have q3 := rd.cell (P := Tryz.prog) (e := 3) (by simp) hi' (c := 2) (by decide)
    have q4 := rd.field (P := Tryz.prog) (s := 157) (f := 1) (o := 1) (n := 1) (ag := false) (by simp) (j := i * 5) (by omega)
    have q5 := rd.field (P := Tryz.prog) (s := 157) (f := 2) (o := 2) (n := 1) (ag := false) (by simp) (j := i * 5) (by omega)
    simp only [Int.toNat_natCast, flF_n, flF_f] at q1 q2 q3
    simp at q2 q3
    have hsucc : ∀ f ∈ xs.take (i + 1), f ∈ xs.take i ∨ f = xs[i] := fun f hf => by
      rw [List.take_succ_eq_append_getElem hi'] at hf
      rcases List.mem_append.1 hf with hf | hf
      · exact .inl hf
      · exact .inr (List.mem_singleton.1 hf)
    have hno : ¬ flitOk w h xs[i] → ¬ flitsOk w h xs := fun hh k => hh (k _ (List.getElem_mem hi'))
    simp [t1, t2, t5]
    rw [go_draw (h := by kernel_rfl)]
    simp [-vfieldAddr, vfa_ptr, t1, t2, t5, q1, q2, q3, q4, q5, l02Has_c]
    by_cases g1 : isN w h xs[i].2.1
    · by_cases g2 : inR 0 xs[i].2.2.1 1
      · simp [-vfieldAddr, vfa_ptr, t1, t2, t5, g1, g2, l01In_c, q1, q5, q3]
        refine ih (xs.length - (i + 1)) _ _ ⟨i + 1, rfl, by omega, by simp [t1], by simp [t2], ?_, rfl, fun f hf => ?_⟩ (by omega)
        · simp; rw [w64 (by omega) (by omega)]
        · rcases hsucc f hf with hf | rfl
          · exact hk f hf
          · exact ⟨g1, g2⟩
      · simp [-vfieldAddr, vfa_ptr, t1, t2, t5, g1, g2, l01In_c, q1, q5, q3]
        rw [← hB]; exact decide_eq_false (hno (fun hh => g2 hh.2))
    · simp [t1, t2, t5, g1]
      rw [← hB]; exact decide_eq_false (hno (fun hh => g1 hh.1))
  · have : i = xs.length := by omega
    subst this
    rw [List.take_length] at hk
    simp [t1, t2, t5]
    rw [← hB]; exact decide_eq_true hk
theorem classOnly_w (v : Value) (xs : List FlitD) (c : Int) (hI : Rd flF H v xs) (hl : xs.length ≤ 1073741824) :
   wp (vcall C frz 143 [v, .int .i64 c] H) (fun r H' => Ow flF 157 H' r (xs.filter fun f => f.2.2.1 = c) ∧ (∀ i ∈ ids r, H.length ≤ i) ∧ Chg H H' []) := by
  rw [vcall_go (fn := Tryz.f143) Tryz.func143 rfl (by kernel_rfl) rfl]
  simp [hI.app.len (P := Tryz.prog) (ty := 113) (by simp)]
  refine wp_inv (fun n t H' => ∃ (i : Nat) (r : Value), n = xs.length - i ∧ i ≤ xs.length ∧ t 1 = .int .i64 c ∧ t 5 = r ∧ t 9 = v ∧ t 10 = .int .i64 xs.length ∧ t 11 = .int .i64 i ∧ Chg H H' [] ∧ Ow flF 157 H' r ((xs.take i).filter fun f => f.2.2.1 = c) ∧ (∀ j ∈ ids r, H.length ≤ j)) ?_ (n := xs.length)
    ⟨0, .slice (some ⟨H.length, 0, some 0⟩) 0 0, rfl, by omega, by simp, by simp, by simp, by simp, by simp, Chg.app _, Ow.new0 (D := flF) (xs := []) rfl rfl rfl rfl, by simp⟩
  rintro n t H' ⟨i, r, rfl, hi, t1, t5, t9, t10, t11, ch, o, nr⟩ ih
  simp [t1, t5, t9, t10, t11]
  refine wp_dec ?_ ?_ <;> intro g
  · have hi' : i < xs.length := by omega
    have rd := hI.chg ch (by simp)
    have q1 := rd.idx (P := Tryz.prog) (ty := 113) (e := 157) (by simp) (i := (i : Int)) (by omega) (by omega)
    have q2 := rd.load (P := Tryz.prog) (e := 157) (by simp) hi'
    simp only [Int.toNat_natCast, flF_n] at q1 q2
    have hF : H.length ≤ H'.length := ch.1
    have hfl := List.length_filter_le (fun f : FlitD => decide (f.2.2.1 = c)) (xs.take i)
    have htl : (xs.take i).length ≤ i := by simp; omega
    simp [t1, t5, t9, t10, t11, q1, q2, hF, flF_f, VM.look]
    refine wp_dec ?_ ?_ <;> intro g1
    · obtain ⟨r', H2, hap, o2, c2, n2⟩ := (o.app (L := [⟨flF.f xs[i], 0, 157⟩])).push (P := Tryz.prog) (frz := H.length) (ty := 113) (a := xs[i]) (by simp) rfl (by omega) nr
      simp only [flF_f, List.append_assoc, List.cons_append, List.nil_append, List.length_append, List.length_cons, List.length_nil] at hap
      simp [t1, t5, t9, t10, t11, hap]
      refine ih (xs.length - (i + 1)) _ _ ⟨i + 1, r', rfl, by omega, by simp [t1], by simp, by simp [t9], by simp [t10], ?_, (ch.trans (Chg.app _)).trans' c2 (fun j hj => .inr (nr j hj)), ?_, fun j hj => ?_⟩ (by omega)
      · simp; rw [w64 (by omega) (by omega)]
      · rw [List.take_succ_eq_append_getElem hi', List.filter_append]; simpa [g1] using o2
      · rcases n2 j hj with h1 | h1
        · exact nr j h1
        · simp at h1; omega
    · simp [t1, t5, t9, t10, t11, g1]
      refine ih (xs.length - (i + 1)) _ _ ⟨i + 1, r, rfl, by omega, by simp [t1], by simp [t5], by simp [t9], by simp [t10], ?_, ch.trans (Chg.app _), ?_, nr⟩ (by omega)
      · simp; rw [w64 (by omega) (by omega)]
      · rw [List.take_succ_eq_append_getElem hi', List.filter_append]; simpa [g1] using o.app
  · have : i = xs.length := by omega
    subst this
    rw [List.take_length] at o
    simp [t1, t5, t9, t10, t11]
    exact ⟨o, nr, ch⟩
end Go.Proofs.YtcigpclbhfkgaaaGreat.V
/-! One step of a network, in plain Lean. -/
set_option linter.all false
namespace Go.Proofs.YtcigpclbhfkgaaaGreat.V
open Go Go.VM Go.Proofs
set_option maxRecDepth 10000
abbrev GrD := Nat × Nat × Nat
/-- one list of lists is changed at one place -/
def upd (s : SSD) (k : Nat) (f : List FlitD → List FlitD) : SSD := s.set k (f (s.getD k []))
@[simp] theorem upd_len (s : SSD) (k : Nat) (f : List FlitD → List FlitD) : (upd s k f).length = s.length := by simp [upd]
theorem upd_eq {s : SSD} {k : Nat} (f : List FlitD → List FlitD) (h : k < s.length) : (upd s k f).getD k [] = f (s.getD k []) := by
  simp [upd, List.getD_eq_getElem?_getD, h]
theorem upd_ne {s : SSD} {k j : Nat} (f : List FlitD → List FlitD) (h : k ≠ j) : (upd s k f).getD j [] = s.getD j [] := by
  simp [upd, List.getD_eq_getElem?_getD, List.getElem?_set_ne h]
theorem upd_comm {s : SSD} {k j : Nat} (f g : List FlitD → List FlitD) (h : k ≠ j) : upd (upd s k f) j g = upd (upd s j g) k f := by
  have e1 := upd_ne (s := s) f h
  have e2 := upd_ne (s := s) g h.symm
  show (upd s k f).set j (g ((upd s k f).getD j [])) = (upd s j g).set k (f ((upd s j g).getD k []))
  rw [e1, e2]
  exact List.set_comm _ _ h
theorem upd_upd (s : SSD) (k : Nat) (f g : List FlitD → List FlitD) : upd (upd s k f) k g = upd s k (fun l => g (f l)) := by
  by_cases h : k < s.length
  · show (upd s k f).set k (g ((upd s k f).getD k [])) = _
    rw [upd_eq f h]
    simp [upd]
  · simp [upd, List.set_eq_of_length_le (Nat.le_of_not_lt h)]
theorem pop_push {s : SSD} {k j : Nat} (f : FlitD) (h : s.getD k [] ≠ []) : upd (upd s j (· ++ [f])) k (List.drop 1) = upd (upd s k (List.drop 1)) j (· ++ [f]) := by
  by_cases e : j = k
  · subst e
    rw [upd_upd, upd_upd]
    unfold upd
    congr 1
    cases hh : s.getD j [] with
    | nil => exact absurd hh h
    | cons a l => rfl
  · exact upd_comm _ _ e
/-- the flit in front of a buffer -/
def headL (l : List FlitD) : FlitD := l.headD (0, 0, 0, false, false)
def headOf (x : NetD) (j : Nat) : FlitD := headL (x.2.2.1.getD j [])
/-- where a grant takes its flit -/
def frm (g : GrD) : Nat := 10 * g.1 + g.2.2
/-- where a grant puts it, if not into what has arrived -/
def tgt (x : NetD) (a p c : Nat) : Nat := (10 * next x.1.1 x.1.2.1 a p + 2 * opp p + c).toNat
def outAt (a p c : Nat) : Nat := 10 * a + 2 * p + c
def popS (s : SSD) (g : GrD) : SSD := upd s (frm g) (List.drop 1)
def pushS (x : NetD) (s : SSD) (g : GrD) : SSD := if g.2.1 = 4 then s else upd s (tgt x g.1 g.2.1 (g.2.2 % 2)) (· ++ [headOf x (frm g)])
def arrS (x : NetD) (s : SSD) (g : GrD) : SSD := if g.2.1 = 4 then upd s g.1 (· ++ [headOf x (frm g)]) else s
def ownS (x : NetD) (s : List Int) (g : GrD) : List Int := s.set (outAt g.1 g.2.1 (g.2.2 % 2)) (if (headOf x (frm g)).2.2.2.2 then -1 else ((g.2.2 / 2 : Nat) : Int))
def turnS (s : List Int) (g : GrD) : List Int := s.set (5 * g.1 + g.2.1) (((g.2.2 + 1) % 10 : Nat) : Int)
/-- a flit enters the network -/
def srcHead (x : NetD) (k : Nat) : FlitD := headL (x.2.2.2.2.2.1.getD k [])
def entAt (x : NetD) (k : Nat) : Nat := (10 * (k : Int) + 8 + (srcHead x k).2.2.1).toNat
def entS (x : NetD) (s : SSD) (k : Nat) : SSD := upd s (entAt x k) (· ++ [srcHead x k])
def srcS (s : SSD) (k : Nat) : SSD := upd s k (List.drop 1)
/-- the port that the front flit of an input wants, -1 for none -/
def wantedN (x : NetD) (a i : Nat) : Int :=
  if x.2.2.1.getD (10 * a + i) [] = [] then -1
  else if (headOf x (10 * a + i)).2.2.2.1 then portOf x.1.1 x.1.2.1 (if i % 2 = 1 then x.2.1.2 else x.2.1.1) a (headOf x (10 * a + i)).2.1
  else match (List.range 5).find? fun p => x.2.2.2.1.getD (outAt a p (i % 2)) 0 = ((i / 2 : Nat) : Int) with
    | some p => (p : Int)
    | none => -1
def roomN (x : NetD) (a p c : Nat) : Prop := p = 4 ∨ (has x.1.1 x.1.2.1 x.1.2.2 (4 * a + p) ∧ (x.2.2.1.getD (tgt x a p c) []).length < 3)
noncomputable instance (x : NetD) (a p c : Nat) : Decidable (roomN x a p c) := inferInstanceAs (Decidable (_ ∨ _))
def reqN (x : NetD) (a i p : Nat) : Prop := wantedN x a i = (p : Int) ∧ roomN x a p (i % 2) ∧
  x.2.2.2.1.getD (outAt a p (i % 2)) 0 = if (headOf x (10 * a + i)).2.2.2.1 then -1 else ((i / 2 : Nat) : Int)
noncomputable instance (x : NetD) (a i p : Nat) : Decidable (reqN x a i p) := inferInstanceAs (Decidable (_ ∧ _))
noncomputable def reqsN (x : NetD) (a p : Nat) : List Nat := (List.range 10).filter fun i => reqN x a i p
/-- the first from a turn -/
def firstF (t : Int) (l : List Int) : Int := l.foldl (fun b y => if b < 0 ∨ (y - t + 10) % 10 < (b - t + 10) % 10 then y else b) (-1)
noncomputable def freeN (x : NetD) (a p : Nat) (u : List Bool) : List Nat := (reqsN x a p).filter fun i => !u.getD (i / 2) false
noncomputable def pickN (x : NetD) (a p : Nat) (u : List Bool) : Int := firstF (x.2.2.2.2.1.getD (5 * a + p) 0) ((freeN x a p u).map Int.ofNat)
noncomputable def grStep (x : NetD) (a : Nat) (st : List GrD × List Bool) (p : Nat) : List GrD × List Bool :=
  if 0 ≤ pickN x a p st.2 then (st.1 ++ [(a, p, (pickN x a p st.2).toNat)], st.2.set ((pickN x a p st.2).toNat / 2) true) else st
noncomputable def grTo (x : NetD) (a p : Nat) : List GrD × List Bool := (List.range p).foldl (grStep x a) ([], List.replicate 5 false)
noncomputable def grN (x : NetD) (a : Nat) : List GrD := (grTo x a 5).1
noncomputable def allTo (x : NetD) (n : Nat) : List GrD := (List.range n).flatMap (grN x)
noncomputable def allN (x : NetD) : List GrD := allTo x (cnt x.1.1 x.1.2.1).toNat
def entersN (x : NetD) (k : Nat) : Prop := x.2.2.2.2.2.1.getD k [] ≠ [] ∧ (x.2.2.1.getD (entAt x k) []).length < 3
noncomputable instance (x : NetD) (k : Nat) : Decidable (entersN x k) := inferInstanceAs (Decidable (_ ∧ _))
noncomputable def enterN (x : NetD) : List Nat := (List.range (cnt x.1.1 x.1.2.1).toNat).filter fun k => entersN x k
/-- the network after one step -/
noncomputable def stepN (x : NetD) : NetD :=
  (x.1, x.2.1, (enterN x).foldl (entS x) ((allN x).foldl (pushS x) ((allN x).foldl popS x.2.2.1)), (allN x).foldl (ownS x) x.2.2.2.1, (allN x).foldl turnS x.2.2.2.2.1,
    (enterN x).foldl srcS x.2.2.2.2.2.1, (allN x).foldl (arrS x) x.2.2.2.2.2.2.1, x.2.2.2.2.2.2.2 + 1)
/-- pops and pushes in turn, or all pops first -/
def bothS (x : NetD) (s : SSD) (g : GrD) : SSD := pushS x (popS s g) g
@[simp] theorem popS_len (s : SSD) (g : GrD) : (popS s g).length = s.length := upd_len _ _ _
@[simp] theorem pushS_len (x : NetD) (s : SSD) (g : GrD) : (pushS x s g).length = s.length := by unfold pushS; split <;> simp
@[simp] theorem arrS_len (x : NetD) (s : SSD) (g : GrD) : (arrS x s g).length = s.length := by unfold arrS; split <;> simp
@[simp] theorem ownS_len (x : NetD) (s : List Int) (g : GrD) : (ownS x s g).length = s.length := by unfold ownS; simp
@[simp] theorem turnS_len (s : List Int) (g : GrD) : (turnS s g).length = s.length := by unfold turnS; simp
@[simp] theorem entS_len (x : NetD) (s : SSD) (k : Nat) : (entS x s k).length = s.length := upd_len _ _ _
@[simp] theorem srcS_len (s : SSD) (k : Nat) : (srcS s k).length = s.length := upd_len _ _ _
theorem fold_len {α β : Type} {f : List β → α → List β} (h : ∀ s a, (f s a).length = s.length) : ∀ (l : List α) (s : List β), (l.foldl f s).length = s.length
  | [], s => rfl
  | a :: l, s => by rw [List.foldl_cons, fold_len h l, h]
theorem foldl_take_succ {α β : Type} (f : β → α → β) (s : β) {l : List α} {i : Nat} (h : i < l.length) : (l.take (i + 1)).foldl f s = f ((l.take i).foldl f s) l[i] := by
  rw [List.take_succ_eq_append_getElem h, List.foldl_append]; rfl
theorem push_pop {x : NetD} {s : SSD} {g g' : GrD} (h : s.getD (frm g') [] ≠ []) : popS (pushS x s g) g' = pushS x (popS s g') g := by
  unfold popS pushS
  by_cases e : g.2.1 = 4
  · rw [if_pos e, if_pos e]
  · rw [if_neg e, if_neg e]; exact pop_push _ h
theorem both_eq (x : NetD) : ∀ (l : List GrD) (s : SSD), (l.map frm).Nodup → (∀ g ∈ l, s.getD (frm g) [] ≠ []) → l.foldl (bothS x) s = l.foldl (pushS x) (l.foldl popS s)
  | [], s, _, _ => rfl
  | g :: l, s, nd, hs => by
    obtain ⟨n1, n2⟩ := List.nodup_cons.1 nd
    have hne : ∀ g' ∈ l, frm g ≠ frm g' := fun g' hg e => n1 (e ▸ List.mem_map_of_mem hg)
    have h1 : ∀ g' ∈ l, (popS s g).getD (frm g') [] ≠ [] := fun g' hg => by
      rw [popS, upd_ne _ (hne g' hg)]; exact hs g' (List.mem_cons_of_mem _ hg)
    have h2 : ∀ g' ∈ l, (bothS x s g).getD (frm g') [] ≠ [] := fun g' hg => by
      have := h1 g' hg
      unfold bothS pushS
      split
      · exact this
      · by_cases e : tgt x g.1 g.2.1 (g.2.2 % 2) = frm g'
        · rw [e]
          by_cases hl : frm g' < (popS s g).length
          · rw [upd_eq _ hl]; simp
          · simp [List.getD_eq_getElem?_getD, List.getElem?_eq_none (Nat.le_of_not_lt hl)] at this
        · rw [upd_ne _ e]; exact this
    rw [List.foldl_cons, both_eq x l _ n2 h2]
    have key : ∀ (m : List GrD) (z : SSD), (m.map frm).Nodup → (∀ g' ∈ m, z.getD (frm g') [] ≠ []) → m.foldl popS (pushS x z g) = pushS x (m.foldl popS z) g := by
      intro m
      induction m with
      | nil => intro z _ _; rfl
      | cons g' m ih =>
        intro z nz hz
        obtain ⟨z1, z2⟩ := List.nodup_cons.1 nz
        rw [List.foldl_cons, List.foldl_cons, push_pop (hz g' (List.mem_cons_self ..))]
        refine ih _ z2 fun g2 hg2 => ?_
        have hne2 : frm g' ≠ frm g2 := fun e => z1 (e ▸ List.mem_map_of_mem hg2)
        rw [popS, upd_ne _ hne2]; exact hz g2 (List.mem_cons_of_mem _ hg2)
    show l.foldl (pushS x) (l.foldl popS (pushS x (popS s g) g)) = _
    rw [key l (popS s g) n2 h1]
    rfl
end Go.Proofs.YtcigpclbhfkgaaaGreat.V
/-! Facts about the grants of a step. -/
set_option linter.all false
namespace Go.Proofs.YtcigpclbhfkgaaaGreat.V
open Go Go.VM Go.Proofs
set_option maxRecDepth 10000
theorem firstF_in (t : Int) : ∀ (l : List Int) (b : Int), (l.foldl (fun b y => if b < 0 ∨ (y - t + 10) % 10 < (b - t + 10) % 10 then y else b) b) = b ∨ (l.foldl (fun b y => if b < 0 ∨ (y - t + 10) % 10 < (b - t + 10) % 10 then y else b) b) ∈ l
  | [], b => .inl rfl
  | y :: l, b => by
    rw [List.foldl_cons]
    rcases firstF_in t l (if b < 0 ∨ (y - t + 10) % 10 < (b - t + 10) % 10 then y else b) with h | h
    · rw [h]; split
      · exact .inr (List.mem_cons_self ..)
      · exact .inl rfl
    · exact .inr (List.mem_cons_of_mem _ h)
theorem firstF_mem {t : Int} {l : List Int} (h : 0 ≤ firstF t l) : firstF t l ∈ l := by
  rcases firstF_in t l (-1) with g | g
  · unfold firstF at h; rw [g] at h; omega
  · exact g
theorem pick_mem {x : NetD} {a p : Nat} {u : List Bool} (h : 0 ≤ pickN x a p u) : (pickN x a p u).toNat ∈ freeN x a p u := by
  have := firstF_mem h
  obtain ⟨i, hi, he⟩ := List.mem_map.1 this
  have e : pickN x a p u = (i : Int) := he.symm
  rw [e]; simpa using hi
theorem free_mem {x : NetD} {a p i : Nat} {u : List Bool} (h : i ∈ freeN x a p u) : i < 10 ∧ reqN x a i p ∧ u.getD (i / 2) false = false := by
  obtain ⟨h1, h2⟩ := List.mem_filter.1 h
  obtain ⟨h3, h4⟩ := List.mem_filter.1 h1
  exact ⟨List.mem_range.1 h3, by simpa using h4, by simpa using h2⟩
theorem grTo_succ (x : NetD) (a p : Nat) : grTo x a (p + 1) = grStep x a (grTo x a p) p := by
  unfold grTo; rw [List.range_succ, List.foldl_append]; rfl
/-- what holds of the grants of a node -/
structure GrOk (x : NetD) (a p : Nat) (st : List GrD × List Bool) : Prop where
  len : st.2.length = 5
  at' : ∀ g ∈ st.1, g.1 = a ∧ g.2.1 < p ∧ g.2.2 < 10 ∧ reqN x a g.2.2 g.2.1 ∧ st.2.getD (g.2.2 / 2) false = true
  nd : (st.1.map frm).Nodup
  le : st.1.length ≤ p
theorem set_true {u : List Bool} {k j : Nat} (h : u.getD j false = true) : (u.set k true).getD j false = true := by
  simp only [List.getD_eq_getElem?_getD, List.getElem?_set] at *
  split
  · split <;> simp_all
  · exact h
theorem grTo_ok (x : NetD) (a : Nat) : ∀ p, p ≤ 5 → GrOk x a p (grTo x a p)
  | 0, _ => ⟨rfl, fun g h => by simp [grTo] at h, by simp [grTo], by simp [grTo]⟩
  | p + 1, hp => by
    obtain ⟨h1, h2, h3, h4⟩ := grTo_ok x a p (by omega)
    rw [grTo_succ]
    unfold grStep
    generalize grTo x a p = st at *
    split
    · rename_i hk
      obtain ⟨k1, k2, k3⟩ := free_mem (pick_mem hk)
      generalize hk' : (pickN x a p st.2).toNat = k at *
      refine ⟨by simpa using h1, fun g hg => ?_, ?_, by simp only [List.length_append, List.length_cons, List.length_nil]; omega⟩
      · rcases List.mem_append.1 hg with hg | hg
        · obtain ⟨g1, g2, g3, g4, g5⟩ := h2 g hg
          exact ⟨g1, by omega, g3, g4, set_true g5⟩
        · have := List.mem_singleton.1 hg
          subst this
          exact ⟨rfl, by simp, k1, k2, by show (st.2.set (k / 2) true).getD (k / 2) false = true; rw [List.getD_eq_getElem?_getD, List.getElem?_set_self (by rw [h1]; omega)]; rfl⟩
      · rw [List.map_append]
        refine List.nodup_append.2 ⟨h3, by simp, fun y hy z hz e => ?_⟩
        obtain ⟨g, hg, rfl⟩ := List.mem_map.1 hy
        simp at hz
        obtain ⟨g1, g2, g3, g4, g5⟩ := h2 g hg
        have : g.2.2 = k := by have : frm g = frm (a, p, k) := e.trans hz; unfold frm at this; simp only at this; omega
        rw [this, k3] at g5
        simp at g5
    · exact ⟨h1, fun g hg => by obtain ⟨g1, g2, g3, g4, g5⟩ := h2 g hg; exact ⟨g1, by omega, g3, g4, g5⟩, h3, by omega⟩
theorem allTo_succ (x : NetD) (n : Nat) : allTo x (n + 1) = allTo x n ++ grN x n := by
  unfold allTo; rw [List.range_succ, List.flatMap_append]; simp
theorem grN_len (x : NetD) (a : Nat) : (grN x a).length ≤ 5 := (grTo_ok x a 5 (by omega)).le
theorem allTo_ok (x : NetD) : ∀ n, (∀ g ∈ allTo x n, g.1 < n ∧ g.2.1 < 5 ∧ g.2.2 < 10 ∧ reqN x g.1 g.2.2 g.2.1) ∧ ((allTo x n).map frm).Nodup ∧ (allTo x n).length ≤ 5 * n
  | 0 => ⟨fun g h => by simp [allTo] at h, by simp [allTo], by simp [allTo]⟩
  | n + 1 => by
    obtain ⟨h1, h2, h3⟩ := allTo_ok x n
    obtain ⟨_, k2, k3, k4⟩ := grTo_ok x n 5 (by omega)
    rw [allTo_succ]
    refine ⟨fun g hg => ?_, ?_, by simp [grN]; omega⟩
    · rcases List.mem_append.1 hg with hg | hg
      · obtain ⟨a1, a2⟩ := h1 g hg; exact ⟨by omega, a2⟩
      · obtain ⟨a1, a2, a3, a4, _⟩ := k2 g hg
        exact ⟨by omega, a2, a3, by rw [a1]; exact a4⟩
    · rw [List.map_append]
      refine List.nodup_append.2 ⟨h2, k3, fun y hy z hz e => ?_⟩
      obtain ⟨g, hg, rfl⟩ := List.mem_map.1 hy
      obtain ⟨g', hg', rfl⟩ := List.mem_map.1 hz
      have a1 := h1 g hg
      have a2 := k2 g' hg'
      unfold frm at e; omega
theorem allN_at {x : NetD} {g : GrD} (h : g ∈ allN x) : (g.1 : Int) < cnt x.1.1 x.1.2.1 ∧ g.2.1 < 5 ∧ g.2.2 < 10 ∧ reqN x g.1 g.2.2 g.2.1 := by
  obtain ⟨h1, h2⟩ := (allTo_ok x _).1 g h
  exact ⟨by omega, h2⟩
theorem allN_nd (x : NetD) : ((allN x).map frm).Nodup := (allTo_ok x _).2.1
theorem allN_len (x : NetD) : (allN x).length ≤ 80 := by
  have := (allTo_ok x (cnt x.1.1 x.1.2.1).toNat).2.2
  have := cnt_range x.1.1 x.1.2.1
  unfold allN; omega
theorem req_ne {x : NetD} {a i p : Nat} (h : reqN x a i p) : x.2.2.1.getD (10 * a + i) [] ≠ [] := fun e => by
  have := h.1
  unfold wantedN at this
  rw [if_pos e] at this
  omega
theorem headL_mem {l : List FlitD} (h : l ≠ []) : headL l ∈ l := by
  cases l with
  | nil => exact absurd rfl h
  | cons a l => exact List.mem_cons_self ..
/-- a network that can make a step -/
def allP (P : Nat → FlitD → Prop) (s : SSD) : Prop := ∀ j, ∀ f ∈ s.getD j [], P j f
def runOk (x : NetD) : Prop := classesOk x.1.1 x.1.2.1 x.1.2.2 x.2.1.1 x.2.1.2 ∧ sizesOk x ∧ allP (fun j f => f.2.2.1 = (j : Int) % 2 ∧ flitOk x.1.1 x.1.2.1 f) x.2.2.1 ∧ allP (fun _ f => flitOk x.1.1 x.1.2.1 f) x.2.2.2.2.2.1 ∧ ∀ o ∈ x.2.2.2.2.1, inR 0 o 9
theorem allP_drop {P : Nat → FlitD → Prop} {s : SSD} {k : Nat} (h : allP P s) : allP P (upd s k (List.drop 1)) := fun j f hf => by
  by_cases e : k = j
  · subst e
    by_cases hl : k < s.length
    · rw [upd_eq _ hl] at hf; exact h k f (List.mem_of_mem_drop hf)
    · simp [upd, List.getD_eq_getElem?_getD, List.getElem?_eq_none (Nat.le_of_not_lt hl), List.set_eq_of_length_le (Nat.le_of_not_lt hl)] at hf
  · rw [upd_ne _ e] at hf; exact h j f hf
theorem allP_push {P : Nat → FlitD → Prop} {s : SSD} {k : Nat} {y : FlitD} (h : allP P s) (hy : P k y) : allP P (upd s k (· ++ [y])) := fun j f hf => by
  by_cases e : k = j
  · subst e
    by_cases hl : k < s.length
    · rw [upd_eq _ hl] at hf
      rcases List.mem_append.1 hf with hf | hf
      · exact h k f hf
      · rw [List.mem_singleton.1 hf]; exact hy
    · simp [upd, List.getD_eq_getElem?_getD, List.getElem?_eq_none (Nat.le_of_not_lt hl), List.set_eq_of_length_le (Nat.le_of_not_lt hl)] at hf
  · rw [upd_ne _ e] at hf; exact h j f hf
theorem fold_inv {α β : Type} {f : β → α → β} (I : β → Prop) : ∀ (l : List α) (s : β), I s → (∀ s a, a ∈ l → I s → I (f s a)) → I (l.foldl f s)
  | [], s, h, _ => h
  | a :: l, s, h, k => fold_inv I l _ (k s a (List.mem_cons_self ..) h) fun s b hb => k s b (List.mem_cons_of_mem _ hb)
/-- where a granted flit goes -/
theorem tgt_ok {x : NetD} {a p c : Nat} (h : has x.1.1 x.1.2.1 x.1.2.2 (4 * (a : Int) + p)) (hp : p < 4) :
    isN x.1.1 x.1.2.1 (next x.1.1 x.1.2.1 a p) ∧ 0 ≤ opp p ∧ opp p < 4 := by
  obtain ⟨_, _, h3⟩ := step_next (w := x.1.1) (h := x.1.2.1) (a := a) (p := p) (b := x.1.2.2) ⟨by omega, by omega⟩ h
  refine ⟨h3, ?_⟩
  unfold opp
  rw [if_neg (by omega), if_pos (by omega)]
  omega
theorem tgt_val {x : NetD} {a p c : Nat} (h : has x.1.1 x.1.2.1 x.1.2.2 (4 * (a : Int) + p)) (hp : p < 4) (hc : c < 2) :
    ((tgt x a p c : Nat) : Int) = 10 * next x.1.1 x.1.2.1 a p + 2 * opp p + c ∧ ((tgt x a p c : Nat) : Int) < 10 * cnt x.1.1 x.1.2.1 ∧ ((tgt x a p c : Nat) : Int) % 2 = c := by
  obtain ⟨⟨h1, h2⟩, h3, h4⟩ := tgt_ok (c := c) h hp
  unfold tgt
  generalize next x.1.1 x.1.2.1 a p = N at *
  generalize opp p = O at *
  refine ⟨by omega, by omega, by omega⟩
theorem head_ok {x : NetD} (h : runOk x) {a i p : Nat} (r : reqN x a i p) : (headOf x (10 * a + i)).2.2.1 = ((10 * a + i : Nat) : Int) % 2 ∧ flitOk x.1.1 x.1.2.1 (headOf x (10 * a + i)) :=
  h.2.2.1 _ _ (headL_mem (req_ne r))
theorem ent_ok {x : NetD} (h : runOk x) {k : Nat} (r : x.2.2.2.2.2.1.getD k [] ≠ []) : flitOk x.1.1 x.1.2.1 (srcHead x k) ∧ (entAt x k : Int) = 10 * k + 8 + (srcHead x k).2.2.1 ∧ (entAt x k : Int) % 2 = (srcHead x k).2.2.1 := by
  have := h.2.2.2.1 k _ (headL_mem r)
  have h2 := this.2
  unfold inR at h2
  refine ⟨this, ?_⟩
  unfold entAt srcHead
  omega
theorem enterN_at {x : NetD} {k : Nat} (h : k ∈ enterN x) : (k : Int) < cnt x.1.1 x.1.2.1 ∧ entersN x k := by
  obtain ⟨h1, h2⟩ := List.mem_filter.1 h
  have := List.mem_range.1 h1
  exact ⟨by omega, by simpa using h2⟩
theorem enterN_nd (x : NetD) : (enterN x).Nodup := List.Pairwise.filter _ List.nodup_range
theorem enterN_len (x : NetD) : (enterN x).length ≤ 16 := by
  have h1 := List.length_filter_le (fun k => decide (entersN x k)) (List.range (cnt x.1.1 x.1.2.1).toNat)
  have := cnt_range x.1.1 x.1.2.1
  rw [List.length_range] at h1
  unfold enterN; omega
/-- a step leads to a network that can make a step -/
theorem step_runOk {x : NetD} (h : runOk x) : runOk (stepN x) := by
  have hx := h
  obtain ⟨h1, ⟨s1, s2, s3, s4, s5⟩, h3, h4, h5⟩ := h
  refine ⟨h1, ⟨?_, ?_, ?_, ?_, ?_⟩, ?_, ?_, ?_⟩
  · show (((enterN x).foldl (entS x) ((allN x).foldl (pushS x) ((allN x).foldl popS x.2.2.1))).length : Int) = _
    rw [fold_len (entS_len x), fold_len (pushS_len x), fold_len popS_len]; exact s1
  · show (((allN x).foldl (ownS x) x.2.2.2.1).length : Int) = _
    rw [fold_len (ownS_len x)]; exact s2
  · show (((allN x).foldl turnS x.2.2.2.2.1).length : Int) = _
    rw [fold_len turnS_len]; exact s3
  · show (((enterN x).foldl srcS x.2.2.2.2.2.1).length : Int) = _
    rw [fold_len srcS_len]; exact s4
  · show (((allN x).foldl (arrS x) x.2.2.2.2.2.2.1).length : Int) = _
    rw [fold_len (arrS_len x)]; exact s5
  · refine fold_inv _ _ _ (fold_inv _ _ _ (fold_inv _ _ _ h3 fun s g hg hs => allP_drop hs) fun s g hg hs => ?_) fun s k hk hs => ?_
    · unfold pushS
      split
      · exact hs
      · rename_i hp
        obtain ⟨a1, a2, a3, a4⟩ := allN_at hg
        have hh := a4.2.1
        rcases hh with hh | ⟨hh, _⟩
        · exact absurd hh hp
        obtain ⟨t1, t2, t3⟩ := tgt_val (c := g.2.2 % 2) hh (by omega) (by omega)
        obtain ⟨e1, e2⟩ := head_ok hx a4
        refine allP_push hs ⟨?_, e2⟩
        show (headOf x (10 * g.1 + g.2.2)).2.2.1 = _
        rw [e1, t3]; omega
    · obtain ⟨_, e1, _⟩ := enterN_at hk
      obtain ⟨f1, f2, f3⟩ := ent_ok hx e1
      exact allP_push hs ⟨f3.symm, f1⟩
  · exact fold_inv _ _ _ h4 fun s k hk hs => allP_drop hs
  · refine fold_inv (fun s : List Int => ∀ o ∈ s, inR 0 o 9) _ _ h5 fun s g hg hs o ho => ?_
    rcases List.mem_or_eq_of_mem_set ho with ho | rfl
    · exact hs o ho
    · unfold inR; omega
/-- lists of bounded lengths -/
def allL (L : Nat) (s : SSD) : Prop := ∀ l ∈ s, l.length ≤ L
theorem upd_mem {s : SSD} {k : Nat} {f : List FlitD → List FlitD} {l : List FlitD} (h : l ∈ upd s k f) : l ∈ s ∨ (l = f (s.getD k []) ∧ k < s.length) := by
  unfold upd at h
  by_cases hl : k < s.length
  · rcases List.mem_or_eq_of_mem_set h with h | h
    · exact .inl h
    · exact .inr ⟨h, hl⟩
  · rw [List.set_eq_of_length_le (Nat.le_of_not_lt hl)] at h; exact .inl h
theorem getD_mem {s : SSD} {k : Nat} (hl : k < s.length) : s.getD k [] ∈ s := by
  simp [List.getD_eq_getElem?_getD, hl]
theorem allL_drop {L : Nat} {s : SSD} {k : Nat} (h : allL L s) : allL L (upd s k (List.drop 1)) := fun l hl => by
  rcases upd_mem hl with hl | ⟨rfl, hk⟩
  · exact h l hl
  · have := h _ (getD_mem hk); rw [List.length_drop]; omega
theorem allL_push {L : Nat} {s : SSD} {k : Nat} {y : FlitD} (h : allL L s) : allL (L + 1) (upd s k (· ++ [y])) := fun l hl => by
  rcases upd_mem hl with hl | ⟨rfl, hk⟩
  · have := h l hl; omega
  · have := h _ (getD_mem hk); simp only [List.length_append, List.length_cons, List.length_nil]; omega
theorem allL_mono {L M : Nat} {s : SSD} (h : allL L s) (k : L ≤ M) : allL M s := fun l hl => by have := h l hl; omega
theorem fold_allL {α : Type} {f : SSD → α → SSD} (hf : ∀ s a L, allL L s → allL (L + 1) (f s a)) : ∀ (l : List α) (s : SSD) (L : Nat), allL L s → allL (L + l.length) (l.foldl f s)
  | [], s, L, h => by simpa using h
  | a :: l, s, L, h => by
    have := fold_allL hf l (f s a) (L + 1) (hf s a L h)
    rw [List.foldl_cons, List.length_cons]
    exact allL_mono this (by omega)
theorem pops_allL {L : Nat} (l : List GrD) (s : SSD) (h : allL L s) : allL L (l.foldl popS s) := fold_inv _ _ _ h fun s g hg hs => allL_drop hs
theorem srcs_allL {L : Nat} (l : List Nat) (s : SSD) (h : allL L s) : allL L (l.foldl srcS s) := fold_inv _ _ _ h fun s g hg hs => allL_drop hs
theorem push_allL (x : NetD) (s : SSD) (g : GrD) (L : Nat) (h : allL L s) : allL (L + 1) (pushS x s g) := by
  unfold pushS; split
  · exact allL_mono h (by omega)
  · exact allL_push h
theorem arr_allL (x : NetD) (s : SSD) (g : GrD) (L : Nat) (h : allL L s) : allL (L + 1) (arrS x s g) := by
  unfold arrS; split
  · exact allL_push h
  · exact allL_mono h (by omega)
theorem both_allL (x : NetD) (s : SSD) (g : GrD) (L : Nat) (h : allL L s) : allL (L + 1) (bothS x s g) := push_allL x _ g L (allL_drop h)
theorem ent_allL (x : NetD) (s : SSD) (k : Nat) (L : Nat) (h : allL L s) : allL (L + 1) (entS x s k) := allL_push h
theorem step_allL {x : NetD} {L : Nat} (h1 : allL L x.2.2.1) (h2 : allL L x.2.2.2.2.2.2.1) : allL (L + 96) (stepN x).2.2.1 ∧ allL (L + 96) (stepN x).2.2.2.2.2.2.1 := by
  have a1 := allN_len x
  have a2 := enterN_len x
  refine ⟨?_, ?_⟩
  · exact allL_mono (fold_allL (ent_allL x) (enterN x) _ _ (fold_allL (push_allL x) (allN x) _ _ (pops_allL (allN x) _ h1))) (by omega)
  · exact allL_mono (fold_allL (arr_allL x) (allN x) _ _ h2) (by omega)
end Go.Proofs.YtcigpclbhfkgaaaGreat.V
/-! Copies of tables and meshes. -/
set_option linter.all false
namespace Go.Proofs.YtcigpclbhfkgaaaGreat.V
open Go Go.VM Go.Proofs
set_option maxRecDepth 10000
variable {frz : Nat} {H : Heap}
theorem ones_ints (ys : List Int) : ones (cellsOf Fl.int ys) = true := by
  rw [cellsOf_int]; unfold ones
  rw [List.all_eq_true]
  intro x hx
  obtain ⟨y, _, rfl⟩ := List.mem_map.1 hx
  rfl
theorem copyMesh_w (w h : Int) (v : Value) (b : List Int) (hI : IsI H v b) (hl : b.length ≤ 1073741824) : wp (vcall C frz 106 [.agg #[.int .i64 w, .int .i64 h, v]] H) (dMesh.Made H (w, h, b)) := by
  rw [vcall_go (fn := Tryz.f106) Tryz.func106 rfl (by kernel_rfl) rfl]
  have one := And.intro hI.one' hI.cells
  simp [one]
  rw [go_drawE (h := ⟨by kernel_rfl, by kernel_rfl⟩)]
  simp [emps, empOp, empB, one, (hI.app _).src]
  by_cases h0 : b = []
  · subst h0
    simp
    exact ⟨_, rfl, ⟨.inl ⟨rfl, rfl⟩, by simp⟩, Chg.app _, by simp [dMesh], by simp [dMesh]⟩
  · simp [h0, hl]
    exact ⟨_, rfl, ⟨Ow.new (D := Fl.int) (e := 3) (xs := b) (k := 2) (by simp) (cellsOf_int _).symm (by simp) rfl, hl⟩, Chg.app _, by simp [dMesh], ids_nodup (.slice (some ⟨H.length + 2, 0, some 0⟩) b.length 0)⟩
theorem l15Mesh_w (w h : Int) (v : Value) (b : List Int) (hI : IsI H v b) (hl : b.length ≤ 1073741824) : wp (vcall C frz 96 [.agg #[.int .i64 w, .int .i64 h, v]] H) (dMesh.Made H (w, h, b)) := by
  rw [vcall_go (fn := Tryz.f96) Tryz.func96 rfl (by kernel_rfl) rfl]
  have one := And.intro hI.one' hI.cells
  simp [one]
  rw [go_drawE (h := ⟨by kernel_rfl, by kernel_rfl⟩)]
  simp [emps, empOp, empB, one, (hI.app _).src]
  by_cases h0 : b = []
  · subst h0
    simp
    exact ⟨_, rfl, ⟨.inl ⟨rfl, rfl⟩, by simp⟩, Chg.app _, by simp [dMesh], by simp [dMesh]⟩
  · simp [h0, hl]
    exact ⟨_, rfl, ⟨Ow.new (D := Fl.int) (e := 3) (xs := b) (k := 2) (by simp) (cellsOf_int _).symm (by simp) rfl, hl⟩, Chg.app _, by simp [dMesh], ids_nodup (.slice (some ⟨H.length + 2, 0, some 0⟩) b.length 0)⟩
theorem copyTable_w (v : Value) (xs : List Int) (hI : IsI H v xs) (hl : xs.length ≤ 1073741824) : wp (vcall C frz 111 [.agg #[v]] H) (dTable.Made H xs) := by
  rw [vcall_go (fn := Tryz.f111) Tryz.func111 rfl (by kernel_rfl) rfl]
  have one := And.intro hI.one' hI.cells
  simp [one, (hI.app _).src]
  by_cases h0 : xs = []
  · subst h0
    simp
    exact ⟨_, rfl, ⟨Ow.new (D := Fl.int) (e := 3) (xs := []) (k := 2) (by simp) rfl rfl rfl, by simp⟩, Chg.app _, by simp [dTable], ids_nodup (.slice (some ⟨H.length + 2, 0, some 0⟩) 0 0)⟩
  · simp [h0, hl]
    exact ⟨_, rfl, ⟨Ow.new (D := Fl.int) (e := 3) (xs := xs) (k := 2) (by simp) (cellsOf_int _).symm (by simp) rfl, hl⟩, Chg.app _, by simp [dTable], ids_nodup (.slice (some ⟨H.length + 2, 0, some 1⟩) xs.length 0)⟩
theorem l12Copy_w (v : Value) (xs : List Int) (hI : IsI H v xs) (hl : xs.length ≤ 1073741824) : wp (vcall C frz 102 [.agg #[v]] H) (dTable.Made H xs) := by
  rw [vcall_go (fn := Tryz.f102) Tryz.func102 rfl (by kernel_rfl) rfl]
  have one := And.intro hI.one' hI.cells
  simp [one, (hI.app _).src]
  by_cases h0 : xs = []
  · subst h0
    simp
    exact ⟨_, rfl, ⟨Ow.new (D := Fl.int) (e := 3) (xs := []) (k := 2) (by simp) rfl rfl rfl, by simp⟩, Chg.app _, by simp [dTable], ids_nodup (.slice (some ⟨H.length + 2, 0, some 0⟩) 0 0)⟩
  · simp [h0, hl]
    exact ⟨_, rfl, ⟨Ow.new (D := Fl.int) (e := 3) (xs := xs) (k := 2) (by simp) (cellsOf_int _).symm (by simp) rfl, hl⟩, Chg.app _, by simp [dTable], ids_nodup (.slice (some ⟨H.length + 2, 0, some 1⟩) xs.length 0)⟩
end Go.Proofs.YtcigpclbhfkgaaaGreat.V
/-! Marks: flits and lists of flits. -/
set_option linter.all false
namespace Go.Proofs.YtcigpclbhfkgaaaGreat.V
open Go Go.VM Go.Proofs
set_option maxRecDepth 10000
variable {frz : Nat} {H : Heap}
def mkF (k : Int) : FlitD := (k, k + 1, k + 2, decide ((k + 3).tmod 3 = 0), decide ((k + 4).tmod 3 = 0))
def marksF (k : Int) : Nat → List FlitD
  | 0 => []
  | n + 1 => marksF k n ++ [mkF (k + 5 * n)]
@[simp] theorem marksF_len (k : Int) : ∀ n, (marksF k n).length = n
  | 0 => rfl
  | n + 1 => by simp [marksF, marksF_len k n]
theorem marksF_get (k : Int) {i : Nat} : ∀ n (h : i < n), (marksF k n)[i]'(by simpa using h) = mkF (k + 5 * i)
  | 0, h => by omega
  | n + 1, h => by
    simp only [marksF]
    by_cases hi : i < n
    · rw [List.getElem_append_left (by simpa using hi)]; exact marksF_get k n hi
    · have : i = n := by omega
      subst this
      rw [List.getElem_append_right (by simp)]; simp
theorem marksF_set (k : Int) (xs : List FlitD) {i : Nat} (h : i < xs.length) : (marksF k i ++ xs.drop i).set i (mkF (k + 5 * i)) = marksF k (i + 1) ++ xs.drop (i + 1) := by
  rw [List.set_append_right _ _ (by simp), marksF_len, Nat.sub_self, List.drop_eq_getElem_cons h, List.set_cons_zero, marksF]
  simp
theorem markFlitS_w (v : Value) (xs : List FlitD) (e : TypeId) (k : Int) (h : Ow flF e H v xs) (hl : xs.length ≤ 67108864) (hk : 0 ≤ k ∧ k ≤ 4611686018427387904) (hf : ∀ i ∈ ids v, frz ≤ i) :
   wp (vcall C frz 119 [v, .int .i64 k] H) (fun r H' => r = .int .i64 (k + 5 * xs.length) ∧ Ow flF e H' v (marksF k xs.length) ∧ Chg H H' (ids v) ∧ H'.length = H.length) := by
  rw [vcall_go (fn := Tryz.f119) Tryz.func119 rfl (by kernel_rfl) rfl]
  simp
  refine wp_inv (fun n t H' => ∃ i : Nat, n = xs.length - i ∧ i ≤ xs.length ∧ t 0 = v ∧ t 1 = .int .i64 (k + 5 * i) ∧ t 5 = .int .i64 i ∧ Ow flF e H' v (marksF k i ++ xs.drop i) ∧ Chg H H' (ids v) ∧ H'.length = H.length) ?_ (n := xs.length)
    ⟨0, by simp, by omega, by simp, by simp, by simp, by simpa [marksF] using h, Chg.refl _, rfl⟩
  rintro n t H' ⟨i, rfl, hi, h0, h1, h5, o, c, l⟩ ih
  have hlen : (marksF k i ++ xs.drop i).length = xs.length := by simp; omega
  have ll := o.rd.len (P := Tryz.prog) (ty := 113) (by simp)
  rw [hlen] at ll
  simp [h0, h1, h5, ll]
  refine wp_dec ?_ ?_ <;> intro h6
  · have hi' : i < xs.length := by omega
    have hms := marksF_set k xs hi'
    generalize marksF k i ++ xs.drop i = ys at *
    have hy : i < ys.length := by omega
    obtain ⟨K, hK⟩ : ∃ K, K = k + 5 * (i : Int) := ⟨_, rfl⟩
    obtain ⟨K1, hK1⟩ : ∃ K1, K1 = K + 1 := ⟨_, rfl⟩
    obtain ⟨K2, hK2⟩ : ∃ K1, K1 = K + 2 := ⟨_, rfl⟩
    obtain ⟨K3, hK3⟩ : ∃ K1, K1 = K + 3 := ⟨_, rfl⟩
    obtain ⟨K4, hK4⟩ : ∃ K1, K1 = K + 4 := ⟨_, rfl⟩
    obtain ⟨B3, hB3⟩ : ∃ B, B = decide (K3.tmod 3 = 0) := ⟨_, rfl⟩
    obtain ⟨B4, hB4⟩ : ∃ B, B = decide (K4.tmod 3 = 0) := ⟨_, rfl⟩
    have hmk : mkF K = (K, K1, K2, B3, B4) := by rw [hB3, hB4, hK1, hK2, hK3, hK4]; rfl
    have w1 : ∀ [Inhabited Unit], IntKind.i64.wrap (K + 1) = K1 := by intro _; rw [w64 (by omega) (by omega), hK1]
    have w2 : ∀ [Inhabited Unit], IntKind.i64.wrap (K1 + 1) = K2 := by intro _; rw [w64 (by omega) (by omega)]; omega
    have w3 : ∀ [Inhabited Unit], IntKind.i64.wrap (K2 + 1) = K3 := by intro _; rw [w64 (by omega) (by omega)]; omega
    have w4 : ∀ [Inhabited Unit], IntKind.i64.wrap (K3 + 1) = K4 := by intro _; rw [w64 (by omega) (by omega)]; omega
    have w5 : ∀ [Inhabited Unit], IntKind.i64.wrap (K4 + 1) = k + 5 * ((i + 1 : Nat) : Int) := by intro _; rw [w64 (by omega) (by omega)]; omega
    rw [← hK] at hms h1
    obtain ⟨z, hz⟩ : ∃ z, z = ys[i] := ⟨_, rfl⟩
    have ix := fun {G : Heap} {zs : List FlitD} (oo : Ow flF e G v zs) (hh : i < zs.length) => oo.rd.idx (P := Tryz.prog) (ty := 113) (e := 157) (by simp) (i := (i : Int)) (by omega) (by omega)
    have fa := fun {G : Heap} {zs : List FlitD} (oo : Ow flF e G v zs) (hh : i < zs.length) => (show _ ∧ _ ∧ _ ∧ _ ∧ _ from
      ⟨oo.rd.field (P := Tryz.prog) (s := 157) (f := 0) (o := 0) (n := 1) (ag := false) (by simp) (j := i * 5) (by omega), oo.rd.field (P := Tryz.prog) (s := 157) (f := 1) (o := 1) (n := 1) (ag := false) (by simp) (j := i * 5) (by omega),
       oo.rd.field (P := Tryz.prog) (s := 157) (f := 2) (o := 2) (n := 1) (ag := false) (by simp) (j := i * 5) (by omega), oo.rd.field (P := Tryz.prog) (s := 157) (f := 3) (o := 3) (n := 1) (ag := false) (by simp) (j := i * 5) (by omega),
       oo.rd.field (P := Tryz.prog) (s := 157) (f := 4) (o := 4) (n := 1) (ag := false) (by simp) (j := i * 5) (by omega)⟩)
    obtain ⟨H1, s1, o1, c1, l1⟩ := o.store1 (P := Tryz.prog) (frz := frz) (et := 3) (ag := false) (x := .int .i64 K) (by simp) (j := i) (c := 0) (y := (K, z.2)) hy (by decide) rfl rfl (by rw [← hz]; rfl) hf
    obtain ⟨H2, s2, o2, c2, l2⟩ := o1.store1 (P := Tryz.prog) (frz := frz) (et := 3) (ag := false) (x := .int .i64 K1) (by simp) (j := i) (c := 1) (y := (K, K1, z.2.2)) (by simpa using hy) (by decide) rfl rfl (by simp [flF_f]) hf
    obtain ⟨H3, s3, o3, c3, l3⟩ := o2.store1 (P := Tryz.prog) (frz := frz) (et := 3) (ag := false) (x := .int .i64 K2) (by simp) (j := i) (c := 2) (y := (K, K1, K2, z.2.2.2)) (by simpa using hy) (by decide) rfl rfl (by simp [flF_f]) hf
    obtain ⟨H4, s4, o4, c4, l4⟩ := o3.store1 (P := Tryz.prog) (frz := frz) (et := 4) (ag := false) (x := .bool B3) (by simp) (j := i) (c := 3) (y := (K, K1, K2, B3, z.2.2.2.2)) (by simpa using hy) (by decide) rfl rfl (by simp [flF_f]) hf
    obtain ⟨H5, s5, o5, c5, l5⟩ := o4.store1 (P := Tryz.prog) (frz := frz) (et := 4) (ag := false) (x := .bool B4) (by simp) (j := i) (c := 4) (y := (K, K1, K2, B3, B4)) (by simpa using hy) (by decide) rfl rfl (by simp [flF_f]) hf
    have i0 := ix o hy
    have i1 := ix o1 (by simpa using hy)
    have i2 := ix o2 (by simpa using hy)
    have i3 := ix o3 (by simpa using hy)
    have i4 := ix o4 (by simpa using hy)
    have f0 := (fa o hy).1
    have f1 := (fa o1 (by simpa using hy)).2.1
    have f2 := (fa o2 (by simpa using hy)).2.2.1
    have f3 := (fa o3 (by simpa using hy)).2.2.2.1
    have f4 := (fa o4 (by simpa using hy)).2.2.2.2
    simp only [Int.toNat_natCast, flF_n, Nat.add_zero] at i0 i1 i2 i3 i4 s1 s2 s3 s4 s5 f0
    have e3 : ∀ [Inhabited Unit], (decide (K3.tmod 3 = 0)) = B3 := by intro _; exact hB3.symm
    have e4 : ∀ [Inhabited Unit], (decide (K4.tmod 3 = 0)) = B4 := by intro _; exact hB4.symm
    simp [-vfieldAddr, vfa_ptr, h0, h1, h5, i0, i1, i2, i3, i4, f0, f1, f2, f3, f4, s1, s2, s3, s4, s5, w1, w2, w3, w4, w5, e3, e4]
    refine ih (xs.length - (i + 1)) _ _ ⟨i + 1, rfl, by omega, by simp [h0], ?_, ?_, ?_, (((((c.trans c1).trans c2).trans c3).trans c4).trans c5), by omega⟩ (by omega)
    · simp
    · simp; rw [w64 (by omega) (by omega)]
    · rw [← hms, hmk]; simpa only [List.set_set] using o5
  · have : i = xs.length := by omega
    subst this
    simp [h0, h1, h5]
    exact ⟨by simpa using o, c, l⟩
end Go.Proofs.YtcigpclbhfkgaaaGreat.V
/-! Marks: lists of flits, read again. -/
set_option linter.all false
namespace Go.Proofs.YtcigpclbhfkgaaaGreat.V
open Go Go.VM Go.Proofs
set_option maxRecDepth 10000
variable {frz : Nat} {H : Heap}
theorem flatMap_disj : ∀ (hs : List Value), (hs.flatMap ids).Nodup → ∀ {i j : Nat} {a b : Value}, i ≠ j → hs[i]? = some a → hs[j]? = some b → ∀ x ∈ ids a, x ∉ ids b
  | [], _, i, j, a, b, _, h1, _ => by simp at h1
  | c :: hs, nd, i, j, a, b, hij, h1, h2 => by
    rw [List.flatMap_cons] at nd
    obtain ⟨n1, n2, n3⟩ := List.nodup_append.1 nd
    intro x hx hx'
    cases i with
    | zero =>
      cases j with
      | zero => exact absurd rfl hij
      | succ j =>
        simp at h1 h2
        subst h1
        exact n3 x hx x (List.mem_flatMap.2 ⟨b, List.mem_of_getElem? h2, hx'⟩) rfl
    | succ i =>
      cases j with
      | zero =>
        simp at h1 h2
        subst h2
        exact n3 x hx' x (List.mem_flatMap.2 ⟨a, List.mem_of_getElem? h1, hx⟩) rfl
      | succ j => exact flatMap_disj hs n2 (i := i) (j := j) (fun e => hij (by omega)) (by simpa using h1) (by simpa using h2) x hx hx'
/-- one inner slice is written -/
theorem OwL_upd {α : Type} {D : Fl α} {e oe : TypeId} {H H' : Heap} {v a : Value} {hs : List Value} {xss : List (List α)} {i : Nat} {ys : List α} (h : OwL D e oe H v hs xss) (hi : i < xss.length) (ha : hs[i]? = some a) (c : Chg H H' (ids a)) (o : Ow D e H' a ys) (nd : (idsL v hs).Nodup) :
    OwL D e oe H' v hs (xss.set i ys) := by
  obtain ⟨n1, n2, n3⟩ := List.nodup_append.1 nd
  refine ⟨h.1.chg c fun x hx hh => n3 x hx x (List.mem_flatMap.2 ⟨a, List.mem_of_getElem? ha, hh⟩) rfl, by simpa using h.2.1, fun j b zs hb hz => ?_⟩
  by_cases hji : i = j
  · subst hji
    rw [ha] at hb; cases hb
    rw [List.getElem?_set_self hi] at hz; cases hz
    exact o
  · rw [List.getElem?_set_ne hji] at hz
    exact (h.2.2 j b zs hb hz).chg c (flatMap_disj hs n2 (Ne.symm hji) hb ha)
/-- how many flits lie ahead of list i -/
def ahead (a : SSD) (i : Nat) : Nat := ((a.take i).map List.length).sum
def mSS (k : Int) (a : SSD) : Nat → SSD
  | 0 => []
  | i + 1 => mSS k a i ++ [marksF (k + 5 * (ahead a i : Int)) (a.getD i []).length]
@[simp] theorem mSS_len (k : Int) (a : SSD) : ∀ i, (mSS k a i).length = i
  | 0 => rfl
  | i + 1 => by simp [mSS, mSS_len k a i]
theorem mSS_get (k : Int) (a : SSD) {i : Nat} : ∀ n (h : i < n), (mSS k a n)[i]'(by simpa using h) = marksF (k + 5 * (ahead a i : Int)) (a.getD i []).length
  | 0, h => by omega
  | n + 1, h => by
    simp only [mSS]
    by_cases hi : i < n
    · rw [List.getElem_append_left (by simpa using hi)]; exact mSS_get k a n hi
    · have : i = n := by omega
      subst this
      rw [List.getElem_append_right (by simp)]; simp
theorem mSS_set (k : Int) (a : SSD) {i : Nat} (h : i < a.length) : (mSS k a i ++ a.drop i).set i (marksF (k + 5 * (ahead a i : Int)) (a.getD i []).length) = mSS k a (i + 1) ++ a.drop (i + 1) := by
  rw [List.set_append_right _ _ (by simp), mSS_len, Nat.sub_self, List.drop_eq_getElem_cons h, List.set_cons_zero, mSS]
  simp
theorem ahead_succ (a : SSD) {i : Nat} (h : i < a.length) : ahead a (i + 1) = ahead a i + (a.getD i []).length := by
  unfold ahead; rw [sum_take a h, List.getD_eq_getElem?_getD, List.getElem?_eq_getElem h]; rfl
theorem ahead_le (a : SSD) (h2 : ∀ xs ∈ a, xs.length ≤ 67108864) : ∀ i, i ≤ a.length → ahead a i ≤ 67108864 * i
  | 0, _ => by simp [ahead]
  | i + 1, h => by
    have := ahead_le a h2 i (by omega)
    have hm := h2 _ (List.getElem_mem (show i < a.length by omega))
    rw [ahead_succ a (by omega), List.getD_eq_getElem?_getD, List.getElem?_eq_getElem (by omega)]
    simp; omega
theorem heldFlitS_c (v : Value) (n : Nat) (k : Int) (h : Rd flF H v (marksF k n)) (hl : n ≤ 67108864) (hk : 0 ≤ k ∧ k ≤ 4611686018427387904) :
   vcall C frz 121 [v, .int .i64 k] H = some (.int .i64 (k + 5 * n), H) := by
  refine wp.exact (by simp) ?_ rfl
  rw [vcall_go (fn := Tryz.f121) Tryz.func121 rfl (by kernel_rfl) rfl]
  have ll := h.len (P := Tryz.prog) (ty := 113) (by simp)
  rw [marksF_len] at ll
  simp
  refine wp_inv (fun m t H' => ∃ i : Nat, m = n - i ∧ i ≤ n ∧ t 0 = v ∧ t 1 = .int .i64 (k + 5 * i) ∧ t 5 = .int .i64 i ∧ H' = H) ?_ (n := n) ⟨0, rfl, by omega, by simp, by simp, by simp, rfl⟩
  rintro m t H' ⟨i, rfl, hi, h0, h1, h5, rfl⟩ ih
  simp [h0, h1, h5, ll]
  refine wp_dec ?_ ?_ <;> intro h6
  · have hi' : i < n := by omega
    have hy : i < (marksF k n).length := by simpa using hi'
    obtain ⟨K, hK⟩ : ∃ K, K = k + 5 * (i : Int) := ⟨_, rfl⟩
    obtain ⟨K1, hK1⟩ : ∃ K1, K1 = K + 1 := ⟨_, rfl⟩
    obtain ⟨K2, hK2⟩ : ∃ K1, K1 = K + 2 := ⟨_, rfl⟩
    obtain ⟨K3, hK3⟩ : ∃ K1, K1 = K + 3 := ⟨_, rfl⟩
    obtain ⟨K4, hK4⟩ : ∃ K1, K1 = K + 4 := ⟨_, rfl⟩
    obtain ⟨B3, hB3⟩ : ∃ B, B = decide (K3.tmod 3 = 0) := ⟨_, rfl⟩
    obtain ⟨B4, hB4⟩ : ∃ B, B = decide (K4.tmod 3 = 0) := ⟨_, rfl⟩
    have hmk : (marksF k n)[i] = (K, K1, K2, B3, B4) := by rw [marksF_get k n hi', hB3, hB4, hK1, hK2, hK3, hK4, hK]; rfl
    have w1 : ∀ [Inhabited Unit], IntKind.i64.wrap (K + 1) = K1 := by intro _; rw [w64 (by omega) (by omega), hK1]
    have w2 : ∀ [Inhabited Unit], IntKind.i64.wrap (K1 + 1) = K2 := by intro _; rw [w64 (by omega) (by omega)]; omega
    have w3 : ∀ [Inhabited Unit], IntKind.i64.wrap (K2 + 1) = K3 := by intro _; rw [w64 (by omega) (by omega)]; omega
    have w4 : ∀ [Inhabited Unit], IntKind.i64.wrap (K3 + 1) = K4 := by intro _; rw [w64 (by omega) (by omega)]; omega
    have w5 : ∀ [Inhabited Unit], IntKind.i64.wrap (K4 + 1) = k + 5 * ((i + 1 : Nat) : Int) := by intro _; rw [w64 (by omega) (by omega)]; omega
    rw [← hK] at h1
    have i0 := h.idx (P := Tryz.prog) (ty := 113) (e := 157) (by simp) (i := (i : Int)) (by omega) (by omega)
    have f0 := h.field (P := Tryz.prog) (s := 157) (f := 0) (o := 0) (n := 1) (ag := false) (by simp) (j := i * 5) (by omega)
    have f1 := h.field (P := Tryz.prog) (s := 157) (f := 1) (o := 1) (n := 1) (ag := false) (by simp) (j := i * 5) (by omega)
    have f2 := h.field (P := Tryz.prog) (s := 157) (f := 2) (o := 2) (n := 1) (ag := false) (by simp) (j := i * 5) (by omega)
    have f3 := h.field (P := Tryz.prog) (s := 157) (f := 3) (o := 3) (n := 1) (ag := false) (by simp) (j := i * 5) (by omega)
    have f4 := h.field (P := Tryz.prog) (s := 157) (f := 4) (o := 4) (n := 1) (ag := false) (by simp) (j := i * 5) (by omega)
    have c0 := h.cell (P := Tryz.prog) (e := 3) (by simp) hy (c := 0) (by decide)
    have c1 := h.cell (P := Tryz.prog) (e := 3) (by simp) hy (c := 1) (by decide)
    have c2 := h.cell (P := Tryz.prog) (e := 3) (by simp) hy (c := 2) (by decide)
    have c3 := h.cell (P := Tryz.prog) (e := 4) (by simp) hy (c := 3) (by decide)
    have c4 := h.cell (P := Tryz.prog) (e := 4) (by simp) hy (c := 4) (by decide)
    rw [hmk] at c0 c1 c2 c3 c4
    simp only [Int.toNat_natCast, flF_n, flF_f, Nat.add_zero] at i0 f0 c0 c1 c2 c3 c4
    simp at c0 c1 c2 c3 c4
    have e3 : ∀ [Inhabited Unit], (decide (K3.tmod 3 = 0)) = B3 := by intro _; exact hB3.symm
    have e4 : ∀ [Inhabited Unit], (decide (K4.tmod 3 = 0)) = B4 := by intro _; exact hB4.symm
    simp [-vfieldAddr, vfa_ptr, h0, h1, h5, i0, f0, f1, f2, f3, f4, c0, c1, c2, c3, c4, w1, w2, w3, w4, w5, e3, e4]
    refine ih (n - (i + 1)) _ _ ⟨i + 1, rfl, by omega, by simp [h0], ?_, ?_, rfl⟩ (by omega)
    · simp
    · simp; rw [w64 (by omega) (by omega)]
  · have : i = n := by omega
    subst this
    simp [h0, h1, h5]
theorem heldFlitSS_c (v : SSV) (a : SSD) (k : Int) (h : dSS.Ow H v (mSS k a a.length)) (h1 : a.length ≤ 2097152) (h2 : ∀ xs ∈ a, xs.length ≤ 67108864) (hk : 0 ≤ k ∧ k ≤ 2305843009213693952) :
   vcall C frz 67 [v.1, .int .i64 k] H = some (.int .i64 (k + 5 * (ahead a a.length : Int)), H) := by
  refine wp.exact (by simp) ?_ rfl
  rw [vcall_go (fn := Tryz.f67) Tryz.func67 rfl (by kernel_rfl) rfl]
  have rd := h.1.rd
  have ll := rd.1.len (P := Tryz.prog) (ty := 44) (by simp)
  have el := rd.2.1
  rw [mSS_len] at el
  rw [el] at ll
  simp
  refine wp_inv (fun m t H' => ∃ i : Nat, m = a.length - i ∧ i ≤ a.length ∧ t 0 = v.1 ∧ t 1 = .int .i64 (k + 5 * (ahead a i : Int)) ∧ t 5 = .int .i64 i ∧ H' = H) ?_ (n := a.length) ⟨0, rfl, by omega, by simp, by simp [ahead], by simp, rfl⟩
  rintro m t H' ⟨i, rfl, hi, t0, t1, t5, rfl⟩ ih
  simp [t0, t1, t5, ll]
  refine wp_dec ?_ ?_ <;> intro g
  · have hi' : i < a.length := by omega
    obtain ⟨u, _, a2, a3, a4⟩ := RdL_at rd (ty := 44) (e := 113) (by simp) (by simp) (j := i) (by simpa using hi')
    rw [mSS_get k a a.length hi'] at a4
    have al := ahead_le a h2 i (by omega)
    have asx := ahead_succ a hi'
    have hm := h2 _ (List.getElem_mem hi')
    have hg : a.getD i [] = a[i] := by simp [List.getD_eq_getElem?_getD, hi']
    rw [hg] at a4 asx
    have hh := fun F => heldFlitS_c (frz := F) u a[i].length _ a4 hm ⟨by omega, by omega⟩
    have f0 : ¬ k + 5 * (ahead a i : Int) + 5 * (a[i].length : Int) < 0 := by omega
    simp [t0, t1, t5, a2, a3, hh, f0]
    refine ih (a.length - (i + 1)) _ _ ⟨i + 1, rfl, by omega, by simp [t0], ?_, ?_, rfl⟩ (by omega)
    · simp; rw [asx]; omega
    · simp; rw [w64 (by omega) (by omega)]
  · have : i = a.length := by omega
    subst this
    simp [t0, t1, t5]
theorem markFlitSS_d {v : SSV} {a : SSD} {k : Int} (h : dSS.Ow H v a) (hd : (dSS.ids v).Nodup) (hk : 0 ≤ k ∧ k ≤ 2305843009213693952) (hf : ∀ i ∈ dSS.ids v, frz ≤ i) :
    wp (vcall C frz 63 [v.1, .int .i64 k] H) (Marks 1125899906842624 dSS 67 H v a k) := by
  rw [vcall_go (fn := Tryz.f63) Tryz.func63 rfl (by kernel_rfl) rfl]
  obtain ⟨ho, h1, h2⟩ := h
  simp
  refine wp_inv (fun m t H' => ∃ i : Nat, m = a.length - i ∧ i ≤ a.length ∧ t 0 = v.1 ∧ t 1 = .int .i64 (k + 5 * (ahead a i : Int)) ∧ t 5 = .int .i64 i ∧ OwL flF 157 113 H' v.1 v.2 (mSS k a i ++ a.drop i) ∧ Chg H H' (dSS.ids v)) ?_ (n := a.length)
    ⟨0, rfl, by omega, by simp, by simp [ahead], by simp, by simpa [mSS] using ho, Chg.refl _⟩
  rintro m t H' ⟨i, rfl, hi, t0, t1, t5, o, c⟩ ih
  have rd := o.rd
  have ll := rd.1.len (P := Tryz.prog) (ty := 44) (by simp)
  have el := rd.2.1
  have hll : (mSS k a i ++ a.drop i).length = a.length := by simp; omega
  rw [hll] at el
  rw [el] at ll
  simp [t0, t1, t5, ll]
  refine wp_dec ?_ ?_ <;> intro g
  · have hi' : i < a.length := by omega
    have hset := mSS_set k a hi'
    have hget : (mSS k a i ++ a.drop i)[i]'(by omega) = a[i] := by rw [List.getElem_append_right (by simp)]; simp
    obtain ⟨u, a1, a2, a3, a4⟩ := RdL_at rd (ty := 44) (e := 113) (by simp) (by simp) (j := i) (by omega)
    have al := ahead_le a h2 i (by omega)
    have asx := ahead_succ a hi'
    have hm := h2 _ (List.getElem_mem hi')
    have hg : a.getD i [] = a[i] := by simp [List.getD_eq_getElem?_getD, hi']
    rw [hg] at asx hset
    have ou : Ow flF 157 H' u a[i] := o.2.2 i u _ a1 (by rw [List.getElem?_eq_getElem (by omega), hget])
    have hfu : ∀ x ∈ ids u, frz ≤ x := fun x hx => hf x (mem_idsL a1 hx)
    simp [t0, t1, t5, a2, a3]
    refine wp_thn (markFlitS_w u a[i] _ _ ou hm ⟨by omega, by omega⟩ hfu) ?_
    rintro _ H1 ⟨rfl, o1, c1, l1⟩
    simp [t0, t1, t5]
    refine ih (a.length - (i + 1)) _ _ ⟨i + 1, rfl, by omega, by simp [t0], ?_, ?_, ?_, c.trans (c1.mono fun x hx => mem_idsL a1 hx)⟩ (by omega)
    · simp; rw [asx]; omega
    · simp; rw [w64 (by omega) (by omega)]
    · rw [← hset]; exact OwL_upd o (by omega) a1 c1 o1 hd
  · have : i = a.length := by omega
    subst this
    have al := ahead_le a h2 a.length (by omega)
    simp [t0, t1, t5]
    have hob : dSS.Ow H' v (mSS k a a.length) := ⟨by simpa using o, by simpa using h1, fun xs hx => by
      obtain ⟨j, hj, rfl⟩ := List.mem_iff_getElem.1 hx
      have hj' : j < a.length := by simpa using hj
      rw [mSS_get k a a.length hj', marksF_len]
      have : a.getD j [] = a[j] := by simp [List.getD_eq_getElem?_getD, hj']
      rw [this]; exact h2 _ (List.getElem_mem hj')⟩
    exact ⟨5 * (ahead a a.length : Int), mSS k a a.length, rfl, by omega, rfl, hob, c, fun F H2 h3 => heldFlitSS_c v a k h3 h1 h2 hk⟩
end Go.Proofs.YtcigpclbhfkgaaaGreat.V
/-! Marks: networks. -/
set_option linter.all false
namespace Go.Proofs.YtcigpclbhfkgaaaGreat.V
open Go Go.VM Go.Proofs
set_option maxRecDepth 10000
variable {frz : Nat} {H : Heap}
theorem markNet_d {v : NetV} {a : NetD} {k : Int} (h : dNet.Ow H v a) (hd : (dNet.ids v).Nodup) (hk : 0 ≤ k ∧ k ≤ 1152921504606846976) (hf : ∀ i ∈ dNet.ids v, frz ≤ i) :
    wp (vcall C frz 21 [dNet.val v a, .int .i64 k] H) (Marks 4503599627370496 dNet 22 H v a k) := by
  have ones := dNet_one h
  obtain ⟨v1, v2, v3, v4, v5, v6, v7, v8⟩ := v
  obtain ⟨⟨w, g, b⟩, a2, a3, a4, a5, a6, a7, tm⟩ := a
  obtain ⟨h1, h2, h3, h4, h5, h6, h7, _⟩ := h
  simp only at h1 h2 h3 h4 h5 h6 h7 ones
  rw [dNet_val]
  rw [vcall_go (fn := Tryz.f21) Tryz.func21 rfl (by kernel_rfl) rfl]
  have rest7 : dNet.ids (v1, v2, v3, v4, v5, v6, v7, v8) = dMesh.ids v1 ++ (dClasses.ids v2 ++ (dSS.ids v3 ++ (dIntS.ids v4 ++ (dIntS.ids v5 ++ (dSS.ids v6 ++ (dSS.ids v7 ++ [])))))) := rfl
  rw [rest7] at hd hf
  obtain ⟨d1, r1, x1⟩ := List.nodup_append.1 hd
  obtain ⟨d2, r2, x2⟩ := List.nodup_append.1 r1
  obtain ⟨d3, r3, x3⟩ := List.nodup_append.1 r2
  obtain ⟨d4, r4, x4⟩ := List.nodup_append.1 r3
  obtain ⟨d5, r5, x5⟩ := List.nodup_append.1 r4
  obtain ⟨d6, r6, x6⟩ := List.nodup_append.1 r5
  obtain ⟨d7, r7, x7⟩ := List.nodup_append.1 r6
  have in1 : ∀ i ∈ dMesh.ids v1, i ∈ dMesh.ids v1 ++ (dClasses.ids v2 ++ (dSS.ids v3 ++ (dIntS.ids v4 ++ (dIntS.ids v5 ++ (dSS.ids v6 ++ (dSS.ids v7 ++ [])))))) := fun i hi => List.mem_append.2 (.inl hi)
  have in2 : ∀ i ∈ dClasses.ids v2, i ∈ dMesh.ids v1 ++ (dClasses.ids v2 ++ (dSS.ids v3 ++ (dIntS.ids v4 ++ (dIntS.ids v5 ++ (dSS.ids v6 ++ (dSS.ids v7 ++ [])))))) := fun i hi => List.mem_append.2 (.inr (List.mem_append.2 (.inl hi)))
  have in3 : ∀ i ∈ dSS.ids v3, i ∈ dMesh.ids v1 ++ (dClasses.ids v2 ++ (dSS.ids v3 ++ (dIntS.ids v4 ++ (dIntS.ids v5 ++ (dSS.ids v6 ++ (dSS.ids v7 ++ [])))))) := fun i hi => List.mem_append.2 (.inr (List.mem_append.2 (.inr (List.mem_append.2 (.inl hi)))))
  have in4 : ∀ i ∈ dIntS.ids v4, i ∈ dMesh.ids v1 ++ (dClasses.ids v2 ++ (dSS.ids v3 ++ (dIntS.ids v4 ++ (dIntS.ids v5 ++ (dSS.ids v6 ++ (dSS.ids v7 ++ [])))))) := fun i hi => List.mem_append.2 (.inr (List.mem_append.2 (.inr (List.mem_append.2 (.inr (List.mem_append.2 (.inl hi)))))))
  have in5 : ∀ i ∈ dIntS.ids v5, i ∈ dMesh.ids v1 ++ (dClasses.ids v2 ++ (dSS.ids v3 ++ (dIntS.ids v4 ++ (dIntS.ids v5 ++ (dSS.ids v6 ++ (dSS.ids v7 ++ [])))))) := fun i hi => List.mem_append.2 (.inr (List.mem_append.2 (.inr (List.mem_append.2 (.inr (List.mem_append.2 (.inr (List.mem_append.2 (.inl hi)))))))))
  have in6 : ∀ i ∈ dSS.ids v6, i ∈ dMesh.ids v1 ++ (dClasses.ids v2 ++ (dSS.ids v3 ++ (dIntS.ids v4 ++ (dIntS.ids v5 ++ (dSS.ids v6 ++ (dSS.ids v7 ++ [])))))) := fun i hi => List.mem_append.2 (.inr (List.mem_append.2 (.inr (List.mem_append.2 (.inr (List.mem_append.2 (.inr (List.mem_append.2 (.inr (List.mem_append.2 (.inl hi)))))))))))
  have in7 : ∀ i ∈ dSS.ids v7, i ∈ dMesh.ids v1 ++ (dClasses.ids v2 ++ (dSS.ids v3 ++ (dIntS.ids v4 ++ (dIntS.ids v5 ++ (dSS.ids v6 ++ (dSS.ids v7 ++ [])))))) := fun i hi => List.mem_append.2 (.inr (List.mem_append.2 (.inr (List.mem_append.2 (.inr (List.mem_append.2 (.inr (List.mem_append.2 (.inr (List.mem_append.2 (.inr (List.mem_append.2 (.inl hi)))))))))))))
  have lt1 := dMesh.lt h1
  have lt2 := dClasses.lt h2
  have lt3 := dSS.lt h3
  have lt4 := dIntS.lt h4
  have lt5 := dIntS.lt h5
  have lt6 := dSS.lt h6
  have lt7 := dSS.lt h7
  have z2_1 : ∀ i ∈ dClasses.ids v2, i ∉ dMesh.ids v1 := fun i hi hh => x1 i hh i (List.mem_append.2 (.inl hi)) rfl
  have z1_2 : ∀ i ∈ dMesh.ids v1, i ∉ dClasses.ids v2 := fun i hh hi => x1 i hh i (List.mem_append.2 (.inl hi)) rfl
  have z3_1 : ∀ i ∈ dSS.ids v3, i ∉ dMesh.ids v1 := fun i hi hh => x1 i hh i (List.mem_append.2 (.inr (List.mem_append.2 (.inl hi)))) rfl
  have z1_3 : ∀ i ∈ dMesh.ids v1, i ∉ dSS.ids v3 := fun i hh hi => x1 i hh i (List.mem_append.2 (.inr (List.mem_append.2 (.inl hi)))) rfl
  have z4_1 : ∀ i ∈ dIntS.ids v4, i ∉ dMesh.ids v1 := fun i hi hh => x1 i hh i (List.mem_append.2 (.inr (List.mem_append.2 (.inr (List.mem_append.2 (.inl hi)))))) rfl
  have z1_4 : ∀ i ∈ dMesh.ids v1, i ∉ dIntS.ids v4 := fun i hh hi => x1 i hh i (List.mem_append.2 (.inr (List.mem_append.2 (.inr (List.mem_append.2 (.inl hi)))))) rfl
  have z5_1 : ∀ i ∈ dIntS.ids v5, i ∉ dMesh.ids v1 := fun i hi hh => x1 i hh i (List.mem_append.2 (.inr (List.mem_append.2 (.inr (List.mem_append.2 (.inr (List.mem_append.2 (.inl hi)))))))) rfl
  have z1_5 : ∀ i ∈ dMesh.ids v1, i ∉ dIntS.ids v5 := fun i hh hi => x1 i hh i (List.mem_append.2 (.inr (List.mem_append.2 (.inr (List.mem_append.2 (.inr (List.mem_append.2 (.inl hi)))))))) rfl
  have z6_1 : ∀ i ∈ dSS.ids v6, i ∉ dMesh.ids v1 := fun i hi hh => x1 i hh i (List.mem_append.2 (.inr (List.mem_append.2 (.inr (List.mem_append.2 (.inr (List.mem_append.2 (.inr (List.mem_append.2 (.inl hi)))))))))) rfl
  have z1_6 : ∀ i ∈ dMesh.ids v1, i ∉ dSS.ids v6 := fun i hh hi => x1 i hh i (List.mem_append.2 (.inr (List.mem_append.2 (.inr (List.mem_append.2 (.inr (List.mem_append.2 (.inr (List.mem_append.2 (.inl hi)))))))))) rfl
  have z7_1 : ∀ i ∈ dSS.ids v7, i ∉ dMesh.ids v1 := fun i hi hh => x1 i hh i (List.mem_append.2 (.inr (List.mem_append.2 (.inr (List.mem_append.2 (.inr (List.mem_append.2 (.inr (List.mem_append.2 (.inr (List.mem_append.2 (.inl hi)))))))))))) rfl
  have z1_7 : ∀ i ∈ dMesh.ids v1, i ∉ dSS.ids v7 := fun i hh hi => x1 i hh i (List.mem_append.2 (.inr (List.mem_append.2 (.inr (List.mem_append.2 (.inr (List.mem_append.2 (.inr (List.mem_append.2 (.inr (List.mem_append.2 (.inl hi)))))))))))) rfl
  have z3_2 : ∀ i ∈ dSS.ids v3, i ∉ dClasses.ids v2 := fun i hi hh => x2 i hh i (List.mem_append.2 (.inl hi)) rfl
  have z2_3 : ∀ i ∈ dClasses.ids v2, i ∉ dSS.ids v3 := fun i hh hi => x2 i hh i (List.mem_append.2 (.inl hi)) rfl
  have z4_2 : ∀ i ∈ dIntS.ids v4, i ∉ dClasses.ids v2 := fun i hi hh => x2 i hh i (List.mem_append.2 (.inr (List.mem_append.2 (.inl hi)))) rfl
  have z2_4 : ∀ i ∈ dClasses.ids v2, i ∉ dIntS.ids v4 := fun i hh hi => x2 i hh i (List.mem_append.2 (.inr (List.mem_append.2 (.inl hi)))) rfl
  have z5_2 : ∀ i ∈ dIntS.ids v5, i ∉ dClasses.ids v2 := fun i hi hh => x2 i hh i (List.mem_append.2 (.inr (List.mem_append.2 (.inr (List.mem_append.2 (.inl hi)))))) rfl
  have z2_5 : ∀ i ∈ dClasses.ids v2, i ∉ dIntS.ids v5 := fun i hh hi => x2 i hh i (List.mem_append.2 (.inr (List.mem_append.2 (.inr (List.mem_append.2 (.inl hi)))))) rfl
  have z6_2 : ∀ i ∈ dSS.ids v6, i ∉ dClasses.ids v2 := fun i hi hh => x2 i hh i (List.mem_append.2 (.inr (List.mem_append.2 (.inr (List.mem_append.2 (.inr (List.mem_append.2 (.inl hi)))))))) rfl
  have z2_6 : ∀ i ∈ dClasses.ids v2, i ∉ dSS.ids v6 := fun i hh hi => x2 i hh i (List.mem_append.2 (.inr (List.mem_append.2 (.inr (List.mem_append.2 (.inr (List.mem_append.2 (.inl hi)))))))) rfl
  have z7_2 : ∀ i ∈ dSS.ids v7, i ∉ dClasses.ids v2 := fun i hi hh => x2 i hh i (List.mem_append.2 (.inr (List.mem_append.2 (.inr (List.mem_append.2 (.inr (List.mem_append.2 (.inr (List.mem_append.2 (.inl hi)))))))))) rfl
  have z2_7 : ∀ i ∈ dClasses.ids v2, i ∉ dSS.ids v7 := fun i hh hi => x2 i hh i (List.mem_append.2 (.inr (List.mem_append.2 (.inr (List.mem_append.2 (.inr (List.mem_append.2 (.inr (List.mem_append.2 (.inl hi)))))))))) rfl
  have z4_3 : ∀ i ∈ dIntS.ids v4, i ∉ dSS.ids v3 := fun i hi hh => x3 i hh i (List.mem_append.2 (.inl hi)) rfl
  have z3_4 : ∀ i ∈ dSS.ids v3, i ∉ dIntS.ids v4 := fun i hh hi => x3 i hh i (List.mem_append.2 (.inl hi)) rfl
  have z5_3 : ∀ i ∈ dIntS.ids v5, i ∉ dSS.ids v3 := fun i hi hh => x3 i hh i (List.mem_append.2 (.inr (List.mem_append.2 (.inl hi)))) rfl
  have z3_5 : ∀ i ∈ dSS.ids v3, i ∉ dIntS.ids v5 := fun i hh hi => x3 i hh i (List.mem_append.2 (.inr (List.mem_append.2 (.inl hi)))) rfl
  have z6_3 : ∀ i ∈ dSS.ids v6, i ∉ dSS.ids v3 := fun i hi hh => x3 i hh i (List.mem_append.2 (.inr (List.mem_append.2 (.inr (List.mem_append.2 (.inl hi)))))) rfl
  have z3_6 : ∀ i ∈ dSS.ids v3, i ∉ dSS.ids v6 := fun i hh hi => x3 i hh i (List.mem_append.2 (.inr (List.mem_append.2 (.inr (List.mem_append.2 (.inl hi)))))) rfl
  have z7_3 : ∀ i ∈ dSS.ids v7, i ∉ dSS.ids v3 := fun i hi hh => x3 i hh i (List.mem_append.2 (.inr (List.mem_append.2 (.inr (List.mem_append.2 (.inr (List.mem_append.2 (.inl hi)))))))) rfl
  have z3_7 : ∀ i ∈ dSS.ids v3, i ∉ dSS.ids v7 := fun i hh hi => x3 i hh i (List.mem_append.2 (.inr (List.mem_append.2 (.inr (List.mem_append.2 (.inr (List.mem_append.2 (.inl hi)))))))) rfl
  have z5_4 : ∀ i ∈ dIntS.ids v5, i ∉ dIntS.ids v4 := fun i hi hh => x4 i hh i (List.mem_append.2 (.inl hi)) rfl
  have z4_5 : ∀ i ∈ dIntS.ids v4, i ∉ dIntS.ids v5 := fun i hh hi => x4 i hh i (List.mem_append.2 (.inl hi)) rfl
  have z6_4 : ∀ i ∈ dSS.ids v6, i ∉ dIntS.ids v4 := fun i hi hh => x4 i hh i (List.mem_append.2 (.inr (List.mem_append.2 (.inl hi)))) rfl
  have z4_6 : ∀ i ∈ dIntS.ids v4, i ∉ dSS.ids v6 := fun i hh hi => x4 i hh i (List.mem_append.2 (.inr (List.mem_append.2 (.inl hi)))) rfl
  have z7_4 : ∀ i ∈ dSS.ids v7, i ∉ dIntS.ids v4 := fun i hi hh => x4 i hh i (List.mem_append.2 (.inr (List.mem_append.2 (.inr (List.mem_append.2 (.inl hi)))))) rfl
  have z4_7 : ∀ i ∈ dIntS.ids v4, i ∉ dSS.ids v7 := fun i hh hi => x4 i hh i (List.mem_append.2 (.inr (List.mem_append.2 (.inr (List.mem_append.2 (.inl hi)))))) rfl
  have z6_5 : ∀ i ∈ dSS.ids v6, i ∉ dIntS.ids v5 := fun i hi hh => x5 i hh i (List.mem_append.2 (.inl hi)) rfl
  have z5_6 : ∀ i ∈ dIntS.ids v5, i ∉ dSS.ids v6 := fun i hh hi => x5 i hh i (List.mem_append.2 (.inl hi)) rfl
  have z7_5 : ∀ i ∈ dSS.ids v7, i ∉ dIntS.ids v5 := fun i hi hh => x5 i hh i (List.mem_append.2 (.inr (List.mem_append.2 (.inl hi)))) rfl
  have z5_7 : ∀ i ∈ dIntS.ids v5, i ∉ dSS.ids v7 := fun i hh hi => x5 i hh i (List.mem_append.2 (.inr (List.mem_append.2 (.inl hi)))) rfl
  have z7_6 : ∀ i ∈ dSS.ids v7, i ∉ dSS.ids v6 := fun i hi hh => x6 i hh i (List.mem_append.2 (.inl hi)) rfl
  have z6_7 : ∀ i ∈ dSS.ids v6, i ∉ dSS.ids v7 := fun i hh hi => x6 i hh i (List.mem_append.2 (.inl hi)) rfl
  clear rest7
  simp [ones]
  obtain ⟨G0, hG0⟩ : ∃ G, G = H ++ [⟨[.int .i64 w, .int .i64 g, v1, v2.1, v2.2, v3.1, v4, v5, v6.1, v7.1, .int .i64 tm], 0, 46⟩] := ⟨_, rfl⟩
  have b0 : G0[H.length]? = some ⟨[.int .i64 w, .int .i64 g, v1, v2.1, v2.2, v3.1, v4, v5, v6.1, v7.1, .int .i64 tm], 0, 46⟩ := by rw [hG0]; simp
  have cH : Chg H G0 (dNet.ids (v1, v2, v3, v4, v5, v6, v7, v8)) := by rw [hG0]; exact Chg.app _
  have h1 := (by rw [hG0]; exact Dt.app (T := dMesh) h1 : dMesh.Ow G0 v1 (w, g, b))
  have h2 := (by rw [hG0]; exact Dt.app (T := dClasses) h2 : dClasses.Ow G0 v2 a2)
  have h3 := (by rw [hG0]; exact Dt.app (T := dSS) h3 : dSS.Ow G0 v3 a3)
  have h4 := (by rw [hG0]; exact Dt.app (T := dIntS) h4 : dIntS.Ow G0 v4 a4)
  have h5 := (by rw [hG0]; exact Dt.app (T := dIntS) h5 : dIntS.Ow G0 v5 a5)
  have h6 := (by rw [hG0]; exact Dt.app (T := dSS) h6 : dSS.Ow G0 v6 a6)
  have h7 := (by rw [hG0]; exact Dt.app (T := dSS) h7 : dSS.Ow G0 v7 a7)
  rw [← hG0]
  clear hG0
  have m1 := markMesh_d (frz := frz) (k := k) h1 d1 (by omega) (fun i hi => hf i (in1 i hi))
  simp only [dMesh_val] at m1
  try simp [VM.look, b0, ones]
  refine wp_thn m1 ?_
  rintro _ G1 ⟨n1, a1', rfl, hn1, hv1, o1, c1, he1⟩
  clear m1
  have b0 := box_chg b0 c1 (fun hh => by have := lt1 _ hh; omega)
  have h2 := Dt.chg (T := dClasses) h2 c1 z2_1
  have h3 := Dt.chg (T := dSS) h3 c1 z3_1
  have h4 := Dt.chg (T := dIntS) h4 c1 z4_1
  have h5 := Dt.chg (T := dIntS) h5 c1 z5_1
  have h6 := Dt.chg (T := dSS) h6 c1 z6_1
  have h7 := Dt.chg (T := dSS) h7 c1 z7_1
  have cH := cH.trans (c1.mono in1)
  have m2 := markClasses_d (frz := frz) (k := k + n1) h2 d2 (by omega) (fun i hi => hf i (in2 i hi))
  simp only [dClasses_val] at m2
  simp [VM.look, b0, ones]
  refine wp_thn m2 ?_
  rintro _ G2 ⟨n2, a2', rfl, hn2, hv2, o2, c2, he2⟩
  clear m2
  have b0 := box_chg b0 c2 (fun hh => by have := lt2 _ hh; omega)
  have o1 := Dt.chg (T := dMesh) o1 c2 z1_2
  have h3 := Dt.chg (T := dSS) h3 c2 z3_2
  have h4 := Dt.chg (T := dIntS) h4 c2 z4_2
  have h5 := Dt.chg (T := dIntS) h5 c2 z5_2
  have h6 := Dt.chg (T := dSS) h6 c2 z6_2
  have h7 := Dt.chg (T := dSS) h7 c2 z7_2
  have cH := cH.trans (c2.mono in2)
  have m3 := markFlitSS_d (frz := frz) (k := k + n1 + n2) h3 d3 (by omega) (fun i hi => hf i (in3 i hi))
  simp [VM.look, b0, ones]
  refine wp_thn m3 ?_
  rintro _ G3 ⟨n3, a3', rfl, hn3, hv3, o3, c3, he3⟩
  clear m3
  have b0 := box_chg b0 c3 (fun hh => by have := lt3 _ hh; omega)
  have o1 := Dt.chg (T := dMesh) o1 c3 z1_3
  have o2 := Dt.chg (T := dClasses) o2 c3 z2_3
  have h4 := Dt.chg (T := dIntS) h4 c3 z4_3
  have h5 := Dt.chg (T := dIntS) h5 c3 z5_3
  have h6 := Dt.chg (T := dSS) h6 c3 z6_3
  have h7 := Dt.chg (T := dSS) h7 c3 z7_3
  have cH := cH.trans (c3.mono in3)
  have m4 := markIntS_d (frz := frz) (k := k + n1 + n2 + n3) h4 d4 (by omega) (fun i hi => hf i (in4 i hi))
  simp [VM.look, b0, ones]
  refine wp_thn m4 ?_
  rintro _ G4 ⟨n4, a4', rfl, hn4, hv4, o4, c4, he4⟩
  clear m4
  have b0 := box_chg b0 c4 (fun hh => by have := lt4 _ hh; omega)
  have o1 := Dt.chg (T := dMesh) o1 c4 z1_4
  have o2 := Dt.chg (T := dClasses) o2 c4 z2_4
  have o3 := Dt.chg (T := dSS) o3 c4 z3_4
  have h5 := Dt.chg (T := dIntS) h5 c4 z5_4
  have h6 := Dt.chg (T := dSS) h6 c4 z6_4
  have h7 := Dt.chg (T := dSS) h7 c4 z7_4
  have cH := cH.trans (c4.mono in4)
  have m5 := markIntS_d (frz := frz) (k := k + n1 + n2 + n3 + n4) h5 d5 (by omega) (fun i hi => hf i (in5 i hi))
  simp [VM.look, b0, ones]
  refine wp_thn m5 ?_
  rintro _ G5 ⟨n5, a5', rfl, hn5, hv5, o5, c5, he5⟩
  clear m5
  have b0 := box_chg b0 c5 (fun hh => by have := lt5 _ hh; omega)
  have o1 := Dt.chg (T := dMesh) o1 c5 z1_5
  have o2 := Dt.chg (T := dClasses) o2 c5 z2_5
  have o3 := Dt.chg (T := dSS) o3 c5 z3_5
  have o4 := Dt.chg (T := dIntS) o4 c5 z4_5
  have h6 := Dt.chg (T := dSS) h6 c5 z6_5
  have h7 := Dt.chg (T := dSS) h7 c5 z7_5
  have cH := cH.trans (c5.mono in5)
  have m6 := markFlitSS_d (frz := frz) (k := k + n1 + n2 + n3 + n4 + n5) h6 d6 (by omega) (fun i hi => hf i (in6 i hi))
  simp [VM.look, b0, ones]
  refine wp_thn m6 ?_
  rintro _ G6 ⟨n6, a6', rfl, hn6, hv6, o6, c6, he6⟩
  clear m6
  have b0 := box_chg b0 c6 (fun hh => by have := lt6 _ hh; omega)
  have o1 := Dt.chg (T := dMesh) o1 c6 z1_6
  have o2 := Dt.chg (T := dClasses) o2 c6 z2_6
  have o3 := Dt.chg (T := dSS) o3 c6 z3_6
  have o4 := Dt.chg (T := dIntS) o4 c6 z4_6
  have o5 := Dt.chg (T := dIntS) o5 c6 z5_6
  have h7 := Dt.chg (T := dSS) h7 c6 z7_6
  have cH := cH.trans (c6.mono in6)
  have m7 := markFlitSS_d (frz := frz) (k := k + n1 + n2 + n3 + n4 + n5 + n6) h7 d7 (by omega) (fun i hi => hf i (in7 i hi))
  simp [VM.look, b0, ones]
  refine wp_thn m7 ?_
  rintro _ G7 ⟨n7, a7', rfl, hn7, hv7, o7, c7, he7⟩
  clear m7
  have b0 := box_chg b0 c7 (fun hh => by have := lt7 _ hh; omega)
  have o1 := Dt.chg (T := dMesh) o1 c7 z1_7
  have o2 := Dt.chg (T := dClasses) o2 c7 z2_7
  have o3 := Dt.chg (T := dSS) o3 c7 z3_7
  have o4 := Dt.chg (T := dIntS) o4 c7 z4_7
  have o5 := Dt.chg (T := dIntS) o5 c7 z5_7
  have o6 := Dt.chg (T := dSS) o6 c7 z6_7
  have cH := cH.trans (c7.mono in7)
  try simp
  obtain ⟨e1, e2⟩ : a1'.1 = w ∧ a1'.2.1 = g := by simpa [dMesh_val] using hv1
  refine ⟨n1 + n2 + n3 + n4 + n5 + n6 + n7, (a1', a2', a3', a4', a5', a6', a7', tm), by congr 1; omega, by omega, by rw [dNet_val, dNet_val]; simp [e1, e2], ⟨o1, o2, o3, o4, o5, o6, o7, trivial⟩, cH, fun F H3 q => ?_⟩
  obtain ⟨p1, p2, p3, p4, p5, p6, p7, _⟩ := q
  simp only at p1 p2 p3 p4 p5 p6 p7
  rw [dNet_val]
  simp only [e1, e2]
  rw [vcall_go (fn := Tryz.f22) Tryz.func22 rfl (by kernel_rfl) rfl]
  have y1 := fun F => he1 F (H3 ++ [⟨[.int .i64 w, .int .i64 g, v1, v2.1, v2.2, v3.1, v4, v5, v6.1, v7.1, .int .i64 tm], 0, 46⟩]) (Dt.app (T := dMesh) p1)
  simp only [dMesh_val, e1, e2] at y1
  have f1 : ¬ k + n1 < 0 := by omega
  have y2 := fun F => he2 F (H3 ++ [⟨[.int .i64 w, .int .i64 g, v1, v2.1, v2.2, v3.1, v4, v5, v6.1, v7.1, .int .i64 tm], 0, 46⟩]) (Dt.app (T := dClasses) p2)
  simp only [dClasses_val] at y2
  have f2 : ¬ k + n1 + n2 < 0 := by omega
  have y3 := fun F => he3 F (H3 ++ [⟨[.int .i64 w, .int .i64 g, v1, v2.1, v2.2, v3.1, v4, v5, v6.1, v7.1, .int .i64 tm], 0, 46⟩]) (Dt.app (T := dSS) p3)
  simp only [show ∀ (v : SSV) (a : SSD), dSS.val v a = v.1 from fun _ _ => rfl] at y3
  have f3 : ¬ k + n1 + n2 + n3 < 0 := by omega
  have y4 := fun F => he4 F (H3 ++ [⟨[.int .i64 w, .int .i64 g, v1, v2.1, v2.2, v3.1, v4, v5, v6.1, v7.1, .int .i64 tm], 0, 46⟩]) (Dt.app (T := dIntS) p4)
  simp only [dIntS_val] at y4
  have f4 : ¬ k + n1 + n2 + n3 + n4 < 0 := by omega
  have y5 := fun F => he5 F (H3 ++ [⟨[.int .i64 w, .int .i64 g, v1, v2.1, v2.2, v3.1, v4, v5, v6.1, v7.1, .int .i64 tm], 0, 46⟩]) (Dt.app (T := dIntS) p5)
  simp only [dIntS_val] at y5
  have f5 : ¬ k + n1 + n2 + n3 + n4 + n5 < 0 := by omega
  have y6 := fun F => he6 F (H3 ++ [⟨[.int .i64 w, .int .i64 g, v1, v2.1, v2.2, v3.1, v4, v5, v6.1, v7.1, .int .i64 tm], 0, 46⟩]) (Dt.app (T := dSS) p6)
  simp only [show ∀ (v : SSV) (a : SSD), dSS.val v a = v.1 from fun _ _ => rfl] at y6
  have f6 : ¬ k + n1 + n2 + n3 + n4 + n5 + n6 < 0 := by omega
  have y7 := fun F => he7 F (H3 ++ [⟨[.int .i64 w, .int .i64 g, v1, v2.1, v2.2, v3.1, v4, v5, v6.1, v7.1, .int .i64 tm], 0, 46⟩]) (Dt.app (T := dSS) p7)
  simp only [show ∀ (v : SSV) (a : SSD), dSS.val v a = v.1 from fun _ _ => rfl] at y7
  have f7 : ¬ k + n1 + n2 + n3 + n4 + n5 + n6 + n7 < 0 := by omega
  simp [ones, y1, f1]
  simp [ones, y2, f2]
  simp [ones, y3, f3]
  simp [ones, y4, f4]
  simp [ones, y5, f5]
  simp [ones, y6, f6]
  simp [ones, y7, f7]
  omega
end Go.Proofs.YtcigpclbhfkgaaaGreat.V
/-! Copies of networks. -/
set_option linter.all false
namespace Go.Proofs.YtcigpclbhfkgaaaGreat.V
open Go Go.VM Go.Proofs
set_option maxRecDepth 10000
variable {frz : Nat} {H : Heap}
/-- append([]T{}, xs...) in one region -/
theorem copy_ints (v : Value) (xs : List Int) (hI : Rd Fl.int H v xs) (hl : xs.length ≤ 1073741824) : ∃ r L, vappend Tryz.prog frz H 24 24 (.slice none 0 0) v = some (r, H ++ L) ∧ dIntS.Ow (H ++ L) r xs ∧ (∀ i ∈ ids r, H.length ≤ i) := by
  have hs := hI.src
  simp only [Fl.int_n] at hs
  by_cases h0 : xs = []
  · subst h0
    refine ⟨.slice none 0 0, [], ?_, ⟨.inl ⟨rfl, rfl⟩, by simp⟩, by simp⟩
    simp [hs]
  · refine ⟨.slice (some ⟨H.length, 0, some 0⟩) xs.length 0, [⟨cellsOf Fl.int xs, 0, 3⟩], ?_, ⟨Ow.new0 rfl rfl (ones_ints xs) rfl, hl⟩, by simp⟩
    have : xs.length ≠ 0 := fun hh => h0 (List.length_eq_zero_iff.1 hh)
    simp [hs, h0, hl, ones_ints]
theorem copy_flits (v : Value) (xs : List FlitD) (hI : Rd flF H v xs) (hl : xs.length ≤ 1073741824) : ∃ r L, vappend Tryz.prog frz H 113 113 (.slice none 0 0) v = some (r, H ++ L) ∧ Ow flF 157 (H ++ L) r xs ∧ (∀ i ∈ ids r, H.length ≤ i) := by
  have hs := hI.src
  simp only [flF_n] at hs
  by_cases h0 : xs = []
  · subst h0
    refine ⟨.slice none 0 0, [], ?_, .inl ⟨rfl, rfl⟩, by simp⟩
    simp [hs]
  · refine ⟨.slice (some ⟨H.length, 0, some 0⟩) xs.length 0, [⟨cellsOf flF xs, 0, 157⟩], ?_, Ow.new0 rfl rfl (ones_flF xs) rfl, by simp⟩
    have : xs.length ≠ 0 := fun hh => h0 (List.length_eq_zero_iff.1 hh)
    simp [hs, h0, hl, ones_flF]
theorem copyLists_w (v : Value) (hs : List Value) (xss : SSD) (hI : RdL flF H v hs xss) (hb : xss.length ≤ 2097152) (hb2 : ∀ xs ∈ xss, xs.length ≤ 67108864) :
   wp (vcall C frz 114 [v] H) (dSS.Made H xss) := by
  rw [vcall_go (fn := Tryz.f114) Tryz.func114 rfl (by kernel_rfl) rfl]
  have hl := hI.2.1
  simp [(hI.app).1.len (P := Tryz.prog) (ty := 44) (by simp), hl]
  refine wp_inv (fun n t H' => ∃ (i : Nat) (out : Value) (gs : List Value), n = xss.length - i ∧ i ≤ xss.length ∧ t 7 = v ∧ t 8 = .int .i64 xss.length ∧ t 9 = .int .i64 i ∧ t 3 = out ∧ gs.length = i ∧ Ow Fl.val 113 H' out gs ∧ Chg H H' [] ∧
    (∀ (j : Nat) (a : Value) (xs : List FlitD), gs[j]? = some a → xss[j]? = some xs → Ow flF 157 H' a xs) ∧ (∀ x ∈ idsL out gs, H.length ≤ x ∧ x < H'.length) ∧ (idsL out gs).Nodup) ?_ (n := xss.length)
    ⟨0, .slice (some ⟨H.length, 0, some 0⟩) 0 0, [], rfl, by omega, by simp, by simp, by simp, by simp, rfl, Ow.new0 (D := Fl.val) (xs := []) rfl rfl rfl rfl, Chg.app _, by simp, by simp [idsL], by simp [idsL]⟩
  rintro n t H' ⟨i, out, gs, rfl, hi, t7, t8, t9, t3, hgl, o, c, hin, hids, hnd⟩ ih
  have rd := hI.chg c (by simp)
  have l0 := c.1
  simp [t7, t8, t9, t3, rd.1.len (P := Tryz.prog) (ty := 44) (by simp), hl]
  refine wp_dec ?_ ?_ <;> intro h
  · have h' : i < xss.length := by omega
    obtain ⟨u, a1, a2, a3, a4⟩ := RdL_at rd (ty := 44) (e := 113) (by simp) (by simp) h'
    have hm := hb2 _ (List.getElem_mem h')
    have a2' : vindexAddr Tryz.prog (H' ++ [⟨[], 0, 157⟩]) 44 v (.int .i64 i) = some (elp v i) := by
      obtain ⟨_, _, q, _, _⟩ := RdL_at (rd.app (L := [⟨[], 0, 157⟩])) (ty := 44) (e := 113) (by simp) (by simp) h'; exact q
    have a3' : vload Tryz.prog (H' ++ [⟨[], 0, 157⟩]) 113 (elp v i) = some u := by
      obtain ⟨u', q1, _, q, _⟩ := RdL_at (rd.app (L := [⟨[], 0, 157⟩])) (ty := 44) (e := 113) (by simp) (by simp) h'
      rw [a1] at q1; cases q1; exact q
    have o0 : Ow flF 157 (H' ++ [⟨[], 0, 157⟩]) (.slice (some ⟨H'.length, 0, some 0⟩) 0 0) [] := Ow.new0 (D := flF) (xs := []) rfl rfl rfl rfl
    obtain ⟨r, H2, hap, or_, c1, n1⟩ := o0.append (P := Tryz.prog) (frz := H.length) (ty := 113) (a4.app (L := [⟨[], 0, 157⟩])) (by simp) (ones_flF _) (by simp; omega) (by simp; omega)
    rw [List.nil_append] at or_
    have l1 := c1.1
    simp at l1
    have cc1 : Chg H' H2 [] := (Chg.app []).trans' c1 (fun x hx => .inr (by simp at hx; omega))
    have nr : ∀ x ∈ ids r, H'.length ≤ x := fun x hx => by
      rcases n1 x hx with h1 | h1
      · simp at h1; omega
      · simp at h1; omega
    have oo := o.chg cc1 (by simp)
    have hout : ∀ x ∈ ids out, H.length ≤ x ∧ x < H'.length := fun x hx => hids x (List.mem_append.2 (.inl hx))
    obtain ⟨out', H4, hap2, o4, c4, n4⟩ := oo.push (P := Tryz.prog) (frz := H.length) (ty := 44) (a := r) (by simp) (by simp [or_.rd.one']) (by omega) (fun x hx => (hout x hx).1)
    simp only [Fl.val_f] at hap2
    have l4 := c4.1
    have one := And.intro or_.rd.one' or_.rd.cells
    have rlt := or_.lt
    have o4lt := o4.lt
    simp [-vappend_mk, t7, t8, t9, t3, a2, a3, a2', a3', hap, hap2, one]
    refine ih (xss.length - (i + 1)) _ _ ⟨i + 1, out', gs ++ [r], rfl, by omega, by simp [t7], by simp [t8], ?_, by simp, by simp [hgl], o4, (c.trans cc1).trans' c4 (fun x hx => .inr (hout x hx).1), fun j a xs ha hx => ?_, fun x hx => ?_, ?_⟩ (by omega)
    · simp; rw [w64 (by omega) (by omega)]
    · by_cases hj : j < gs.length
      · rw [List.getElem?_append_left hj] at ha
        refine ((hin j a xs ha hx).chg cc1 (by simp)).chg c4 (fun y hy hh => ?_)
        exact (List.nodup_append.1 hnd).2.2 y hh y (List.mem_flatMap.2 ⟨a, List.mem_of_getElem? ha, hy⟩) rfl
      · rw [List.getElem?_append_right (by omega)] at ha
        have hj2 := (List.getElem?_eq_some_iff.1 ha).1
        simp at hj2
        have : j = i := by omega
        subst this
        rw [show j - gs.length = 0 by omega] at ha
        simp at ha
        subst ha
        rw [List.getElem?_eq_getElem h'] at hx
        cases hx
        exact or_.chg c4 (fun y hy hh => by have := nr y hy; have := (hout y hh).2; omega)
    · rcases List.mem_append.1 hx with hx | hx
      · have h2 := o4lt x hx
        rcases n4 x hx with h1 | h1
        · exact ⟨(hout x h1).1, h2⟩
        · exact ⟨by omega, h2⟩
      · rw [List.flatMap_append] at hx
        rcases List.mem_append.1 hx with hx | hx
        · have := hids x (List.mem_append.2 (.inr hx)); omega
        · simp at hx
          have := nr x hx; have := rlt x hx; omega
    · obtain ⟨d1, d2, d3⟩ := List.nodup_append.1 hnd
      have hgl2 : ∀ x ∈ gs.flatMap ids, x < H'.length := fun x hx => (hids x (List.mem_append.2 (.inr hx))).2
      refine List.nodup_append.2 ⟨ids_nodup _, ?_, fun a ha b hb e => ?_⟩
      · rw [List.flatMap_append]
        exact nd_app d2 (by simpa using ids_nodup r) (n := H'.length) hgl2 (fun x hx => by simp at hx; exact nr x hx)
      · subst e
        rw [List.flatMap_append] at hb
        rcases n4 a ha with h1 | h1
        · rcases List.mem_append.1 hb with hb | hb
          · exact d3 a h1 a hb rfl
          · simp at hb
            have := nr a hb; have := (hout a h1).2; omega
        · rcases List.mem_append.1 hb with hb | hb
          · have := hgl2 a hb; omega
          · simp at hb
            have := rlt a hb; omega
  · have : i = xss.length := by omega
    subst this
    simp [t7, t8, t9, t3]
    exact ⟨(out, gs), rfl, ⟨⟨o, hgl, hin⟩, hb, hb2⟩, c, fun x hx => (hids x hx).1, hnd⟩
theorem l15Lists_w (v : Value) (hs : List Value) (xss : SSD) (hI : RdL flF H v hs xss) (hb : xss.length ≤ 2097152) (hb2 : ∀ xs ∈ xss, xs.length ≤ 67108864) :
   wp (vcall C frz 98 [v] H) (dSS.Made H xss) := by
  rw [vcall_go (fn := Tryz.f98) Tryz.func98 rfl (by kernel_rfl) rfl]
  have hl := hI.2.1
  simp [(hI.app).1.len (P := Tryz.prog) (ty := 44) (by simp), hl]
  refine wp_inv (fun n t H' => ∃ (i : Nat) (out : Value) (gs : List Value), n = xss.length - i ∧ i ≤ xss.length ∧ t 0 = v ∧ t 4 = .int .i64 i ∧ t 3 = out ∧ gs.length = i ∧ Ow Fl.val 113 H' out gs ∧ Chg H H' [] ∧
    (∀ (j : Nat) (a : Value) (xs : List FlitD), gs[j]? = some a → xss[j]? = some xs → Ow flF 157 H' a xs) ∧ (∀ x ∈ idsL out gs, H.length ≤ x ∧ x < H'.length) ∧ (idsL out gs).Nodup) ?_ (n := xss.length)
    ⟨0, .slice (some ⟨H.length, 0, some 0⟩) 0 0, [], rfl, by omega, by simp, by simp, by simp, rfl, Ow.new0 (D := Fl.val) (xs := []) rfl rfl rfl rfl, Chg.app _, by simp, by simp [idsL], by simp [idsL]⟩
  rintro n t H' ⟨i, out, gs, rfl, hi, t0, t4, t3, hgl, o, c, hin, hids, hnd⟩ ih
  have rd := hI.chg c (by simp)
  have l0 := c.1
  simp [t0, t4, t3, rd.1.len (P := Tryz.prog) (ty := 44) (by simp), hl]
  refine wp_dec ?_ ?_ <;> intro h
  · have h' : i < xss.length := by omega
    obtain ⟨u, a1, a2, a3, a4⟩ := RdL_at rd (ty := 44) (e := 113) (by simp) (by simp) h'
    have hm := hb2 _ (List.getElem_mem h')
    have a2' : vindexAddr Tryz.prog (H' ++ [⟨[], 0, 157⟩]) 44 v (.int .i64 i) = some (elp v i) := by
      obtain ⟨_, _, q, _, _⟩ := RdL_at (rd.app (L := [⟨[], 0, 157⟩])) (ty := 44) (e := 113) (by simp) (by simp) h'; exact q
    have a3' : vload Tryz.prog (H' ++ [⟨[], 0, 157⟩]) 113 (elp v i) = some u := by
      obtain ⟨u', q1, _, q, _⟩ := RdL_at (rd.app (L := [⟨[], 0, 157⟩])) (ty := 44) (e := 113) (by simp) (by simp) h'
      rw [a1] at q1; cases q1; exact q
    have o0 : Ow flF 157 (H' ++ [⟨[], 0, 157⟩]) (.slice (some ⟨H'.length, 0, some 0⟩) 0 0) [] := Ow.new0 (D := flF) (xs := []) rfl rfl rfl rfl
    obtain ⟨r, H2, hap, or_, c1, n1⟩ := o0.append (P := Tryz.prog) (frz := H.length) (ty := 113) (a4.app (L := [⟨[], 0, 157⟩])) (by simp) (ones_flF _) (by simp; omega) (by simp; omega)
    rw [List.nil_append] at or_
    have l1 := c1.1
    simp at l1
    have cc1 : Chg H' H2 [] := (Chg.app []).trans' c1 (fun x hx => .inr (by simp at hx; omega))
    have nr : ∀ x ∈ ids r, H'.length ≤ x := fun x hx => by
      rcases n1 x hx with h1 | h1
      · simp at h1; omega
      · simp at h1; omega
    have oo := o.chg cc1 (by simp)
    have hout : ∀ x ∈ ids out, H.length ≤ x ∧ x < H'.length := fun x hx => hids x (List.mem_append.2 (.inl hx))
    obtain ⟨out', H4, hap2, o4, c4, n4⟩ := oo.push (P := Tryz.prog) (frz := H.length) (ty := 44) (a := r) (by simp) (by simp [or_.rd.one']) (by omega) (fun x hx => (hout x hx).1)
    simp only [Fl.val_f] at hap2
    have l4 := c4.1
    have one := And.intro or_.rd.one' or_.rd.cells
    have rlt := or_.lt
    have o4lt := o4.lt
    simp [-vappend_mk, t0, t4, t3, a2, a3, a2', a3', hap, hap2, one]
    refine ih (xss.length - (i + 1)) _ _ ⟨i + 1, out', gs ++ [r], rfl, by omega, by simp [t0], ?_, by simp, by simp [hgl], o4, (c.trans cc1).trans' c4 (fun x hx => .inr (hout x hx).1), fun j a xs ha hx => ?_, fun x hx => ?_, ?_⟩ (by omega)
    · simp; rw [w64 (by omega) (by omega)]
    · by_cases hj : j < gs.length
      · rw [List.getElem?_append_left hj] at ha
        refine ((hin j a xs ha hx).chg cc1 (by simp)).chg c4 (fun y hy hh => ?_)
        exact (List.nodup_append.1 hnd).2.2 y hh y (List.mem_flatMap.2 ⟨a, List.mem_of_getElem? ha, hy⟩) rfl
      · rw [List.getElem?_append_right (by omega)] at ha
        have hj2 := (List.getElem?_eq_some_iff.1 ha).1
        simp at hj2
        have : j = i := by omega
        subst this
        rw [show j - gs.length = 0 by omega] at ha
        simp at ha
        subst ha
        rw [List.getElem?_eq_getElem h'] at hx
        cases hx
        exact or_.chg c4 (fun y hy hh => by have := nr y hy; have := (hout y hh).2; omega)
    · rcases List.mem_append.1 hx with hx | hx
      · have h2 := o4lt x hx
        rcases n4 x hx with h1 | h1
        · exact ⟨(hout x h1).1, h2⟩
        · exact ⟨by omega, h2⟩
      · rw [List.flatMap_append] at hx
        rcases List.mem_append.1 hx with hx | hx
        · have := hids x (List.mem_append.2 (.inr hx)); omega
        · simp at hx
          have := nr x hx; have := rlt x hx; omega
    · obtain ⟨d1, d2, d3⟩ := List.nodup_append.1 hnd
      have hgl2 : ∀ x ∈ gs.flatMap ids, x < H'.length := fun x hx => (hids x (List.mem_append.2 (.inr hx))).2
      refine List.nodup_append.2 ⟨ids_nodup _, ?_, fun a ha b hb e => ?_⟩
      · rw [List.flatMap_append]
        exact nd_app d2 (by simpa using ids_nodup r) (n := H'.length) hgl2 (fun x hx => by simp at hx; exact nr x hx)
      · subst e
        rw [List.flatMap_append] at hb
        rcases n4 a ha with h1 | h1
        · rcases List.mem_append.1 hb with hb | hb
          · exact d3 a h1 a hb rfl
          · simp at hb
            have := nr a hb; have := (hout a h1).2; omega
        · rcases List.mem_append.1 hb with hb | hb
          · have := hgl2 a hb; omega
          · simp at hb
            have := rlt a hb; omega
  · have : i = xss.length := by omega
    subst this
    simp [t0, t4, t3]
    exact ⟨(out, gs), rfl, ⟨⟨o, hgl, hin⟩, hb, hb2⟩, c, fun x hx => (hids x hx).1, hnd⟩
end Go.Proofs.YtcigpclbhfkgaaaGreat.V
/-! Copies of networks: the whole. -/
set_option linter.all false
namespace Go.Proofs.YtcigpclbhfkgaaaGreat.V
open Go Go.VM Go.Proofs
set_option maxRecDepth 10000
variable {frz : Nat} {H : Heap}
theorem copyClasses_w (v1 v2 : Value) (A B : List Int) (h1 : IsI H v1 A) (h2 : IsI H v2 B) (l1 : A.length ≤ 1073741824) (l2 : B.length ≤ 1073741824) :
   wp (vcall C frz 113 [.agg #[v1, v2]] H) (dClasses.Made H (A, B)) := by
  rw [vcall_go (fn := Tryz.f113) Tryz.func113 rfl (by kernel_rfl) rfl]
  have one := And.intro (And.intro h1.one' h1.cells) (And.intro h2.one' h2.cells)
  simp [one]
  try rw [go_draw (h := by kernel_rfl)]
  simp [one]
  refine wp_thn (copyTable_w v1 A (h1.app _) l1) ?_
  rintro _ H1 ⟨u1, rfl, o1, c1, n1, d1⟩
  have b0 : H1[H.length]? = some ⟨[v1, v2], 0, 43⟩ := box_chg (by simp) c1 (by simp)
  have bR : H1[H.length + 1]? = some ⟨[.slice none 0 0, .slice none 0 0], 0, 43⟩ := box_chg (by simp) c1 (by simp)
  have cH1 : Chg H H1 [] := (Chg.app []).trans c1
  have lc := c1.1
  simp at n1 lc
  have onu := dTable_one o1
  have lt1 := dTable.lt o1
  simp [dTable_val, VM.look, b0, one]
  refine wp_thn (copyTable_w v2 B (Rd.isI (h2.rd.chg cH1 (by simp))) l2) ?_
  rintro _ H2 ⟨u2, rfl, o2, c2, n2, d2⟩
  have bR := box_chg bR c2 (by simp)
  have o1 := Dt.chg0 (T := dTable) o1 c2
  have onu2 := dTable_one o2
  have gR := set_get (r' := ⟨[u1, u2], 0, 43⟩) bR
  have hF : H.length ≤ H.length + 1 := by omega
  have eR : Chg H2 (H2.set (H.length + 1) ⟨[u1, u2], 0, 43⟩) [H.length + 1] := chg_set _ _
  simp [dTable_val, VM.look, bR, onu, onu2, gR, hF]
  refine ⟨(u1, u2), rfl, ⟨Dt.chg (T := dTable) o1 eR (fun i hi hh => by have := n1 i hi; simp at hh; omega), Dt.chg (T := dTable) o2 eR (fun i hi hh => by have := n2 i hi; simp at hh; omega)⟩, (cH1.trans c2).trans' eR (fun i hi => .inr (by simp at hi; omega)), fun i hi => ?_, ?_⟩
  · rcases List.mem_append.1 hi with hi | hi
    · have := n1 i hi; omega
    · have := n2 i hi; omega
  · exact List.nodup_append.2 ⟨d1, d2, fun a ha b hb e => by have := lt1 a ha; have := n2 b hb; omega⟩
theorem l15Classes_w (v1 v2 : Value) (A B : List Int) (h1 : IsI H v1 A) (h2 : IsI H v2 B) (l1 : A.length ≤ 1073741824) (l2 : B.length ≤ 1073741824) :
   wp (vcall C frz 97 [.agg #[v1, v2]] H) (dClasses.Made H (A, B)) := by
  rw [vcall_go (fn := Tryz.f97) Tryz.func97 rfl (by kernel_rfl) rfl]
  have one := And.intro (And.intro h1.one' h1.cells) (And.intro h2.one' h2.cells)
  simp [one]
  try rw [go_draw (h := by kernel_rfl)]
  simp [one]
  refine wp_thn (l12Copy_w v1 A (h1.app _) l1) ?_
  rintro _ H1 ⟨u1, rfl, o1, c1, n1, d1⟩
  have b0 : H1[H.length]? = some ⟨[v1, v2], 0, 43⟩ := box_chg (by simp) c1 (by simp)
  have bR : H1[H.length + 1]? = some ⟨[.slice none 0 0, .slice none 0 0], 0, 43⟩ := box_chg (by simp) c1 (by simp)
  have cH1 : Chg H H1 [] := (Chg.app []).trans c1
  have lc := c1.1
  simp at n1 lc
  have onu := dTable_one o1
  have lt1 := dTable.lt o1
  simp [dTable_val, VM.look, b0, one]
  refine wp_thn (l12Copy_w v2 B (Rd.isI (h2.rd.chg cH1 (by simp))) l2) ?_
  rintro _ H2 ⟨u2, rfl, o2, c2, n2, d2⟩
  have bR := box_chg bR c2 (by simp)
  have o1 := Dt.chg0 (T := dTable) o1 c2
  have onu2 := dTable_one o2
  have gR := set_get (r' := ⟨[u1, u2], 0, 43⟩) bR
  have hF : H.length ≤ H.length + 1 := by omega
  have eR : Chg H2 (H2.set (H.length + 1) ⟨[u1, u2], 0, 43⟩) [H.length + 1] := chg_set _ _
  simp [dTable_val, VM.look, bR, onu, onu2, gR, hF]
  refine ⟨(u1, u2), rfl, ⟨Dt.chg (T := dTable) o1 eR (fun i hi hh => by have := n1 i hi; simp at hh; omega), Dt.chg (T := dTable) o2 eR (fun i hi hh => by have := n2 i hi; simp at hh; omega)⟩, (cH1.trans c2).trans' eR (fun i hi => .inr (by simp at hi; omega)), fun i hi => ?_, ?_⟩
  · rcases List.mem_append.1 hi with hi | hi
    · have := n1 i hi; omega
    · have := n2 i hi; omega
  · exact List.nodup_append.2 ⟨d1, d2, fun a ha b hb e => by have := lt1 a ha; have := n2 b hb; omega⟩
theorem copyNet_d {v : NetV} {x : NetD} (o : dNet.Ow H v x) : wp (vcall C frz 55 [dNet.val v x] H) (dNet.Made H x) := by
  have ones := dNet_one o
  obtain ⟨u2, ⟨u3, u4⟩, ⟨u5, h5⟩, u6, u7, ⟨u8, h8⟩, ⟨u9, h9⟩, _⟩ := v
  obtain ⟨⟨w, h, b⟩, ⟨A, B⟩, buf, own, turn, src, arr, tm⟩ := x
  obtain ⟨y1, y2, y3, y4, y5, y6, y7, _⟩ := o
  simp only at y1 y2 y3 y4 y5 y6 y7 ones
  rw [dNet_val]
  rw [vcall_go (fn := Tryz.f55) Tryz.func55 rfl (by kernel_rfl) rfl]
  have hF : H.length ≤ H.length + 1 := by omega
  simp [ones]
  rw [go_drawE (h := ⟨by kernel_rfl, by kernel_rfl⟩)]
  obtain ⟨G0, hG0⟩ : ∃ G, G = H ++ [⟨[.int .i64 w, .int .i64 h, u2, u3, u4, u5, u6, u7, u8, u9, .int .i64 tm], 0, 46⟩, ⟨[.int .i64 0, .int .i64 0, .slice none 0 0, .slice none 0 0, .slice none 0 0, .slice none 0 0, .slice none 0 0, .slice none 0 0, .slice none 0 0, .slice none 0 0, .int .i64 0], 0, 46⟩] := ⟨_, rfl⟩
  have b0 : G0[H.length]? = some ⟨[.int .i64 w, .int .i64 h, u2, u3, u4, u5, u6, u7, u8, u9, .int .i64 tm], 0, 46⟩ := by rw [hG0]; simp
  have bR : G0[H.length + 1]? = some ⟨[.int .i64 0, .int .i64 0, .slice none 0 0, .slice none 0 0, .slice none 0 0, .slice none 0 0, .slice none 0 0, .slice none 0 0, .slice none 0 0, .slice none 0 0, .int .i64 0], 0, 46⟩ := by rw [hG0]; simp
  have cH : Chg H G0 [] := by rw [hG0]; exact Chg.app []
  have lH : H.length + 2 ≤ G0.length := by rw [hG0]; simp
  rw [← hG0]
  clear hG0
  have z1 : dMesh.Ow G0 u2 (w, h, b) := Dt.chg0 y1 cH
  have z2 : dClasses.Ow G0 (u3, u4) (A, B) := Dt.chg0 y2 cH
  have z3 : dSS.Ow G0 (u5, h5) buf := Dt.chg0 y3 cH
  have z4 : dIntS.Ow G0 u6 own := Dt.chg0 y4 cH
  have z5 : dIntS.Ow G0 u7 turn := Dt.chg0 y5 cH
  have z6 : dSS.Ow G0 (u8, h8) src := Dt.chg0 y6 cH
  have z7 : dSS.Ow G0 (u9, h9) arr := Dt.chg0 y7 cH
  clear y1 y2 y3 y4 y5 y6 y7
  simp [emps, empOp, empB, VM.look, b0, ones]
  refine wp_thn (copyMesh_w w h u2 b z1.1.rd.isI z1.2) ?_
  rintro _ G1 ⟨n1, rfl, o1, c1, m1, d1⟩
  have q1 := dMesh_one o1
  have lt1 := dMesh.lt o1
  have lc1 := c1.1
  have b0 := box_chg b0 c1 (by simp)
  have bR := box_chg bR c1 (by simp)
  have cH := cH.trans c1
  have z2 := Dt.chg0 (T := dClasses) z2 c1
  have z3 := Dt.chg0 (T := dSS) z3 c1
  have z4 := Dt.chg0 (T := dIntS) z4 c1
  have z5 := Dt.chg0 (T := dIntS) z5 c1
  have z6 := Dt.chg0 (T := dSS) z6 c1
  have z7 := Dt.chg0 (T := dSS) z7 c1
  try simp [-vappend_nil, dMesh_val, VM.look, b0, ones]
  refine wp_thn (copyClasses_w u3 u4 A B z2.1.1.rd.isI z2.2.1.rd.isI z2.1.2 z2.2.2) ?_
  rintro _ G2 ⟨n2, rfl, o2, c2, m2, d2⟩
  have q2 := dClasses_one o2
  have lt2 := dClasses.lt o2
  have lc2 := c2.1
  have b0 := box_chg b0 c2 (by simp)
  have bR := box_chg bR c2 (by simp)
  have cH := cH.trans c2
  have z3 := Dt.chg0 (T := dSS) z3 c2
  have z4 := Dt.chg0 (T := dIntS) z4 c2
  have z5 := Dt.chg0 (T := dIntS) z5 c2
  have z6 := Dt.chg0 (T := dSS) z6 c2
  have z7 := Dt.chg0 (T := dSS) z7 c2
  have o1 := Dt.chg0 (T := dMesh) o1 c2
  try simp [-vappend_nil, dClasses_val, VM.look, b0, ones]
  refine wp_thn (copyLists_w u5 h5 buf z3.1.rd z3.2.1 z3.2.2) ?_
  rintro _ G3 ⟨n3, rfl, o3, c3, m3, d3⟩
  have q3 := dSS_one o3
  have lt3 := dSS.lt o3
  have lc3 := c3.1
  have b0 := box_chg b0 c3 (by simp)
  have bR := box_chg bR c3 (by simp)
  have cH := cH.trans c3
  have z4 := Dt.chg0 (T := dIntS) z4 c3
  have z5 := Dt.chg0 (T := dIntS) z5 c3
  have z6 := Dt.chg0 (T := dSS) z6 c3
  have z7 := Dt.chg0 (T := dSS) z7 c3
  have o1 := Dt.chg0 (T := dMesh) o1 c3
  have o2 := Dt.chg0 (T := dClasses) o2 c3
  try simp [-vappend_nil, show dSS.val n3 buf = n3.1 from rfl, VM.look, b0, ones]
  obtain ⟨n4, L4, hap4, o4, m4⟩ := copy_ints (frz := H.length) u6 own z4.1.rd z4.2
  have c4 : Chg G3 (G3 ++ L4) [] := Chg.app _
  have d4 := ids_nodup n4
  have q4 := dIntS_one o4
  simp [-vappend_nil, hap4, VM.look]
  generalize G3 ++ L4 = G4 at *
  have lt4 := dIntS.lt o4
  have lc4 := c4.1
  have b0 := box_chg b0 c4 (by simp)
  have bR := box_chg bR c4 (by simp)
  have cH := cH.trans c4
  have z5 := Dt.chg0 (T := dIntS) z5 c4
  have z6 := Dt.chg0 (T := dSS) z6 c4
  have z7 := Dt.chg0 (T := dSS) z7 c4
  have o1 := Dt.chg0 (T := dMesh) o1 c4
  have o2 := Dt.chg0 (T := dClasses) o2 c4
  have o3 := Dt.chg0 (T := dSS) o3 c4
  try simp [-vappend_nil, VM.look, b0, ones]
  obtain ⟨n5, L5, hap5, o5, m5⟩ := copy_ints (frz := H.length) u7 turn z5.1.rd z5.2
  have c5 : Chg G4 (G4 ++ L5) [] := Chg.app _
  have d5 := ids_nodup n5
  have q5 := dIntS_one o5
  simp [-vappend_nil, hap5, VM.look]
  generalize G4 ++ L5 = G5 at *
  have lt5 := dIntS.lt o5
  have lc5 := c5.1
  have b0 := box_chg b0 c5 (by simp)
  have bR := box_chg bR c5 (by simp)
  have cH := cH.trans c5
  have z6 := Dt.chg0 (T := dSS) z6 c5
  have z7 := Dt.chg0 (T := dSS) z7 c5
  have o1 := Dt.chg0 (T := dMesh) o1 c5
  have o2 := Dt.chg0 (T := dClasses) o2 c5
  have o3 := Dt.chg0 (T := dSS) o3 c5
  have o4 := Dt.chg0 (T := dIntS) o4 c5
  try simp [-vappend_nil, VM.look, b0, ones]
  refine wp_thn (copyLists_w u8 h8 src z6.1.rd z6.2.1 z6.2.2) ?_
  rintro _ G6 ⟨n6, rfl, o6, c6, m6, d6⟩
  have q6 := dSS_one o6
  have lt6 := dSS.lt o6
  have lc6 := c6.1
  have b0 := box_chg b0 c6 (by simp)
  have bR := box_chg bR c6 (by simp)
  have cH := cH.trans c6
  have z7 := Dt.chg0 (T := dSS) z7 c6
  have o1 := Dt.chg0 (T := dMesh) o1 c6
  have o2 := Dt.chg0 (T := dClasses) o2 c6
  have o3 := Dt.chg0 (T := dSS) o3 c6
  have o4 := Dt.chg0 (T := dIntS) o4 c6
  have o5 := Dt.chg0 (T := dIntS) o5 c6
  try simp [-vappend_nil, show dSS.val n6 src = n6.1 from rfl, VM.look, b0, ones]
  refine wp_thn (copyLists_w u9 h9 arr z7.1.rd z7.2.1 z7.2.2) ?_
  rintro _ G7 ⟨n7, rfl, o7, c7, m7, d7⟩
  have q7 := dSS_one o7
  have lt7 := dSS.lt o7
  have lc7 := c7.1
  have b0 := box_chg b0 c7 (by simp)
  have bR := box_chg bR c7 (by simp)
  have cH := cH.trans c7
  have o1 := Dt.chg0 (T := dMesh) o1 c7
  have o2 := Dt.chg0 (T := dClasses) o2 c7
  have o3 := Dt.chg0 (T := dSS) o3 c7
  have o4 := Dt.chg0 (T := dIntS) o4 c7
  have o5 := Dt.chg0 (T := dIntS) o5 c7
  have o6 := Dt.chg0 (T := dSS) o6 c7

  have gR := set_get (r' := ⟨[.int .i64 w, .int .i64 h, n1, n2.1, n2.2, n3.1, n4, n5, n6.1, n7.1, .int .i64 tm], 0, 46⟩) bR
  have eR : Chg G7 (G7.set (H.length + 1) ⟨[.int .i64 w, .int .i64 h, n1, n2.1, n2.2, n3.1, n4, n5, n6.1, n7.1, .int .i64 tm], 0, 46⟩) [H.length + 1] := chg_set _ _
  have o1 := Dt.chg (T := dMesh) o1 eR (fun i hi hh => by have := m1 i hi; simp at hh; omega)
  have o2 := Dt.chg (T := dClasses) o2 eR (fun i hi hh => by have := m2 i hi; simp at hh; omega)
  have o3 := Dt.chg (T := dSS) o3 eR (fun i hi hh => by have := m3 i hi; simp at hh; omega)
  have o4 := Dt.chg (T := dIntS) o4 eR (fun i hi hh => by have := m4 i hi; simp at hh; omega)
  have o5 := Dt.chg (T := dIntS) o5 eR (fun i hi hh => by have := m5 i hi; simp at hh; omega)
  have o6 := Dt.chg (T := dSS) o6 eR (fun i hi hh => by have := m6 i hi; simp at hh; omega)
  have o7 := Dt.chg (T := dSS) o7 eR (fun i hi hh => by have := m7 i hi; simp at hh; omega)
  have cH := cH.trans' eR (fun i hi => .inr (by simp at hi; omega))
  simp [show dSS.val n7 arr = n7.1 from rfl, VM.look, b0, bR, gR, hF, q1, q2, q3, q4, q5, q6, q7]
  refine ⟨(n1, n2, n3, n4, n5, n6, n7, ()), rfl, ⟨o1, o2, o3, o4, o5, o6, o7, trivial⟩, cH, fun i hi => ?_, ?_⟩
  · rcases List.mem_append.1 hi with hi | hi
    · have := m1 i hi; omega
    rcases List.mem_append.1 hi with hi | hi
    · have := m2 i hi; omega
    rcases List.mem_append.1 hi with hi | hi
    · have := m3 i hi; omega
    rcases List.mem_append.1 hi with hi | hi
    · have := m4 i hi; omega
    rcases List.mem_append.1 hi with hi | hi
    · have := m5 i hi; omega
    rcases List.mem_append.1 hi with hi | hi
    · have := m6 i hi; omega
    rcases List.mem_append.1 hi with hi | hi
    · have := m7 i hi; omega
    · simp [dNone] at hi
  · have z7 : (dSS.ids n7 ++ []).Nodup ∧ ∀ i ∈ dSS.ids n7 ++ [], G6.length ≤ i := ⟨by simpa using d7, fun i hi => by simp at hi; have := m7 i hi; omega⟩
    have z6 : (dSS.ids n6 ++ (dSS.ids n7 ++ [])).Nodup ∧ ∀ i ∈ dSS.ids n6 ++ (dSS.ids n7 ++ []), G5.length ≤ i := ⟨nd_app d6 z7.1 lt6 z7.2, fun i hi => by rcases List.mem_append.1 hi with hi | hi; (have := m6 i hi; omega); (have := z7.2 i hi; omega)⟩
    have z5 : (dIntS.ids n5 ++ (dSS.ids n6 ++ (dSS.ids n7 ++ []))).Nodup ∧ ∀ i ∈ dIntS.ids n5 ++ (dSS.ids n6 ++ (dSS.ids n7 ++ [])), G4.length ≤ i := ⟨nd_app d5 z6.1 lt5 z6.2, fun i hi => by rcases List.mem_append.1 hi with hi | hi; (have := m5 i hi; omega); (have := z6.2 i hi; omega)⟩
    have z4 : (dIntS.ids n4 ++ (dIntS.ids n5 ++ (dSS.ids n6 ++ (dSS.ids n7 ++ [])))).Nodup ∧ ∀ i ∈ dIntS.ids n4 ++ (dIntS.ids n5 ++ (dSS.ids n6 ++ (dSS.ids n7 ++ []))), G3.length ≤ i := ⟨nd_app d4 z5.1 lt4 z5.2, fun i hi => by rcases List.mem_append.1 hi with hi | hi; (have := m4 i hi; omega); (have := z5.2 i hi; omega)⟩
    have z3 : (dSS.ids n3 ++ (dIntS.ids n4 ++ (dIntS.ids n5 ++ (dSS.ids n6 ++ (dSS.ids n7 ++ []))))).Nodup ∧ ∀ i ∈ dSS.ids n3 ++ (dIntS.ids n4 ++ (dIntS.ids n5 ++ (dSS.ids n6 ++ (dSS.ids n7 ++ [])))), G2.length ≤ i := ⟨nd_app d3 z4.1 lt3 z4.2, fun i hi => by rcases List.mem_append.1 hi with hi | hi; (have := m3 i hi; omega); (have := z4.2 i hi; omega)⟩
    have z2 : (dClasses.ids n2 ++ (dSS.ids n3 ++ (dIntS.ids n4 ++ (dIntS.ids n5 ++ (dSS.ids n6 ++ (dSS.ids n7 ++ [])))))).Nodup ∧ ∀ i ∈ dClasses.ids n2 ++ (dSS.ids n3 ++ (dIntS.ids n4 ++ (dIntS.ids n5 ++ (dSS.ids n6 ++ (dSS.ids n7 ++ []))))), G1.length ≤ i := ⟨nd_app d2 z3.1 lt2 z3.2, fun i hi => by rcases List.mem_append.1 hi with hi | hi; (have := m2 i hi; omega); (have := z3.2 i hi; omega)⟩
    exact nd_app d1 z2.1 lt1 z2.2
theorem l15Copy_d {v : NetV} {x : NetD} (o : dNet.Ow H v x) : wp (vcall C frz 44 [dNet.val v x] H) (dNet.Made H x) := by
  have ones := dNet_one o
  obtain ⟨u2, ⟨u3, u4⟩, ⟨u5, h5⟩, u6, u7, ⟨u8, h8⟩, ⟨u9, h9⟩, _⟩ := v
  obtain ⟨⟨w, h, b⟩, ⟨A, B⟩, buf, own, turn, src, arr, tm⟩ := x
  obtain ⟨y1, y2, y3, y4, y5, y6, y7, _⟩ := o
  simp only at y1 y2 y3 y4 y5 y6 y7 ones
  rw [dNet_val]
  rw [vcall_go (fn := Tryz.f44) Tryz.func44 rfl (by kernel_rfl) rfl]
  have hF : H.length ≤ H.length + 1 := by omega
  simp [ones]
  rw [go_drawE (h := ⟨by kernel_rfl, by kernel_rfl⟩)]
  obtain ⟨G0, hG0⟩ : ∃ G, G = H ++ [⟨[.int .i64 w, .int .i64 h, u2, u3, u4, u5, u6, u7, u8, u9, .int .i64 tm], 0, 46⟩, ⟨[.int .i64 0, .int .i64 0, .slice none 0 0, .slice none 0 0, .slice none 0 0, .slice none 0 0, .slice none 0 0, .slice none 0 0, .slice none 0 0, .slice none 0 0, .int .i64 0], 0, 46⟩] := ⟨_, rfl⟩
  have b0 : G0[H.length]? = some ⟨[.int .i64 w, .int .i64 h, u2, u3, u4, u5, u6, u7, u8, u9, .int .i64 tm], 0, 46⟩ := by rw [hG0]; simp
  have bR : G0[H.length + 1]? = some ⟨[.int .i64 0, .int .i64 0, .slice none 0 0, .slice none 0 0, .slice none 0 0, .slice none 0 0, .slice none 0 0, .slice none 0 0, .slice none 0 0, .slice none 0 0, .int .i64 0], 0, 46⟩ := by rw [hG0]; simp
  have cH : Chg H G0 [] := by rw [hG0]; exact Chg.app []
  have lH : H.length + 2 ≤ G0.length := by rw [hG0]; simp
  rw [← hG0]
  clear hG0
  have z1 : dMesh.Ow G0 u2 (w, h, b) := Dt.chg0 y1 cH
  have z2 : dClasses.Ow G0 (u3, u4) (A, B) := Dt.chg0 y2 cH
  have z3 : dSS.Ow G0 (u5, h5) buf := Dt.chg0 y3 cH
  have z4 : dIntS.Ow G0 u6 own := Dt.chg0 y4 cH
  have z5 : dIntS.Ow G0 u7 turn := Dt.chg0 y5 cH
  have z6 : dSS.Ow G0 (u8, h8) src := Dt.chg0 y6 cH
  have z7 : dSS.Ow G0 (u9, h9) arr := Dt.chg0 y7 cH
  clear y1 y2 y3 y4 y5 y6 y7
  simp [emps, empOp, empB, VM.look, b0, ones]
  refine wp_thn (l15Mesh_w w h u2 b z1.1.rd.isI z1.2) ?_
  rintro _ G1 ⟨n1, rfl, o1, c1, m1, d1⟩
  have q1 := dMesh_one o1
  have lt1 := dMesh.lt o1
  have lc1 := c1.1
  have b0 := box_chg b0 c1 (by simp)
  have bR := box_chg bR c1 (by simp)
  have cH := cH.trans c1
  have z2 := Dt.chg0 (T := dClasses) z2 c1
  have z3 := Dt.chg0 (T := dSS) z3 c1
  have z4 := Dt.chg0 (T := dIntS) z4 c1
  have z5 := Dt.chg0 (T := dIntS) z5 c1
  have z6 := Dt.chg0 (T := dSS) z6 c1
  have z7 := Dt.chg0 (T := dSS) z7 c1
  try simp [-vappend_nil, dMesh_val, VM.look, b0, ones]
  refine wp_thn (l15Classes_w u3 u4 A B z2.1.1.rd.isI z2.2.1.rd.isI z2.1.2 z2.2.2) ?_
  rintro _ G2 ⟨n2, rfl, o2, c2, m2, d2⟩
  have q2 := dClasses_one o2
  have lt2 := dClasses.lt o2
  have lc2 := c2.1
  have b0 := box_chg b0 c2 (by simp)
  have bR := box_chg bR c2 (by simp)
  have cH := cH.trans c2
  have z3 := Dt.chg0 (T := dSS) z3 c2
  have z4 := Dt.chg0 (T := dIntS) z4 c2
  have z5 := Dt.chg0 (T := dIntS) z5 c2
  have z6 := Dt.chg0 (T := dSS) z6 c2
  have z7 := Dt.chg0 (T := dSS) z7 c2
  have o1 := Dt.chg0 (T := dMesh) o1 c2
  try simp [-vappend_nil, dClasses_val, VM.look, b0, ones]
  refine wp_thn (l15Lists_w u5 h5 buf z3.1.rd z3.2.1 z3.2.2) ?_
  rintro _ G3 ⟨n3, rfl, o3, c3, m3, d3⟩
  have q3 := dSS_one o3
  have lt3 := dSS.lt o3
  have lc3 := c3.1
  have b0 := box_chg b0 c3 (by simp)
  have bR := box_chg bR c3 (by simp)
  have cH := cH.trans c3
  have z4 := Dt.chg0 (T := dIntS) z4 c3
  have z5 := Dt.chg0 (T := dIntS) z5 c3
  have z6 := Dt.chg0 (T := dSS) z6 c3
  have z7 := Dt.chg0 (T := dSS) z7 c3
  have o1 := Dt.chg0 (T := dMesh) o1 c3
  have o2 := Dt.chg0 (T := dClasses) o2 c3
  try simp [-vappend_nil, show dSS.val n3 buf = n3.1 from rfl, VM.look, b0, ones]
  obtain ⟨n4, L4, hap4, o4, m4⟩ := copy_ints (frz := H.length) u6 own z4.1.rd z4.2
  have c4 : Chg G3 (G3 ++ L4) [] := Chg.app _
  have d4 := ids_nodup n4
  have q4 := dIntS_one o4
  simp [-vappend_nil, hap4, VM.look]
  generalize G3 ++ L4 = G4 at *
  have lt4 := dIntS.lt o4
  have lc4 := c4.1
  have b0 := box_chg b0 c4 (by simp)
  have bR := box_chg bR c4 (by simp)
  have cH := cH.trans c4
  have z5 := Dt.chg0 (T := dIntS) z5 c4
  have z6 := Dt.chg0 (T := dSS) z6 c4
  have z7 := Dt.chg0 (T := dSS) z7 c4
  have o1 := Dt.chg0 (T := dMesh) o1 c4
  have o2 := Dt.chg0 (T := dClasses) o2 c4
  have o3 := Dt.chg0 (T := dSS) o3 c4
  try simp [-vappend_nil, VM.look, b0, ones]
  obtain ⟨n5, L5, hap5, o5, m5⟩ := copy_ints (frz := H.length) u7 turn z5.1.rd z5.2
  have c5 : Chg G4 (G4 ++ L5) [] := Chg.app _
  have d5 := ids_nodup n5
  have q5 := dIntS_one o5
  simp [-vappend_nil, hap5, VM.look]
  generalize G4 ++ L5 = G5 at *
  have lt5 := dIntS.lt o5
  have lc5 := c5.1
  have b0 := box_chg b0 c5 (by simp)
  have bR := box_chg bR c5 (by simp)
  have cH := cH.trans c5
  have z6 := Dt.chg0 (T := dSS) z6 c5
  have z7 := Dt.chg0 (T := dSS) z7 c5
  have o1 := Dt.chg0 (T := dMesh) o1 c5
  have o2 := Dt.chg0 (T := dClasses) o2 c5
  have o3 := Dt.chg0 (T := dSS) o3 c5
  have o4 := Dt.chg0 (T := dIntS) o4 c5
  try simp [-vappend_nil, VM.look, b0, ones]
  refine wp_thn (l15Lists_w u8 h8 src z6.1.rd z6.2.1 z6.2.2) ?_
  rintro _ G6 ⟨n6, rfl, o6, c6, m6, d6⟩
  have q6 := dSS_one o6
  have lt6 := dSS.lt o6
  have lc6 := c6.1
  have b0 := box_chg b0 c6 (by simp)
  have bR := box_chg bR c6 (by simp)
  have cH := cH.trans c6
  have z7 := Dt.chg0 (T := dSS) z7 c6
  have o1 := Dt.chg0 (T := dMesh) o1 c6
  have o2 := Dt.chg0 (T := dClasses) o2 c6
  have o3 := Dt.chg0 (T := dSS) o3 c6
  have o4 := Dt.chg0 (T := dIntS) o4 c6
  have o5 := Dt.chg0 (T := dIntS) o5 c6
  try simp [-vappend_nil, show dSS.val n6 src = n6.1 from rfl, VM.look, b0, ones]
  refine wp_thn (l15Lists_w u9 h9 arr z7.1.rd z7.2.1 z7.2.2) ?_
  rintro _ G7 ⟨n7, rfl, o7, c7, m7, d7⟩
  have q7 := dSS_one o7
  have lt7 := dSS.lt o7
  have lc7 := c7.1
  have b0 := box_chg b0 c7 (by simp)
  have bR := box_chg bR c7 (by simp)
  have cH := cH.trans c7
  have o1 := Dt.chg0 (T := dMesh) o1 c7
  have o2 := Dt.chg0 (T := dClasses) o2 c7
  have o3 := Dt.chg0 (T := dSS) o3 c7
  have o4 := Dt.chg0 (T := dIntS) o4 c7
  have o5 := Dt.chg0 (T := dIntS) o5 c7
  have o6 := Dt.chg0 (T := dSS) o6 c7

  have gR := set_get (r' := ⟨[.int .i64 w, .int .i64 h, n1, n2.1, n2.2, n3.1, n4, n5, n6.1, n7.1, .int .i64 tm], 0, 46⟩) bR
  have eR : Chg G7 (G7.set (H.length + 1) ⟨[.int .i64 w, .int .i64 h, n1, n2.1, n2.2, n3.1, n4, n5, n6.1, n7.1, .int .i64 tm], 0, 46⟩) [H.length + 1] := chg_set _ _
  have o1 := Dt.chg (T := dMesh) o1 eR (fun i hi hh => by have := m1 i hi; simp at hh; omega)
  have o2 := Dt.chg (T := dClasses) o2 eR (fun i hi hh => by have := m2 i hi; simp at hh; omega)
  have o3 := Dt.chg (T := dSS) o3 eR (fun i hi hh => by have := m3 i hi; simp at hh; omega)
  have o4 := Dt.chg (T := dIntS) o4 eR (fun i hi hh => by have := m4 i hi; simp at hh; omega)
  have o5 := Dt.chg (T := dIntS) o5 eR (fun i hi hh => by have := m5 i hi; simp at hh; omega)
  have o6 := Dt.chg (T := dSS) o6 eR (fun i hi hh => by have := m6 i hi; simp at hh; omega)
  have o7 := Dt.chg (T := dSS) o7 eR (fun i hi hh => by have := m7 i hi; simp at hh; omega)
  have cH := cH.trans' eR (fun i hi => .inr (by simp at hi; omega))
  simp [show dSS.val n7 arr = n7.1 from rfl, VM.look, b0, bR, gR, hF, q1, q2, q3, q4, q5, q6, q7]
  refine ⟨(n1, n2, n3, n4, n5, n6, n7, ()), rfl, ⟨o1, o2, o3, o4, o5, o6, o7, trivial⟩, cH, fun i hi => ?_, ?_⟩
  · rcases List.mem_append.1 hi with hi | hi
    · have := m1 i hi; omega
    rcases List.mem_append.1 hi with hi | hi
    · have := m2 i hi; omega
    rcases List.mem_append.1 hi with hi | hi
    · have := m3 i hi; omega
    rcases List.mem_append.1 hi with hi | hi
    · have := m4 i hi; omega
    rcases List.mem_append.1 hi with hi | hi
    · have := m5 i hi; omega
    rcases List.mem_append.1 hi with hi | hi
    · have := m6 i hi; omega
    rcases List.mem_append.1 hi with hi | hi
    · have := m7 i hi; omega
    · simp [dNone] at hi
  · have z7 : (dSS.ids n7 ++ []).Nodup ∧ ∀ i ∈ dSS.ids n7 ++ [], G6.length ≤ i := ⟨by simpa using d7, fun i hi => by simp at hi; have := m7 i hi; omega⟩
    have z6 : (dSS.ids n6 ++ (dSS.ids n7 ++ [])).Nodup ∧ ∀ i ∈ dSS.ids n6 ++ (dSS.ids n7 ++ []), G5.length ≤ i := ⟨nd_app d6 z7.1 lt6 z7.2, fun i hi => by rcases List.mem_append.1 hi with hi | hi; (have := m6 i hi; omega); (have := z7.2 i hi; omega)⟩
    have z5 : (dIntS.ids n5 ++ (dSS.ids n6 ++ (dSS.ids n7 ++ []))).Nodup ∧ ∀ i ∈ dIntS.ids n5 ++ (dSS.ids n6 ++ (dSS.ids n7 ++ [])), G4.length ≤ i := ⟨nd_app d5 z6.1 lt5 z6.2, fun i hi => by rcases List.mem_append.1 hi with hi | hi; (have := m5 i hi; omega); (have := z6.2 i hi; omega)⟩
    have z4 : (dIntS.ids n4 ++ (dIntS.ids n5 ++ (dSS.ids n6 ++ (dSS.ids n7 ++ [])))).Nodup ∧ ∀ i ∈ dIntS.ids n4 ++ (dIntS.ids n5 ++ (dSS.ids n6 ++ (dSS.ids n7 ++ []))), G3.length ≤ i := ⟨nd_app d4 z5.1 lt4 z5.2, fun i hi => by rcases List.mem_append.1 hi with hi | hi; (have := m4 i hi; omega); (have := z5.2 i hi; omega)⟩
    have z3 : (dSS.ids n3 ++ (dIntS.ids n4 ++ (dIntS.ids n5 ++ (dSS.ids n6 ++ (dSS.ids n7 ++ []))))).Nodup ∧ ∀ i ∈ dSS.ids n3 ++ (dIntS.ids n4 ++ (dIntS.ids n5 ++ (dSS.ids n6 ++ (dSS.ids n7 ++ [])))), G2.length ≤ i := ⟨nd_app d3 z4.1 lt3 z4.2, fun i hi => by rcases List.mem_append.1 hi with hi | hi; (have := m3 i hi; omega); (have := z4.2 i hi; omega)⟩
    have z2 : (dClasses.ids n2 ++ (dSS.ids n3 ++ (dIntS.ids n4 ++ (dIntS.ids n5 ++ (dSS.ids n6 ++ (dSS.ids n7 ++ [])))))).Nodup ∧ ∀ i ∈ dClasses.ids n2 ++ (dSS.ids n3 ++ (dIntS.ids n4 ++ (dIntS.ids n5 ++ (dSS.ids n6 ++ (dSS.ids n7 ++ []))))), G1.length ≤ i := ⟨nd_app d2 z3.1 lt2 z3.2, fun i hi => by rcases List.mem_append.1 hi with hi | hi; (have := m2 i hi; omega); (have := z3.2 i hi; omega)⟩
    exact nd_app d1 z2.1 lt1 z2.2
end Go.Proofs.YtcigpclbhfkgaaaGreat.V
/-! Valid networks: what the program and the reference say. -/
set_option linter.all false
namespace Go.Proofs.YtcigpclbhfkgaaaGreat.V
open Go Go.VM Go.Proofs
set_option maxRecDepth 10000
variable {frz : Nat} {H : Heap}
theorem filter_len_all {l : List FlitD} {c : Int} : (l.filter fun f => f.2.2.1 = c).length = l.length ↔ ∀ f ∈ l, f.2.2.1 = c := by
  rw [List.length_filter_eq_length_iff]; simp
theorem tmod2 (i : Nat) : (i : Int).tmod 2 = (i : Int) % 2 := Int.tmod_eq_emod_of_nonneg (by omega)
theorem getD_at {α : Type} {l : List α} {d : α} {i : Nat} (h : i < l.length) : l.getD i d = l[i] := by simp [List.getD_eq_getElem?_getD, h]
theorem mem_take_succ {α : Type} {l : List α} {i : Nat} (h : i < l.length) {x : α} (hx : x ∈ l.take (i + 1)) : x ∈ l.take i ∨ x = l[i] := by
  rw [List.take_succ_eq_append_getElem h] at hx
  rcases List.mem_append.1 hx with hx | hx
  · exact .inl hx
  · exact .inr (List.mem_singleton.1 hx)
theorem netOk_d {v : NetV} {x : NetD} (o : dNet.Ow H v x) : vcall C frz 84 [dNet.val v x] H = some (.bool (decide (netOk x)), H) := by
  have oo := dNet_one o
  obtain ⟨u2, ⟨u3, u4⟩, ⟨u5, h5⟩, u6, u7, ⟨u8, h8⟩, ⟨u9, h9⟩, _⟩ := v
  obtain ⟨⟨w, h, b⟩, ⟨A, B⟩, buf, own, turn, src, arr, tm⟩ := x
  obtain ⟨o2, o3, o5, o6, o7, o8, o9, _⟩ := o
  simp only at o2 o3 o5 o6 o7 o8 o9
  obtain ⟨p2, p3, p4, p5, p6, p7, p8, p9⟩ := oo
  simp only at p2 p3 p4 p5 p6 p7 p8 p9
  rw [dNet_val]
  refine wp.exact (by simp) ?_ rfl
  rw [vcall_go (fn := Tryz.f84) Tryz.func84 rfl (by kernel_rfl) rfl]
  generalize hY : decide (netOk ((w, h, b), (A, B), buf, own, turn, src, arr, tm)) = Y
  obtain ⟨N, hN⟩ : ∃ N : Nat, cnt w h = N := ⟨(cnt w h).toNat, by have := cnt_range w h; omega⟩
  have hN2 : N ≤ 16 := by have := cnt_range w h; omega
  have w10 : ∀ [Inhabited Unit], IntKind.i64.wrap (10 * (N : Int)) = 10 * (N : Int) := by intro _; exact w64 (by omega) (by omega)
  have w5 : ∀ [Inhabited Unit], IntKind.i64.wrap (5 * (N : Int)) = 5 * (N : Int) := by intro _; exact w64 (by omega) (by omega)
  have cok := fun F L => classesOk_c (frz := F) (H := H ++ L) w h u2 u3 u4 b A B (Rd.isI o2.1.rd.app) (Rd.isI o3.1.1.rd.app) (Rd.isI o3.2.1.rd.app) o2.2
  have ln5 := fun (L : Heap) => (RdL.app (L := L) o5.1.rd).1.len (P := Tryz.prog) (ty := 44) (by simp)
  have ln8 := fun (L : Heap) => (RdL.app (L := L) o8.1.rd).1.len (P := Tryz.prog) (ty := 44) (by simp)
  have ln9 := fun (L : Heap) => (RdL.app (L := L) o9.1.rd).1.len (P := Tryz.prog) (ty := 44) (by simp)
  have ln6 := fun (L : Heap) => (Rd.app (L := L) o6.1.rd).len (P := Tryz.prog) (ty := 24) (by simp)
  have ln7 := fun (L : Heap) => (Rd.app (L := L) o7.1.rd).len (P := Tryz.prog) (ty := 24) (by simp)
  have hl5 := o5.1.rd.2.1
  have hl8 := o8.1.rd.2.1
  have hl9 := o9.1.rd.2.1
  have hb5 := o5.2.1
  have hb8 := o8.2.1
  simp only at ln5 ln8 ln9 ln6 ln7 hl5 hl8 hl9 hb5 hb8
  have no : ¬ netOk ((w, h, b), (A, B), buf, own, turn, src, arr, tm) → false = Y := fun hh => by rw [← hY]; exact (decide_eq_false hh).symm
  have no' : ¬ netOk ((w, h, b), (A, B), buf, own, turn, src, arr, tm) → Y = false := fun hh => (no hh).symm
  have ones := And.intro p2 (And.intro p3 (And.intro p4 (And.intro p5 (And.intro p6 (And.intro p7 (And.intro p8 p9))))))
  simp [ones, nodeCount_c, hN, cok, w10, w5]
  by_cases c1 : classesOk w h b A B
  rotate_left
  · simp [c1]; exact no' (fun k => c1 k.1)
  by_cases c2 : (buf.length : Int) = 10 * N
  rotate_left
  · simp [c1, c2, ones, ln5, hl5, w10]; exact no' (fun k => c2 (by have := k.2.1.1; simp only [hN] at this; exact this))
  by_cases c3 : (own.length : Int) = 10 * N
  rotate_left
  · simp [c1, c2, c3, ones, ln5, hl5, ln6, w10]; exact no' (fun k => c3 (by have := k.2.1.2.1; simp only [hN] at this; exact this))
  by_cases c4 : (turn.length : Int) = 5 * N
  rotate_left
  · simp [c1, c2, c3, c4, ones, ln5, hl5, ln6, ln7, w10, w5]; exact no' (fun k => c4 (by have := k.2.1.2.2.1; simp only [hN] at this; exact this))
  by_cases c5 : (src.length : Int) = N
  rotate_left
  · simp [c1, c2, c3, c4, c5, ones, ln5, hl5, ln6, ln7, ln8, hl8, w10, w5]; exact no' (fun k => c5 (by have := k.2.1.2.2.2.1; simp only [hN] at this; exact this))
  by_cases c6 : (arr.length : Int) = N
  rotate_left
  · simp [c1, c2, c3, c4, c5, c6, ones, ln5, hl5, ln6, ln7, ln8, hl8, ln9, hl9, w10, w5]; exact no' (fun k => c6 (by have := k.2.1.2.2.2.2; simp only [hN] at this; exact this))
  have hsz : sizesOk ((w, h, b), (A, B), buf, own, turn, src, arr, tm) := by unfold sizesOk; simp only [hN]; exact ⟨c2, c3, c4, c5, c6⟩
  simp [c1, c2, c3, c4, c5, c6, ones, ln5, hl5, ln6, ln7, ln8, hl8, ln9, hl9, w10, w5]
  refine wp_inv (fun n t H' => ∃ i : Nat, n = buf.length - i ∧ i ≤ buf.length ∧ t 1 = .pointer (some ⟨H.length, 0, some 0⟩) ∧ t 57 = u5 ∧ t 58 = .int .i64 buf.length ∧ t 59 = .int .i64 i ∧ Chg H H' [] ∧
      H'[H.length]? = some ⟨[.int .i64 w, .int .i64 h, u2, u3, u4, u5, u6, u7, u8, u9, .int .i64 tm], 0, 46⟩ ∧ ∀ j, j < i → bufOk w h (buf.getD j []) ((j : Int) % 2)) ?_ (n := buf.length)
    ⟨0, rfl, by omega, by simp, by simp, by simp [c2], by simp, Chg.app _, by simp, by omega⟩
  rintro n t H' ⟨i, rfl, hi, t1, t57, t58, t59, ch, b0, hk⟩ ih
  simp [t1, t57, t58, t59]
  refine wp_dec ?_ ?_ <;> intro g
  · have hi' : i < buf.length := by omega
    have rl := o5.1.rd.chg ch (by simp)
    obtain ⟨u, _, a2, a3, a4⟩ := RdL_at rl (ty := 44) (e := 113) (by simp) (by simp) hi'
    have hlen := o5.2.2 _ (List.getElem_mem hi')
    simp only at a2 a3 a4 hlen
    have lu := a4.len (P := Tryz.prog) (ty := 113) (by simp)
    have hbg : buf.getD i [] = buf[i] := getD_at hi'
    have bad : ¬ bufOk w h buf[i] ((i : Int) % 2) → Y = false := fun hh => no' (fun k => hh (by have := k.2.2.1 i hi'; simp only [hbg] at this; exact this))
    obtain ⟨l, hl⟩ : ∃ l, l = buf[i] := ⟨_, rfl⟩
    rw [← hl] at a4 lu hlen bad hbg
    simp [t1, t57, t58, t59, a2, a3, lu]
    by_cases g1 : l.length ≤ 3
    rotate_left
    · have g1' : (3 : Int) < l.length := by omega
      simp [g1']; exact bad (fun k => g1 k.1)
    have g1' : ¬ (3 : Int) < l.length := by omega
    simp [g1', t1, t57, t58, t59, tmod2]
    refine wp_thn (classOnly_w u l ((i : Int) % 2) a4 (by omega)) ?_
    rintro r H2 ⟨orr, nr, cc⟩
    have b0 := box_chg b0 cc (by simp)
    have lr := orr.rd.len (P := Tryz.prog) (ty := 113) (by simp)
    have lu2 := (a4.chg cc (by simp)).len (P := Tryz.prog) (ty := 113) (by simp)
    have hfl := filter_len_all (l := l) (c := (i : Int) % 2)
    generalize (l.filter fun f => f.2.2.1 = (i : Int) % 2).length = q at *
    simp [t1, t57, t58, t59, lr, lu2]
    by_cases g2 : q = l.length
    rotate_left
    · have g2' : ¬ (q : Int) = l.length := by omega
      simp [g2']; exact bad (fun k => g2 (hfl.2 k.2.1))
    have af := fun F => areFlits_c (frz := F) (H := H2) w h u l (a4.chg cc (by simp)) (by omega)
    simp [g2, t1, t57, t58, t59, VM.look, b0, af]
    by_cases g3 : flitsOk w h l
    rotate_left
    · simp [g3]; exact bad (fun k => g3 k.2.2)
    simp [g3, t1, t57, t58, t59]
    refine ih (buf.length - (i + 1)) _ _ ⟨i + 1, rfl, by omega, by simp [t1], by simp [t57], by simp [t58], ?_, ch.trans cc, b0, fun j hj => ?_⟩ (by omega)
    · simp; rw [w64 (by omega) (by omega)]
    · by_cases hji : j < i
      · exact hk j hji
      · have : j = i := by omega
        subst this
        rw [hbg]; exact ⟨g1, hfl.1 g2, g3⟩
  · have : i = buf.length := by omega
    subst this
    clear ih
    have l8 := (o8.1.rd.chg ch (by simp)).1.len (P := Tryz.prog) (ty := 44) (by simp)
    simp only at l8
    simp [t1, t57, t58, t59, VM.look, b0, ones, l8, hl8]
    refine wp_inv (fun n t H2 => ∃ i : Nat, n = src.length - i ∧ i ≤ src.length ∧ t 1 = .pointer (some ⟨H.length, 0, some 0⟩) ∧ t 87 = u8 ∧ t 88 = .int .i64 src.length ∧ t 89 = .int .i64 i ∧ H2 = H' ∧ ∀ l ∈ src.take i, srcOk w h l) ?_ (n := src.length)
      ⟨0, rfl, by omega, by simp [t1], by simp, by simp, by simp, rfl, by simp⟩
    clear t1 t57 t58 t59
    rintro n t H2 ⟨i, rfl, hi, t1, t87, t88, t89, rfl, hk2⟩ ih
    simp [t1, t87, t88, t89]
    refine wp_dec ?_ ?_ <;> intro g
    · have hi' : i < src.length := by omega
      have rl := o8.1.rd.chg ch (by simp)
      obtain ⟨u, _, a2, a3, a4⟩ := RdL_at rl (ty := 44) (e := 113) (by simp) (by simp) hi'
      have hlen := o8.2.2 _ (List.getElem_mem hi')
      simp only at a2 a3 a4 hlen
      have lu := a4.len (P := Tryz.prog) (ty := 113) (by simp)
      have bad : ¬ srcOk w h src[i] → Y = false := fun hh => no' (fun k => hh (k.2.2.2.1 _ (List.getElem_mem hi')))
      have hst := fun {x} (hx : x ∈ src.take (i + 1)) => mem_take_succ hi' hx
      obtain ⟨l, hl⟩ : ∃ l, l = src[i] := ⟨_, rfl⟩
      rw [← hl] at a4 lu hlen bad hst
      simp [t1, t87, t88, t89, a2, a3, lu]
      by_cases g1 : l.length ≤ 60
      rotate_left
      · have g1' : (60 : Int) < l.length := by omega
        simp [g1']; exact bad (fun k => g1 k.1)
      have g1' : ¬ (60 : Int) < l.length := by omega
      have af := fun F => areFlits_c (frz := F) (H := H2) w h u l a4 (by omega)
      simp [g1', t1, t87, t88, t89, VM.look, b0, af]
      by_cases g3 : flitsOk w h l
      rotate_left
      · simp [g3]; exact bad (fun k => g3 k.2)
      simp [g3, t1, t87, t88, t89]
      refine ih (src.length - (i + 1)) _ _ ⟨i + 1, rfl, by omega, by simp [t1], by simp [t87], by simp [t88], ?_, rfl, fun x hx => ?_⟩ (by omega)
      · simp; rw [w64 (by omega) (by omega)]
      · rcases hst hx with hx | rfl
        · exact hk2 x hx
        · exact ⟨g1, g3⟩
    · have : i = src.length := by omega
      subst this
      rw [List.take_length] at hk2
      have ai := fun F => areInside_c (frz := F) (H := H2) u6 own (-1) 4 (Rd.isI (o6.1.rd.chg ch (by simp))) (by have := o6.2; omega)
      have ai2 := fun F => areInside_c (frz := F) (H := H2) u7 turn 0 9 (Rd.isI (o7.1.rd.chg ch (by simp))) (by have := o7.2; omega)
      have ai3 := fun F => inside_c (frz := F) (H := H2) tm 0 1000000
      have hiff : netOk ((w, h, b), (A, B), buf, own, turn, src, arr, tm) ↔ (∀ x ∈ own, inR (-1) x 4) ∧ (∀ x ∈ turn, inR 0 x 9) ∧ inR 0 tm 1000000 :=
        ⟨fun k => k.2.2.2.2, fun k => ⟨c1, hsz, hk, hk2, k⟩⟩
      have hY2 : Y = (decide (∀ x ∈ own, inR (-1) x 4) && decide (∀ x ∈ turn, inR 0 x 9) && decide (inR 0 tm 1000000)) := by
        rw [← hY, Bool.eq_iff_iff]; simp only [decide_eq_true_eq, Bool.and_eq_true, and_assoc]; exact hiff
      generalize decide (∀ x ∈ own, inR (-1) x 4) = P1 at *
      generalize decide (∀ x ∈ turn, inR 0 x 9) = P2 at *
      generalize decide (inR 0 tm 1000000) = P3 at *
      simp [t1, t87, t88, t89, VM.look, b0, ones, ai, ai2, ai3, hY2]
      cases P1 <;> cases P2 <;> cases P3 <;> simp [t1, VM.look, b0, ones, ai2, ai3]
theorem sNetOk_d {v : NetV} {x : NetD} (o : dNet.Ow H v x) : vcall C frz 79 [dNet.val v x] H = some (.bool (decide (netOk x)), H) := by
  have oo := dNet_one o
  obtain ⟨u2, ⟨u3, u4⟩, ⟨u5, h5⟩, u6, u7, ⟨u8, h8⟩, ⟨u9, h9⟩, _⟩ := v
  obtain ⟨⟨w, h, b⟩, ⟨A, B⟩, buf, own, turn, src, arr, tm⟩ := x
  obtain ⟨o2, o3, o5, o6, o7, o8, o9, _⟩ := o
  simp only at o2 o3 o5 o6 o7 o8 o9
  obtain ⟨p2, p3, p4, p5, p6, p7, p8, p9⟩ := oo
  simp only at p2 p3 p4 p5 p6 p7 p8 p9
  rw [dNet_val]
  refine wp.exact (by simp) ?_ rfl
  rw [vcall_go (fn := Tryz.f79) Tryz.func79 rfl (by kernel_rfl) rfl]
  generalize hY : decide (netOk ((w, h, b), (A, B), buf, own, turn, src, arr, tm)) = Y
  obtain ⟨N, hN⟩ : ∃ N : Nat, cnt w h = N := ⟨(cnt w h).toNat, by have := cnt_range w h; omega⟩
  have hN2 : N ≤ 16 := by have := cnt_range w h; omega
  have w10 : ∀ [Inhabited Unit], IntKind.i64.wrap (10 * (N : Int)) = 10 * (N : Int) := by intro _; exact w64 (by omega) (by omega)
  have w5 : ∀ [Inhabited Unit], IntKind.i64.wrap (5 * (N : Int)) = 5 * (N : Int) := by intro _; exact w64 (by omega) (by omega)
  have cok := fun F L => sClassesOk_c (frz := F) (H := H ++ L) w h u2 u3 u4 b A B (Rd.isI o2.1.rd.app) (Rd.isI o3.1.1.rd.app) (Rd.isI o3.2.1.rd.app) o2.2
  have ln5 := fun (L : Heap) => (RdL.app (L := L) o5.1.rd).1.len (P := Tryz.prog) (ty := 44) (by simp)
  have ln8 := fun (L : Heap) => (RdL.app (L := L) o8.1.rd).1.len (P := Tryz.prog) (ty := 44) (by simp)
  have ln9 := fun (L : Heap) => (RdL.app (L := L) o9.1.rd).1.len (P := Tryz.prog) (ty := 44) (by simp)
  have ln6 := fun (L : Heap) => (Rd.app (L := L) o6.1.rd).len (P := Tryz.prog) (ty := 24) (by simp)
  have ln7 := fun (L : Heap) => (Rd.app (L := L) o7.1.rd).len (P := Tryz.prog) (ty := 24) (by simp)
  have hl5 := o5.1.rd.2.1
  have hl8 := o8.1.rd.2.1
  have hl9 := o9.1.rd.2.1
  have hb5 := o5.2.1
  have hb8 := o8.2.1
  simp only at ln5 ln8 ln9 ln6 ln7 hl5 hl8 hl9 hb5 hb8
  have no : ¬ netOk ((w, h, b), (A, B), buf, own, turn, src, arr, tm) → false = Y := fun hh => by rw [← hY]; exact (decide_eq_false hh).symm
  have no' : ¬ netOk ((w, h, b), (A, B), buf, own, turn, src, arr, tm) → Y = false := fun hh => (no hh).symm
  have ones := And.intro p2 (And.intro p3 (And.intro p4 (And.intro p5 (And.intro p6 (And.intro p7 (And.intro p8 p9))))))
  simp [ones, sNodeCount_c, hN, cok, w10, w5]
  by_cases c1 : classesOk w h b A B
  rotate_left
  · simp [c1]; exact no' (fun k => c1 k.1)
  by_cases c2 : (buf.length : Int) = 10 * N
  rotate_left
  · simp [c1, c2, ones, ln5, hl5, w10]; exact no' (fun k => c2 (by have := k.2.1.1; simp only [hN] at this; exact this))
  by_cases c3 : (own.length : Int) = 10 * N
  rotate_left
  · simp [c1, c2, c3, ones, ln5, hl5, ln6, w10]; exact no' (fun k => c3 (by have := k.2.1.2.1; simp only [hN] at this; exact this))
  by_cases c4 : (turn.length : Int) = 5 * N
  rotate_left
  · simp [c1, c2, c3, c4, ones, ln5, hl5, ln6, ln7, w10, w5]; exact no' (fun k => c4 (by have := k.2.1.2.2.1; simp only [hN] at this; exact this))
  by_cases c5 : (src.length : Int) = N
  rotate_left
  · simp [c1, c2, c3, c4, c5, ones, ln5, hl5, ln6, ln7, ln8, hl8, w10, w5]; exact no' (fun k => c5 (by have := k.2.1.2.2.2.1; simp only [hN] at this; exact this))
  by_cases c6 : (arr.length : Int) = N
  rotate_left
  · simp [c1, c2, c3, c4, c5, c6, ones, ln5, hl5, ln6, ln7, ln8, hl8, ln9, hl9, w10, w5]; exact no' (fun k => c6 (by have := k.2.1.2.2.2.2; simp only [hN] at this; exact this))
  by_cases c7 : inR 0 tm 1000000
  rotate_left
  · simp [c1, c2, c3, c4, c5, c6, c7, l01In_c, ones, ln5, hl5, ln6, ln7, ln8, hl8, ln9, hl9, w10, w5]; exact no' (fun k => c7 k.2.2.2.2.2.2)
  have hsz : sizesOk ((w, h, b), (A, B), buf, own, turn, src, arr, tm) := by unfold sizesOk; simp only [hN]; exact ⟨c2, c3, c4, c5, c6⟩
  simp [c1, c2, c3, c4, c5, c6, c7, l01In_c, ones, ln5, hl5, ln6, ln7, ln8, hl8, ln9, hl9, w10, w5]
  have hbl : buf.length = 10 * N := by omega
  have hol : own.length = 10 * N := by omega
  have htl : turn.length = 5 * N := by omega
  have hsl : src.length = N := by omega
  obtain ⟨G, hG⟩ : ∃ G, G = H ++ [⟨[.int .i64 w, .int .i64 h, u2, u3, u4, u5, u6, u7, u8, u9, .int .i64 tm], 0, 46⟩] := ⟨_, rfl⟩
  rw [← hG]
  have b0 : G[H.length]? = some ⟨[.int .i64 w, .int .i64 h, u2, u3, u4, u5, u6, u7, u8, u9, .int .i64 tm], 0, 46⟩ := by rw [hG]; simp
  have ch : Chg H G [] := by rw [hG]; exact Chg.app _
  clear hG
  have i6 : IsI G u6 own := Rd.isI (o6.1.rd.chg ch (by simp))
  have i7 : IsI G u7 turn := Rd.isI (o7.1.rd.chg ch (by simp))
  refine wp_inv (fun n t H' => ∃ i : Nat, n = 10 * N - i ∧ i ≤ 10 * N ∧ t 1 = .pointer (some ⟨H.length, 0, some 0⟩) ∧ t 3 = .int .i64 N ∧ t 4 = .int .i64 i ∧ H' = G ∧
      ∀ j, j < i → bufOk w h (buf.getD j []) ((j : Int) % 2) ∧ inR (-1) (own.getD j 0) 4) ?_ (n := 10 * N)
    ⟨0, rfl, by omega, by simp, by simp, by simp, rfl, by omega⟩
  rintro n t H' ⟨i, rfl, hi, t1, t3, t4, rfl, hk⟩ ih
  simp [t1, t3, t4, w10]
  refine wp_dec ?_ ?_ <;> intro g
  · have hi' : i < buf.length := by omega
    have hio : i < own.length := by omega
    have rl := o5.1.rd.chg ch (by simp)
    obtain ⟨u, _, a2, a3, a4⟩ := RdL_at rl (ty := 44) (e := 113) (by simp) (by simp) hi'
    have hlen := o5.2.2 _ (List.getElem_mem hi')
    simp only at a2 a3 a4 hlen
    have lu := a4.len (P := Tryz.prog) (ty := 113) (by simp)
    have hbg : buf.getD i [] = buf[i] := getD_at hi'
    have bad : ¬ bufOk w h buf[i] ((i : Int) % 2) → Y = false := fun hh => no' (fun k => hh (by have := k.2.2.1 i hi'; simp only [hbg] at this; exact this))
    obtain ⟨l, hl⟩ : ∃ l, l = buf[i] := ⟨_, rfl⟩
    rw [← hl] at a4 lu hlen bad hbg
    have q1 := i6.idx (P := Tryz.prog) (ty := 24) (e := 3) (by simp) (i := (i : Int)) (by omega) (by omega)
    have q2 := i6.load (P := Tryz.prog) (e := 3) (by simp) hio
    simp only [Int.toNat_natCast, getD_at hio] at q1 q2
    simp [t1, t3, t4, VM.look, b0, ones, a2, a3, lu]
    by_cases g1 : l.length ≤ 3
    rotate_left
    · have g1' : (3 : Int) < l.length := by omega
      simp [g1']; exact bad (fun k => g1 k.1)
    have g1' : ¬ (3 : Int) < l.length := by omega
    have af := fun F => l15Flits_c (frz := F) (H := H') w h u l a4 (by omega)
    simp [g1', t1, t3, t4, VM.look, b0, ones, af]
    by_cases g3 : flitsOk w h l
    rotate_left
    · simp [g3]; exact bad (fun k => g3 k.2.2)
    simp [g3, t1, t3, t4, VM.look, b0, ones, q1, q2, l01In_c]
    by_cases g4 : inR (-1) own[i] 4
    rotate_left
    · simp [g4]; exact no' (fun k => g4 (k.2.2.2.2.1 _ (List.getElem_mem hio)))
    simp [g4, t1, t3, t4]
    refine wp_inv (fun n t H2 => ∃ c : Nat, n = l.length - c ∧ c ≤ l.length ∧ t 1 = .pointer (some ⟨H.length, 0, some 0⟩) ∧ t 3 = .int .i64 N ∧ t 4 = .int .i64 i ∧ t 5 = u ∧ t 6 = .int .i64 c ∧ H2 = H' ∧ ∀ f ∈ l.take c, f.2.2.1 = (i : Int) % 2) ?_ (n := l.length)
      ⟨0, rfl, by omega, by simp [t1], by simp [t3], by simp [t4], by simp, by simp, rfl, by simp⟩
    clear t1 t3 t4
    rintro n t H2 ⟨c, rfl, hc, t1, t3, t4, t5, t6, rfl, hk3⟩ ih2
    simp [t1, t3, t4, t5, t6, lu]
    refine wp_dec ?_ ?_ <;> intro g5
    · have hc' : c < l.length := by omega
      have r1 := a4.idx (P := Tryz.prog) (ty := 113) (e := 157) (by simp) (i := (c : Int)) (by omega) (by omega)
      have r2 := a4.cell (P := Tryz.prog) (e := 3) (by simp) hc' (c := 2) (by decide)
      have r3 := a4.field (P := Tryz.prog) (s := 157) (f := 2) (o := 2) (n := 1) (ag := false) (by simp) (j := c * 5) (by omega)
      simp only [Int.toNat_natCast, flF_n, flF_f] at r1 r2
      simp at r2
      simp [-vfieldAddr, vfa_ptr, t1, t3, t4, t5, t6, r1, r2, r3, tmod2]
      refine wp_dec ?_ ?_ <;> intro g6
      · simp [t1, t3, t4, t5, t6]
        refine ih2 (l.length - (c + 1)) _ _ ⟨c + 1, rfl, by omega, by simp [t1], by simp [t3], by simp [t4], by simp [t5], ?_, rfl, fun f hf => ?_⟩ (by omega)
        · simp; rw [w64 (by omega) (by omega)]
        · rcases mem_take_succ hc' hf with hf | rfl
          · exact hk3 f hf
          · exact g6
      · simp [t1, t3, t4, t5, t6]
        exact bad (fun k => g6 (k.2.1 _ (List.getElem_mem hc')))
    · have : c = l.length := by omega
      subst this
      rw [List.take_length] at hk3
      simp [t1, t3, t4, t5, t6]
      refine ih (10 * N - (i + 1)) _ _ ⟨i + 1, rfl, by omega, by simp [t1], by simp [t3], ?_, rfl, fun j hj => ?_⟩ (by omega)
      · simp; rw [w64 (by omega) (by omega)]
      · by_cases hji : j < i
        · exact hk j hji
        · have : j = i := by omega
          subst this
          rw [hbg, getD_at hio]; exact ⟨⟨g1, hk3, g3⟩, g4⟩
  · have : i = 10 * N := by omega
    subst this
    clear ih
    simp [t1, t3, t4]
    refine wp_inv (fun n t H2 => ∃ i : Nat, n = 5 * N - i ∧ i ≤ 5 * N ∧ t 1 = .pointer (some ⟨H.length, 0, some 0⟩) ∧ t 3 = .int .i64 N ∧ t 7 = .int .i64 i ∧ H2 = H' ∧ ∀ x ∈ turn.take i, inR 0 x 9) ?_ (n := 5 * N)
      ⟨0, rfl, by omega, by simp [t1], by simp [t3], by simp, rfl, by simp⟩
    clear t1 t3 t4
    rintro n t H2 ⟨i, rfl, hi, t1, t3, t7, rfl, hk2⟩ ih
    simp [t1, t3, t7, w5]
    refine wp_dec ?_ ?_ <;> intro g
    · have hit : i < turn.length := by omega
      have q1 := i7.idx (P := Tryz.prog) (ty := 24) (e := 3) (by simp) (i := (i : Int)) (by omega) (by omega)
      have q2 := i7.load (P := Tryz.prog) (e := 3) (by simp) hit
      simp only [Int.toNat_natCast, getD_at hit] at q1 q2
      simp [t1, t3, t7, VM.look, b0, ones, q1, q2, l01In_c]
      by_cases g4 : inR 0 turn[i] 9
      rotate_left
      · simp [g4]; exact no' (fun k => g4 (k.2.2.2.2.2.1 _ (List.getElem_mem hit)))
      simp [g4, t1, t3, t7]
      refine ih (5 * N - (i + 1)) _ _ ⟨i + 1, rfl, by omega, by simp [t1], by simp [t3], ?_, rfl, fun x hx => ?_⟩ (by omega)
      · simp; rw [w64 (by omega) (by omega)]
      · rcases mem_take_succ hit hx with hx | rfl
        · exact hk2 x hx
        · exact g4
    · have : i = 5 * N := by omega
      subst this
      clear ih
      simp [t1, t3, t7]
      refine wp_inv (fun n t H' => ∃ i : Nat, n = N - i ∧ i ≤ N ∧ t 1 = .pointer (some ⟨H.length, 0, some 0⟩) ∧ t 3 = .int .i64 N ∧ t 8 = .int .i64 i ∧ H' = H2 ∧ ∀ l ∈ src.take i, srcOk w h l) ?_ (n := N)
        ⟨0, rfl, by omega, by simp [t1], by simp [t3], by simp, rfl, by simp⟩
      clear t1 t3 t7
      rintro n t H' ⟨i, rfl, hi, t1, t3, t8, rfl, hk4⟩ ih
      simp [t1, t3, t8]
      refine wp_dec ?_ ?_ <;> intro g
      · have hi' : i < src.length := by omega
        have rl := o8.1.rd.chg ch (by simp)
        obtain ⟨u, _, a2, a3, a4⟩ := RdL_at rl (ty := 44) (e := 113) (by simp) (by simp) hi'
        have hlen := o8.2.2 _ (List.getElem_mem hi')
        simp only at a2 a3 a4 hlen
        have lu := a4.len (P := Tryz.prog) (ty := 113) (by simp)
        have bad : ¬ srcOk w h src[i] → Y = false := fun hh => no' (fun k => hh (k.2.2.2.1 _ (List.getElem_mem hi')))
        have hst := fun {x} (hx : x ∈ src.take (i + 1)) => mem_take_succ hi' hx
        obtain ⟨l, hl⟩ : ∃ l, l = src[i] := ⟨_, rfl⟩
        rw [← hl] at a4 lu hlen bad hst
        simp [t1, t3, t8]
        rw [go_draw (h := by kernel_rfl)]
        simp [t1, t3, t8, VM.look, b0, ones, a2, a3, lu]
        by_cases g1 : l.length ≤ 60
        rotate_left
        · have g1' : (60 : Int) < l.length := by omega
          simp [g1']; exact bad (fun k => g1 k.1)
        have g1' : ¬ (60 : Int) < l.length := by omega
        have af := fun F => l15Flits_c (frz := F) (H := H') w h u l a4 (by omega)
        simp [g1', t1, t3, t8, VM.look, b0, ones, a2, a3, af]
        by_cases g3 : flitsOk w h l
        rotate_left
        · simp [g3]; exact bad (fun k => g3 k.2)
        simp [g3, t1, t3, t8]
        refine ih (N - (i + 1)) _ _ ⟨i + 1, rfl, by omega, by simp [t1], by simp [t3], ?_, rfl, fun x hx => ?_⟩ (by omega)
        · simp; rw [w64 (by omega) (by omega)]
        · rcases hst hx with hx | rfl
          · exact hk4 x hx
          · exact ⟨g1, g3⟩
      · have : i = N := by omega
        subst this
        simp [t1, t3, t8]
        rw [← hsl, List.take_length] at hk4
        rw [← htl, List.take_length] at hk2
        rw [← hY]
        refine (decide_eq_true ⟨c1, hsz, fun j hj => (hk j (by simp only at hj; omega)).1, hk4, fun x hx => ?_, hk2, c7⟩)
        obtain ⟨j, hj, rfl⟩ := List.mem_iff_getElem.1 hx
        have := (hk j (by simp only at hj; omega)).2
        rw [getD_at hj] at this; exact this
end Go.Proofs.YtcigpclbhfkgaaaGreat.V
/-! Idle networks. -/
set_option linter.all false
namespace Go.Proofs.YtcigpclbhfkgaaaGreat.V
open Go Go.VM Go.Proofs
set_option maxRecDepth 10000
variable {frz : Nat} {H : Heap}
/-- how many flits lie in lists -/
def flits (a : SSD) : Nat := ahead a a.length
theorem flits_le (a : SSD) (h1 : a.length ≤ 2097152) (h2 : ∀ xs ∈ a, xs.length ≤ 67108864) : flits a ≤ 140737488355328 := by
  have := ahead_le a h2 a.length (Nat.le_refl _)
  unfold flits; omega
def idle (x : NetD) : Prop := flits x.2.2.1 = 0 ∧ flits x.2.2.2.2.2.1 = 0
instance (x : NetD) : Decidable (idle x) := inferInstanceAs (Decidable (_ ∧ _))
def idleOk (x : NetD) : Prop := netOk x ∧ idle x
instance (x : NetD) : Decidable (idleOk x) := inferInstanceAs (Decidable (_ ∧ _))
theorem flitsIn_d {v : SSV} {a : SSD} (h : dSS.Ow H v a) : vcall C frz 131 [v.1] H = some (.int .i64 (flits a), H) := by
  refine wp.exact (by simp) ?_ rfl
  rw [vcall_go (fn := Tryz.f131) Tryz.func131 rfl (by kernel_rfl) rfl]
  obtain ⟨ho, h1, h2⟩ := h
  have rd := ho.rd
  have ll := rd.1.len (P := Tryz.prog) (ty := 44) (by simp)
  have el := rd.2.1
  rw [el] at ll
  simp [ll]
  refine wp_inv (fun m t H' => ∃ i : Nat, m = a.length - i ∧ i ≤ a.length ∧ t 3 = .int .i64 (ahead a i) ∧ t 6 = v.1 ∧ t 7 = .int .i64 a.length ∧ t 8 = .int .i64 i ∧ H' = H) ?_ (n := a.length) ⟨0, rfl, by omega, by simp [ahead], by simp, by simp, by simp, rfl⟩
  rintro m t H' ⟨i, rfl, hi, t3, t6, t7, t8, rfl⟩ ih
  simp [t3, t6, t7, t8]
  refine wp_dec ?_ ?_ <;> intro g
  · have hi' : i < a.length := by omega
    obtain ⟨u, _, a2, a3, a4⟩ := RdL_at rd (ty := 44) (e := 113) (by simp) (by simp) hi'
    have lu := a4.len (P := Tryz.prog) (ty := 113) (by simp)
    have al := ahead_le a h2 i (by omega)
    have asx := ahead_succ a hi'
    have hm := h2 _ (List.getElem_mem hi')
    have hg : a.getD i [] = a[i] := by simp [List.getD_eq_getElem?_getD, hi']
    rw [hg] at asx
    have w1 : ∀ [Inhabited Unit], IntKind.i64.wrap ((ahead a i : Int) + (a[i].length : Int)) = ((ahead a (i + 1) : Nat) : Int) := by intro _; rw [w64 (by omega) (by omega), asx]; omega
    simp [t3, t6, t7, t8, a2, a3, lu, w1]
    refine ih (a.length - (i + 1)) _ _ ⟨i + 1, rfl, by omega, by simp, by simp [t6], by simp [t7], ?_, rfl⟩ (by omega)
    simp; rw [w64 (by omega) (by omega)]
  · have : i = a.length := by omega
    subst this
    simp [t3, t6, t7, t8, flits]
theorem isIdle_c {id : Nat} {w h tm : Int} {u2 u3 u4 u6 u7 u9 : Value} {v5 v8 : SSV} {buf src : SSD} (hr : H[id]? = some ⟨[.int .i64 w, .int .i64 h, u2, u3, u4, v5.1, u6, u7, v8.1, u9, .int .i64 tm], 0, 46⟩)
   (h5 : dSS.Ow H v5 buf) (h8 : dSS.Ow H v8 src) : vcall C frz 112 [.pointer (some ⟨id, 0, some 0⟩)] H = some (.bool (decide (flits buf = 0 ∧ flits src = 0)), H) := by
  rw [vcall_go (fn := Tryz.f112) Tryz.func112 rfl (by kernel_rfl) rfl]
  have e1 := fun F => flitsIn_d (frz := F) h5
  have e2 := fun F => flitsIn_d (frz := F) h8
  by_cases g : flits buf = 0
  · simp [VM.vnil, VM.look, hr, e1, e2, g]
  · simp [VM.vnil, VM.look, hr, e1, e2, g]
theorem isIdle_d {v : NetV} {x : NetD} (o : dNet.Ow H v x) : vcall C frz 54 [dNet.val v x] H = some (.bool (decide (idleOk x)), H) := by
  have nk := fun F L => netOk_d (frz := F) (H := H ++ L) (v := v) (x := x) (Dt.app (T := dNet) o)
  have ones := dNet_one o
  obtain ⟨u2, ⟨u3, u4⟩, ⟨u5, h5⟩, u6, u7, ⟨u8, h8⟩, ⟨u9, h9⟩, _⟩ := v
  obtain ⟨⟨w, h, b⟩, ⟨A, B⟩, buf, own, turn, src, arr, tm⟩ := x
  obtain ⟨o2, o3, o5, o6, o7, o8, o9, _⟩ := o
  simp only at o2 o3 o5 o6 o7 o8 o9 ones
  rw [dNet_val]
  simp only [dNet_val] at nk
  refine wp.exact (by simp) ?_ rfl
  rw [vcall_go (fn := Tryz.f54) Tryz.func54 rfl (by kernel_rfl) rfl]
  have ii := fun F => isIdle_c (frz := F) (H := H ++ [⟨[.int .i64 w, .int .i64 h, u2, u3, u4, u5, u6, u7, u8, u9, .int .i64 tm], 0, 46⟩]) (id := H.length) (w := w) (h := h) (tm := tm) (u2 := u2) (u3 := u3) (u4 := u4) (u6 := u6) (u7 := u7) (u9 := u9) (v5 := (u5, h5)) (v8 := (u8, h8)) (by simp) (Dt.app o5) (Dt.app o8)
  have hY : decide (idleOk ((w, h, b), (A, B), buf, own, turn, src, arr, tm)) = (decide (netOk ((w, h, b), (A, B), buf, own, turn, src, arr, tm)) && decide (flits buf = 0 ∧ flits src = 0)) := by
    rw [Bool.eq_iff_iff, Bool.and_eq_true, decide_eq_true_eq, decide_eq_true_eq, decide_eq_true_eq]; exact Iff.rfl
  generalize decide (idleOk ((w, h, b), (A, B), buf, own, turn, src, arr, tm)) = Y at *
  generalize decide (netOk ((w, h, b), (A, B), buf, own, turn, src, arr, tm)) = P1 at *
  generalize decide (flits buf = 0 ∧ flits src = 0) = P2 at *
  simp [ones, nk]
  cases P1 <;> simp [ones, ii, hY]
theorem l15Sum_d {v : SSV} {a : SSD} (h : dSS.Ow H v a) : vcall C frz 122 [v.1] H = some (.int .i64 (flits a), H) := by
  refine wp.exact (by simp) ?_ rfl
  rw [vcall_go (fn := Tryz.f122) Tryz.func122 rfl (by kernel_rfl) rfl]
  obtain ⟨ho, h1, h2⟩ := h
  have rd := ho.rd
  have ll := rd.1.len (P := Tryz.prog) (ty := 44) (by simp)
  have el := rd.2.1
  rw [el] at ll
  simp
  refine wp_inv (fun m t H' => ∃ i : Nat, m = a.length - i ∧ i ≤ a.length ∧ t 0 = v.1 ∧ t 3 = .int .i64 (ahead a i) ∧ t 4 = .int .i64 i ∧ H' = H) ?_ (n := a.length) ⟨0, rfl, by omega, by simp, by simp [ahead], by simp, rfl⟩
  rintro m t H' ⟨i, rfl, hi, t0, t3, t4, rfl⟩ ih
  simp [t0, t3, t4, ll]
  refine wp_dec ?_ ?_ <;> intro g
  · have hi' : i < a.length := by omega
    obtain ⟨u, _, a2, a3, a4⟩ := RdL_at rd (ty := 44) (e := 113) (by simp) (by simp) hi'
    have lu := a4.len (P := Tryz.prog) (ty := 113) (by simp)
    have al := ahead_le a h2 i (by omega)
    have asx := ahead_succ a hi'
    have hm := h2 _ (List.getElem_mem hi')
    have hg : a.getD i [] = a[i] := by simp [List.getD_eq_getElem?_getD, hi']
    rw [hg] at asx
    have w1 : ∀ [Inhabited Unit], IntKind.i64.wrap ((ahead a i : Int) + (a[i].length : Int)) = ((ahead a (i + 1) : Nat) : Int) := by intro _; rw [w64 (by omega) (by omega), asx]; omega
    simp [t0, t3, t4, a2, a3, lu, w1]
    refine ih (a.length - (i + 1)) _ _ ⟨i + 1, rfl, by omega, by simp [t0], by simp, ?_, rfl⟩ (by omega)
    simp; rw [w64 (by omega) (by omega)]
  · have : i = a.length := by omega
    subst this
    simp [t0, t3, t4, flits]
theorem l20Idle_d {v : NetV} {x : NetD} (o : dNet.Ow H v x) : vcall C frz 95 [dNet.val v x] H = some (.bool (decide (idle x)), H) := by
  have ones := dNet_one o
  obtain ⟨o2, o3, o5, o6, o7, o8, o9, _⟩ := o
  rw [dNet_val]
  rw [vcall_go (fn := Tryz.f95) Tryz.func95 rfl (by kernel_rfl) rfl]
  have e1 := fun F L => l15Sum_d (frz := F) (H := H ++ L) (Dt.app o5)
  have e2 := fun F L => l15Sum_d (frz := F) (H := H ++ L) (Dt.app o8)
  have hi : idle x ↔ flits x.2.2.1 = 0 ∧ flits x.2.2.2.2.2.1 = 0 := Iff.rfl
  by_cases g : flits x.2.2.1 = 0
  · simp [ones, e1, e2, g, hi]
  · simp [ones, e1, e2, g, hi]
theorem sIsIdle_d {v : NetV} {x : NetD} (o : dNet.Ow H v x) : vcall C frz 43 [dNet.val v x] H = some (.bool (decide (idleOk x)), H) := by
  have nk := fun F L => sNetOk_d (frz := F) (H := H ++ L) (v := v) (x := x) (Dt.app (T := dNet) o)
  have ii := fun F L => l20Idle_d (frz := F) (H := H ++ L) (v := v) (x := x) (Dt.app (T := dNet) o)
  have ones := dNet_one o
  rw [dNet_val]
  simp only [dNet_val] at nk ii
  refine wp.exact (by simp) ?_ rfl
  rw [vcall_go (fn := Tryz.f43) Tryz.func43 rfl (by kernel_rfl) rfl]
  have hY : decide (idleOk x) = (decide (netOk x) && decide (idle x)) := by
    rw [Bool.eq_iff_iff, Bool.and_eq_true, decide_eq_true_eq, decide_eq_true_eq, decide_eq_true_eq]; exact Iff.rfl
  generalize decide (idleOk x) = Y at *
  generalize decide (netOk x) = P1 at *
  generalize decide (idle x) = P2 at *
  simp [ones, nk]
  cases P1 <;> simp [ones, ii, hY]
end Go.Proofs.YtcigpclbhfkgaaaGreat.V
/-! Facts for the loops of a step; valid networks can make a step. -/
set_option linter.all false
namespace Go.Proofs.YtcigpclbhfkgaaaGreat.V
open Go Go.VM Go.Proofs
set_option maxRecDepth 10000
theorem not_take {α β : Type} {f : α → β} {l : List α} (nd : (l.map f).Nodup) {i : Nat} (h : i < l.length) : f l[i] ∉ (l.take i).map f := fun hh => by
  have e : (l.take i).map f ++ (l.drop i).map f = l.map f := by rw [← List.map_append, List.take_append_drop]
  rw [← e] at nd
  have hm : f l[i] ∈ (l.drop i).map f := List.mem_map_of_mem (by rw [List.drop_eq_getElem_cons h]; exact List.mem_cons_self ..)
  exact (List.nodup_append.1 nd).2.2 _ hh _ hm rfl
theorem pops_at : ∀ (l : List GrD) (s : SSD) (j : Nat), j ∉ l.map frm → (l.foldl popS s).getD j [] = s.getD j []
  | [], s, j, _ => rfl
  | g :: l, s, j, h => by
    rw [List.foldl_cons, pops_at l _ j (fun hh => h (List.mem_cons_of_mem _ hh)), popS, upd_ne]
    exact fun e => h (e ▸ List.mem_cons_self ..)
theorem srcs_at : ∀ (l : List Nat) (s : SSD) (j : Nat), j ∉ l → (l.foldl srcS s).getD j [] = s.getD j []
  | [], s, j, _ => rfl
  | g :: l, s, j, h => by
    rw [List.foldl_cons, srcs_at l _ j (fun hh => h (List.mem_cons_of_mem _ hh)), srcS, upd_ne]
    exact fun e => h (e ▸ List.mem_cons_self ..)
theorem push_ne {x : NetD} {s : SSD} {g : GrD} {j : Nat} (h : s.getD j [] ≠ []) : (pushS x s g).getD j [] ≠ [] := by
  unfold pushS
  split
  · exact h
  · by_cases e : tgt x g.1 g.2.1 (g.2.2 % 2) = j
    · by_cases hl : j < s.length
      · rw [← e] at hl ⊢; rw [upd_eq _ hl]; simp
      · simp [List.getD_eq_getElem?_getD, List.getElem?_eq_none (Nat.le_of_not_lt hl)] at h
    · rw [upd_ne _ e]; exact h
theorem both_at (x : NetD) : ∀ (l : List GrD) (s : SSD) (j : Nat), j ∉ l.map frm → s.getD j [] ≠ [] → (l.foldl (bothS x) s).getD j [] ≠ []
  | [], s, j, _, h => h
  | g :: l, s, j, h, hs => by
    rw [List.foldl_cons]
    refine both_at x l _ j (fun hh => h (List.mem_cons_of_mem _ hh)) ?_
    refine push_ne ?_
    rw [popS, upd_ne]
    · exact hs
    · exact fun e => h (e ▸ List.mem_cons_self ..)
theorem netOk_runOk {x : NetD} (h : netOk x) : runOk x := by
  obtain ⟨h1, h2, h3, h4, h5, h6, h7⟩ := h
  refine ⟨h1, h2, fun j f hf => ?_, fun j f hf => ?_, h6⟩
  · by_cases hl : j < x.2.2.1.length
    · obtain ⟨_, k2, k3⟩ := h3 j hl
      exact ⟨k2 f hf, k3 f hf⟩
    · simp [List.getD_eq_getElem?_getD, List.getElem?_eq_none (Nat.le_of_not_lt hl)] at hf
  · by_cases hl : j < x.2.2.2.2.2.1.length
    · exact (h4 _ (getD_mem hl)).2 f hf
    · simp [List.getD_eq_getElem?_getD, List.getElem?_eq_none (Nat.le_of_not_lt hl)] at hf
/-- the port in a valid table -/
theorem port_ok {w h : Int} {b T : List Int} (k : tableOk w h b T) {a c : Int} (ha : isN w h a) (hc : isN w h c) : inR 0 (portOf w h T a c) 4 := by
  obtain ⟨h1, h2⟩ := k
  have ha' := ha
  have hc' := hc
  obtain ⟨a1, a2⟩ := ha'
  obtain ⟨c1, c2⟩ := hc'
  have e1 : ((a.toNat : Nat) : Int) = a := by omega
  have e2 : ((c.toNat : Nat) : Int) = c := by omega
  obtain ⟨g1, g2⟩ := h2 a.toNat (by omega) c.toNat (by omega)
  rw [e1] at g1 g2
  rw [e2] at g2
  by_cases e : a = c
  · subst e; rw [g1 rfl]; exact ⟨by omega, by omega⟩
  · have hw := g2 (fun hh => e (by omega))
    by_cases so : stepOk w h b T a c
    · exact ⟨so.1.1, by have := so.1.2; omega⟩
    · exfalso
      apply hw
      obtain ⟨f, hf⟩ : ∃ f, (cnt w h).toNat = f + 1 := ⟨(cnt w h).toNat - 1, by omega⟩
      unfold walk
      rw [hf]
      simp only [walkN]
      rw [if_neg so]
      split
      · first | rfl | rw [if_neg e]
      · rfl
/-- the time runs on -/
def older (x : NetD) (k : Int) : NetD := (x.1, x.2.1, x.2.2.1, x.2.2.2.1, x.2.2.2.2.1, x.2.2.2.2.2.1, x.2.2.2.2.2.2.1, x.2.2.2.2.2.2.2 + k)
theorem flits_zero {s : SSD} (h : flits s = 0) (j : Nat) : s.getD j [] = [] := by
  by_cases hl : j < s.length
  · have := len_le_sum s _ (getD_mem hl)
    unfold flits ahead at h
    rw [List.take_length] at h
    exact List.length_eq_zero_iff.1 (by omega)
  · simp [List.getD_eq_getElem?_getD, List.getElem?_eq_none (Nat.le_of_not_lt hl)]
/-- an idle network only grows older -/
theorem idle_step {x : NetD} (h : idle x) : stepN x = older x 1 := by
  have e1 : allN x = [] := List.eq_nil_iff_forall_not_mem.2 fun g hg => req_ne (allN_at hg).2.2.2 (flits_zero h.1 _)
  have e2 : enterN x = [] := List.eq_nil_iff_forall_not_mem.2 fun k hk => (enterN_at hk).2.1 (flits_zero h.2 _)
  unfold stepN
  rw [e1, e2]
  rfl
noncomputable def runN (x : NetD) : Nat → NetD
  | 0 => x
  | k + 1 => stepN (runN x k)
theorem idle_run {x : NetD} (h : idle x) : ∀ k, runN x k = older x k
  | 0 => by show x = older x (0 : Nat); simp [older]
  | k + 1 => by
    show stepN (runN x k) = _
    rw [idle_run h k, idle_step (x := older x k) h]
    show (x.1, x.2.1, x.2.2.1, x.2.2.2.1, x.2.2.2.2.1, x.2.2.2.2.2.1, x.2.2.2.2.2.2.1, x.2.2.2.2.2.2.2 + (k : Int) + 1) = (x.1, x.2.1, x.2.2.1, x.2.2.2.1, x.2.2.2.2.1, x.2.2.2.2.2.1, x.2.2.2.2.2.2.1, x.2.2.2.2.2.2.2 + ((k + 1 : Nat) : Int))
    rw [show x.2.2.2.2.2.2.2 + (k : Int) + 1 = x.2.2.2.2.2.2.2 + ((k + 1 : Nat) : Int) by omega]
theorem run_add (x : NetD) (i : Nat) : ∀ k, runN x (i + k) = runN (runN x i) k
  | 0 => rfl
  | k + 1 => by show stepN (runN x (i + k)) = stepN (runN (runN x i) k); rw [run_add x i k]
theorem run_ok {x : NetD} (h : runOk x) : ∀ k, runOk (runN x k)
  | 0 => h
  | k + 1 => step_runOk (run_ok h k)
theorem run_allL {x : NetD} {L : Nat} (h1 : allL L x.2.2.1) (h2 : allL L x.2.2.2.2.2.2.1) : ∀ k, allL (L + 96 * k) (runN x k).2.2.1 ∧ allL (L + 96 * k) (runN x k).2.2.2.2.2.2.1
  | 0 => ⟨h1, h2⟩
  | k + 1 => by
    obtain ⟨a, b⟩ := run_allL h1 h2 k
    exact step_allL (x := runN x k) a b
theorem run_time (x : NetD) : ∀ k : Nat, (runN x k).2.2.2.2.2.2.2 = x.2.2.2.2.2.2.2 + (k : Int)
  | 0 => by simp [runN]
  | k + 1 => by
    show (runN x k).2.2.2.2.2.2.2 + 1 = _
    rw [run_time x k]; omega
end Go.Proofs.YtcigpclbhfkgaaaGreat.V
/-! Lists in lists, written in place; the flits of a packet. -/
set_option linter.all false
namespace Go.Proofs.YtcigpclbhfkgaaaGreat.V
open Go Go.VM Go.Proofs
set_option maxRecDepth 10000
variable {frz : Nat} {H : Heap}
theorem Ow_live {α : Type} {D : Fl α} {e : TypeId} {v : Value} {xs : List α} (h : Ow D e H v xs) : VM.live H v := by
  rcases h with ⟨rfl, _⟩ | ⟨id, off, r, rfl, h2, _⟩
  · trivial
  · show VM.look H ⟨id, off, some r.gen⟩ ≠ none
    simp [VM.look, h2]
theorem ids_le1 (a : Value) : (ids a).length ≤ 1 := by unfold ids; split <;> simp
theorem flat_set {hs : List Value} {k : Nat} (hk : k < hs.length) (a' : Value) : (hs.set k a').flatMap ids = (hs.take k).flatMap ids ++ (ids a' ++ (hs.drop (k + 1)).flatMap ids) := by
  rw [List.set_eq_take_append_cons_drop, if_pos hk, List.flatMap_append, List.flatMap_cons]
theorem flat_at {hs : List Value} {k : Nat} (hk : k < hs.length) : hs.flatMap ids = (hs.take k).flatMap ids ++ (ids hs[k] ++ (hs.drop (k + 1)).flatMap ids) := by
  have := flat_set hk hs[k]
  rwa [List.set_getElem_self] at this
/-- a new inner slice is stored -/
theorem OwL_put {α : Type} {D : Fl α} {e oe : TypeId} {H H1 : Heap} {v a' : Value} {hs : List Value} {xss : List (List α)} {k : Nat} {ys : List α} {frz : Nat} {et : TypeId} {ag : Bool} (h : OwL D e oe H v hs xss) (nd : (idsL v hs).Nodup) (hk : k < hs.length)
    (c : Chg H H1 (ids hs[k])) (o : Ow D e H1 a' ys) (hi : ∀ i ∈ ids a', i ∈ ids hs[k] ∨ H.length ≤ i) (hf : ∀ i ∈ idsL v hs, frz ≤ i) (he : tsz Tryz.prog et = some (ag, 1)) :
    ∃ H2, vstore Tryz.prog frz H1 et a' (elp v k) = some H2 ∧ OwL D e oe H2 v (hs.set k a') (xss.set k ys) ∧ Chg H H2 (idsL v hs) ∧ (idsL v (hs.set k a')).Nodup ∧ (∀ i ∈ idsL v (hs.set k a'), i ∈ idsL v hs ∨ H.length ≤ i) ∧ H2.length = H1.length := by
  have hlt := h.lt
  have hfa := flat_at hk
  have hfs := flat_set hk a'
  unfold idsL at nd hf hlt ⊢
  rw [hfa] at nd hf hlt ⊢
  rw [hfs]
  obtain ⟨n1, n2, n3⟩ := List.nodup_append.1 nd
  obtain ⟨m1, m2, m3⟩ := List.nodup_append.1 n2
  obtain ⟨p1, p2, p3⟩ := List.nodup_append.1 m2
  have dv : ∀ i ∈ ids v, i ∉ ids hs[k] := fun i hi hh => n3 i hi i (List.mem_append_right _ (List.mem_append_left _ hh)) rfl
  have o1 : Ow Fl.val oe H1 v hs := h.1.chg c dv
  have q : VM.one a' = true ∧ a'.cells = #[a'] := ⟨o.rd.one', o.rd.cells⟩
  obtain ⟨H2, s1, s2, s3, s4⟩ := o1.put1 (P := Tryz.prog) (frz := frz) rfl (et := et) (ag := ag) he (j := k) (x := a') (y := a') hk q.2 q.1 rfl (fun i hi => hf i (List.mem_append_left _ hi))
  have hlen : ∀ i, i < H.length → i < H1.length := fun i hi => Nat.lt_of_lt_of_le hi c.1
  have dva : ∀ i ∈ ids a', i ∉ ids v := fun i hi' hh => by
    rcases hi i hi' with g | g
    · exact dv i hh g
    · have := hlt i (List.mem_append_left _ hh); omega
  refine ⟨H2, s1, ⟨s2, by simpa using h.2.1, fun j b zs hb hz => ?_⟩, ?_, ?_, fun i hi' => ?_, s4⟩
  · by_cases hjk : k = j
    · subst hjk
      rw [List.getElem?_set_self hk] at hb
      have hkx : k < xss.length := h.2.1 ▸ hk
      rw [List.getElem?_set_self hkx] at hz
      cases hb; cases hz
      exact o.chg s3 dva
    · rw [List.getElem?_set_ne hjk] at hb hz
      have hb' := h.2.2 j b zs hb hz
      have hfl := flatMap_disj hs (by rw [hfa]; exact n2) (fun e => hjk e.symm) hb (List.getElem?_eq_getElem hk)
      refine (hb'.chg c hfl).chg s3 (fun i hi' hh => ?_)
      have hm : i ∈ hs.flatMap ids := List.mem_flatMap.2 ⟨b, List.mem_of_getElem? hb, hi'⟩
      rw [hfa] at hm
      exact n3 i hh i hm rfl
  · exact (c.mono (fun i hi => List.mem_append_right _ (List.mem_append_right _ (List.mem_append_left _ hi)))).trans (s3.mono (fun i hi => List.mem_append_left _ hi))
  · refine List.nodup_append.2 ⟨n1, List.nodup_append.2 ⟨m1, List.nodup_append.2 ⟨ids_nodup a', p2, fun x hx y hy e => ?_⟩, fun x hx y hy e => ?_⟩, fun x hx y hy e => ?_⟩
    · subst e
      rcases hi x hx with g | g
      · exact p3 x g x hy rfl
      · have := hlt x (List.mem_append_right _ (List.mem_append_right _ (List.mem_append_right _ hy))); omega
    · subst e
      rcases List.mem_append.1 hy with hy | hy
      · rcases hi x hy with g | g
        · exact m3 x hx x (List.mem_append_left _ g) rfl
        · have := hlt x (List.mem_append_right _ (List.mem_append_left _ hx)); omega
      · exact m3 x hx x (List.mem_append_right _ hy) rfl
    · subst e
      rcases List.mem_append.1 hy with hy | hy
      · exact n3 x hx x (List.mem_append_left _ hy) rfl
      · rcases List.mem_append.1 hy with hy | hy
        · exact dva x hy hx
        · exact n3 x hx x (List.mem_append_right _ (List.mem_append_right _ hy)) rfl
  · rcases List.mem_append.1 hi' with hi' | hi'
    · exact .inl (List.mem_append_left _ hi')
    rcases List.mem_append.1 hi' with hi' | hi'
    · exact .inl (List.mem_append_right _ (List.mem_append_left _ hi'))
    rcases List.mem_append.1 hi' with hi' | hi'
    · rcases hi i hi' with g | g
      · exact .inl (List.mem_append_right _ (List.mem_append_right _ (List.mem_append_left _ g)))
      · exact .inr g
    · exact .inl (List.mem_append_right _ (List.mem_append_right _ (List.mem_append_right _ hi')))
/-- the flits of a packet -/
def flitsOf (w h : Int) (p : PkD) : List FlitD := if packetOk w h p then (List.range p.2.2.2.2.toNat).map fun i : Nat => (p.1, p.2.2.1, p.2.2.2.1, decide ((i : Int) = 0), decide ((i : Int) = p.2.2.2.2 - 1)) else []
theorem flitsOf_w (w h : Int) (p : PkD) :
   wp (vcall C frz 87 [.agg #[.int .i64 w, .int .i64 h], pkV p] H) (fun r H' => Ow flF 157 H' r (flitsOf w h p) ∧ (∀ i ∈ ids r, H.length ≤ i) ∧ Chg H H' []) := by
  rw [vcall_go (fn := Tryz.f87) Tryz.func87 rfl (by kernel_rfl) rfl]
  have pk := fun F H => packetOk_c (frz := F) (H := H) w h p
  obtain ⟨q1, q2, q3, q4, q5⟩ := p
  unfold pkV at pk ⊢
  simp only at pk
  have cG : Chg H (H ++ [⟨[.int .i64 w, .int .i64 h], 0, 38⟩, ⟨[.int .i64 q1, .int .i64 q2, .int .i64 q3, .int .i64 q4, .int .i64 q5], 0, 76⟩, ⟨[], 0, 157⟩]) [] := Chg.app _
  have o0 : Ow flF 157 (H ++ [⟨[.int .i64 w, .int .i64 h], 0, 38⟩, ⟨[.int .i64 q1, .int .i64 q2, .int .i64 q3, .int .i64 q4, .int .i64 q5], 0, 76⟩, ⟨[], 0, 157⟩]) (.slice (some ⟨H.length + 2, 0, some 0⟩) 0 0) [] := Ow.new (D := flF) (xs := []) (k := 2) rfl rfl rfl rfl
  simp [VM.look, pk]
  by_cases g : packetOk w h (q1, q2, q3, q4, q5)
  rotate_left
  · have e : flitsOf w h (q1, q2, q3, q4, q5) = [] := if_neg g
    rw [e]
    simp [g]
    first | exact ⟨o0, by simp, cG⟩ | exact ⟨o0, by simp, cG.2⟩ | exact ⟨o0, cG⟩
  obtain ⟨n, hn⟩ : ∃ n : Nat, q5 = n := ⟨q5.toNat, by have := g.2.2.2.2.2; unfold inR at this; simp only at this; omega⟩
  have hn5 : n ≤ 5 := by have := g.2.2.2.2.2; unfold inR at this; simp only at this; omega
  subst hn
  have hfl : flitsOf w h (q1, q2, q3, q4, (n : Int)) = (List.range n).map fun i : Nat => (q1, q3, q4, decide ((i : Int) = 0), decide ((i : Int) = (n : Int) - 1)) := by
    unfold flitsOf; rw [if_pos g]; simp only [Int.toNat_natCast]
  simp [g, VM.look]
  refine wp_inv (fun m t H' => ∃ (i : Nat) (out : Value), m = n - i ∧ i ≤ n ∧ t 3 = .pointer (some ⟨H.length + 1, 0, some 0⟩) ∧ t 5 = out ∧ t 14 = .int .i64 (n : Int) ∧ t 15 = .int .i64 i ∧ Chg H H' [] ∧ H'[H.length]? = some ⟨[.int .i64 w, .int .i64 h], 0, 38⟩ ∧ H'[H.length + 1]? = some ⟨[.int .i64 q1, .int .i64 q2, .int .i64 q3, .int .i64 q4, .int .i64 (n : Int)], 0, 76⟩ ∧ Ow flF 157 H' out ((List.range i).map fun i : Nat => (q1, q3, q4, decide ((i : Int) = 0), decide ((i : Int) = (n : Int) - 1))) ∧ (∀ j ∈ ids out, H.length + 2 ≤ j)) ?_ (n := n)
    ⟨0, .slice (some ⟨H.length + 2, 0, some 0⟩) 0 0, rfl, by omega, by simp, by simp, by simp, by simp, cG, by simp, by simp, o0, by simp⟩
  rintro m t H' ⟨i, out, rfl, hi, t3, t5, t14, t15, ch, b0, b1, oo, no⟩ ih
  simp [t3, t5, t14, t15, VM.look, b0, b1]
  refine wp_dec ?_ ?_ <;> intro g1
  · 
    have e5 : ∀ [Inhabited Unit], IntKind.i64.wrap ((n : Int) - 1) = (n : Int) - 1 := by intro _; exact w64 (by omega) (by omega)
    obtain ⟨Bh, hBh⟩ : ∃ B, B = decide ((i : Int) = 0) := ⟨_, rfl⟩
    obtain ⟨Bt, hBt⟩ : ∃ B, B = decide ((i : Int) = (n : Int) - 1) := ⟨_, rfl⟩
    have z1 : ∀ [Inhabited Unit], (decide (i = 0)) = Bh := by intro _; rw [hBh]; simp
    have z2 : ∀ [Inhabited Unit], (decide ((i : Int) = (n : Int) - 1)) = Bt := by intro _; rw [hBt]
    obtain ⟨r', H3, hap, o3, c3, n3⟩ := oo.push (P := Tryz.prog) (frz := H.length) (ty := 113) (a := (q1, q3, q4, Bh, Bt)) (by simp) rfl (by simp; omega) (fun j hj => by have := no j hj; omega)
    simp only [flF_f] at hap
    simp [-vappend_nil, -vappend_mk, t3, t5, t14, t15, VM.look, b0, b1, e5, z1, z2, hap]
    refine ih (n - (i + 1)) _ _ ⟨i + 1, r', rfl, by omega, by simp [t3], by simp, by simp [t14], ?_, ch.trans' c3 (fun j hj => .inr (by have := no j hj; omega)), box_chg b0 c3 (fun hh => by have := no _ hh; omega), box_chg b1 c3 (fun hh => by have := no _ hh; omega), ?_, fun j hj => ?_⟩ (by omega)
    · simp [t15]; rw [w64 (by omega) (by omega)]
    · rw [List.range_succ, List.map_append, List.map_cons, List.map_nil, ← hBh, ← hBt]; exact o3
    · rcases n3 j hj with h1 | h1
      · exact no j h1
      · have := box_lt b1; omega
  · have : i = n := by omega
    subst this
    simp [t3, t5, t14, t15]
    exact ⟨by rw [hfl]; exact oo, fun j hj => by have := no j hj; omega, ch⟩
theorem sFlitsOf_w (w h : Int) (p : PkD) :
   wp (vcall C frz 140 [.agg #[.int .i64 w, .int .i64 h], pkV p] H) (fun r H' => Ow flF 157 H' r (flitsOf w h p) ∧ (∀ i ∈ ids r, H.length ≤ i) ∧ Chg H H' []) := by
  rw [vcall_go (fn := Tryz.f140) Tryz.func140 rfl (by kernel_rfl) rfl]
  have pk := fun F H => sPacketOk_c (frz := F) (H := H) w h p
  obtain ⟨q1, q2, q3, q4, q5⟩ := p
  unfold pkV at pk ⊢
  simp only at pk
  have cG : Chg H (H ++ [⟨[.int .i64 w, .int .i64 h], 0, 38⟩, ⟨[.int .i64 q1, .int .i64 q2, .int .i64 q3, .int .i64 q4, .int .i64 q5], 0, 76⟩, ⟨[], 0, 157⟩]) [] := Chg.app _
  have o0 : Ow flF 157 (H ++ [⟨[.int .i64 w, .int .i64 h], 0, 38⟩, ⟨[.int .i64 q1, .int .i64 q2, .int .i64 q3, .int .i64 q4, .int .i64 q5], 0, 76⟩, ⟨[], 0, 157⟩]) (.slice (some ⟨H.length + 2, 0, some 0⟩) 0 0) [] := Ow.new (D := flF) (xs := []) (k := 2) rfl rfl rfl rfl
  simp [VM.look]
  by_cases g : packetOk w h (q1, q2, q3, q4, q5)
  rotate_left
  · have e : flitsOf w h (q1, q2, q3, q4, q5) = [] := if_neg g
    rw [e]
    rw [go_loop]; by_cases g2 : 0 < q5 <;> simp [g, g2, VM.look, pk]
    all_goals first | exact ⟨o0, by simp, cG⟩ | exact ⟨o0, by simp, cG.2⟩ | exact ⟨o0, cG⟩
  obtain ⟨n, hn⟩ : ∃ n : Nat, q5 = n := ⟨q5.toNat, by have := g.2.2.2.2.2; unfold inR at this; simp only at this; omega⟩
  have hn5 : n ≤ 5 := by have := g.2.2.2.2.2; unfold inR at this; simp only at this; omega
  subst hn
  have hfl : flitsOf w h (q1, q2, q3, q4, (n : Int)) = (List.range n).map fun i : Nat => (q1, q3, q4, decide ((i : Int) = 0), decide ((i : Int) = (n : Int) - 1)) := by
    unfold flitsOf; rw [if_pos g]; simp only [Int.toNat_natCast]
  
  refine wp_inv (fun m t H' => ∃ (i : Nat) (out : Value), m = n - i ∧ i ≤ n ∧ t 2 = .pointer (some ⟨H.length, 0, some 0⟩) ∧ t 3 = .pointer (some ⟨H.length + 1, 0, some 0⟩) ∧ t 5 = out ∧ t 6 = .int .i64 i ∧ Chg H H' [] ∧ H'[H.length]? = some ⟨[.int .i64 w, .int .i64 h], 0, 38⟩ ∧ H'[H.length + 1]? = some ⟨[.int .i64 q1, .int .i64 q2, .int .i64 q3, .int .i64 q4, .int .i64 (n : Int)], 0, 76⟩ ∧ Ow flF 157 H' out ((List.range i).map fun i : Nat => (q1, q3, q4, decide ((i : Int) = 0), decide ((i : Int) = (n : Int) - 1))) ∧ (∀ j ∈ ids out, H.length + 2 ≤ j)) ?_ (n := n)
    ⟨0, .slice (some ⟨H.length + 2, 0, some 0⟩) 0 0, rfl, by omega, by simp, by simp, by simp, by simp, cG, by simp, by simp, o0, by simp⟩
  rintro m t H' ⟨i, out, rfl, hi, t2, t3, t5, t6, ch, b0, b1, oo, no⟩ ih
  simp [t2, t3, t5, t6, VM.look, b0, b1]
  by_cases g1 : i < n
  · simp [t2, t3, t5, t6, g1, VM.look, b0, b1, pk, g]
    have e5 : ∀ [Inhabited Unit], IntKind.i64.wrap ((n : Int) - 1) = (n : Int) - 1 := by intro _; exact w64 (by omega) (by omega)
    obtain ⟨Bh, hBh⟩ : ∃ B, B = decide ((i : Int) = 0) := ⟨_, rfl⟩
    obtain ⟨Bt, hBt⟩ : ∃ B, B = decide ((i : Int) = (n : Int) - 1) := ⟨_, rfl⟩
    have z1 : ∀ [Inhabited Unit], (decide (i = 0)) = Bh := by intro _; rw [hBh]; simp
    have z2 : ∀ [Inhabited Unit], (decide ((i : Int) = (n : Int) - 1)) = Bt := by intro _; rw [hBt]
    obtain ⟨r', H3, hap, o3, c3, n3⟩ := oo.push (P := Tryz.prog) (frz := H.length) (ty := 113) (a := (q1, q3, q4, Bh, Bt)) (by simp) rfl (by simp; omega) (fun j hj => by have := no j hj; omega)
    simp only [flF_f] at hap
    simp [-vappend_nil, -vappend_mk, t2, t3, t5, t6, VM.look, b0, b1, e5, z1, z2, hap]
    refine ih (n - (i + 1)) _ _ ⟨i + 1, r', rfl, by omega, by simp [t2], by simp [t3], by simp, ?_, ch.trans' c3 (fun j hj => .inr (by have := no j hj; omega)), box_chg b0 c3 (fun hh => by have := no _ hh; omega), box_chg b1 c3 (fun hh => by have := no _ hh; omega), ?_, fun j hj => ?_⟩ (by omega)
    · simp [t6]; rw [w64 (by omega) (by omega)]
    · rw [List.range_succ, List.map_append, List.map_cons, List.map_nil, ← hBh, ← hBt]; exact o3
    · rcases n3 j hj with h1 | h1
      · exact no j h1
      · have := box_lt b1; omega
  · have : i = n := by omega
    subst this
    simp [t2, t3, t5, t6, VM.look, b1]
    exact ⟨by rw [hfl]; exact oo, fun j hj => by have := no j hj; omega, ch⟩
end Go.Proofs.YtcigpclbhfkgaaaGreat.V
/-! One part of a network is written. -/
set_option linter.all false
namespace Go.Proofs.YtcigpclbhfkgaaaGreat.V
open Go Go.VM Go.Proofs
set_option maxRecDepth 10000
variable {frz : Nat} {H : Heap}
theorem nd_mid {P A S A' : List Nat} {N : Nat} (nd : (P ++ (A ++ S)).Nodup) (lt : ∀ i ∈ P ++ (A ++ S), i < N) (na : A'.Nodup) (h : ∀ i ∈ A', i ∈ A ∨ N ≤ i) : (P ++ (A' ++ S)).Nodup ∧ (∀ i ∈ P ++ (A' ++ S), i ∈ P ++ (A ++ S) ∨ N ≤ i) := by
  obtain ⟨n1, n2, n3⟩ := List.nodup_append.1 nd
  obtain ⟨m1, m2, m3⟩ := List.nodup_append.1 n2
  refine ⟨List.nodup_append.2 ⟨n1, List.nodup_append.2 ⟨na, m2, fun a ha b hb e => ?_⟩, fun a ha b hb e => ?_⟩, fun i hi => ?_⟩
  · subst e
    rcases h a ha with g | g
    · exact m3 a g a hb rfl
    · have := lt a (List.mem_append_right _ (List.mem_append_right _ hb)); omega
  · subst e
    rcases List.mem_append.1 hb with hb | hb
    · rcases h a hb with g | g
      · exact n3 a ha a (List.mem_append_left _ g) rfl
      · have := lt a (List.mem_append_left _ ha); omega
    · exact n3 a ha a (List.mem_append_right _ hb) rfl
  · rcases List.mem_append.1 hi with hi | hi
    · exact .inl (List.mem_append_left _ hi)
    rcases List.mem_append.1 hi with hi | hi
    · rcases h i hi with g | g
      · exact .inl (List.mem_append_right _ (List.mem_append_left _ g))
      · exact .inr g
    · exact .inl (List.mem_append_right _ (List.mem_append_right _ hi))
theorem nd_not {P A S : List Nat} (nd : (P ++ (A ++ S)).Nodup) : (∀ i ∈ P, i ∉ A) ∧ (∀ i ∈ S, i ∉ A) := by
  obtain ⟨n1, n2, n3⟩ := List.nodup_append.1 nd
  obtain ⟨m1, m2, m3⟩ := List.nodup_append.1 n2
  exact ⟨fun i hi hh => n3 i hi i (List.mem_append_left _ hh) rfl, fun i hi hh => m3 i hh i hi rfl⟩
def withBuf (x : NetD) (s : SSD) : NetD := (x.1, x.2.1, s, x.2.2.2.1, x.2.2.2.2.1, x.2.2.2.2.2.1, x.2.2.2.2.2.2.1, x.2.2.2.2.2.2.2)
def putBuf (n : NetV) (u : SSV) : NetV := (n.1, n.2.1, u, n.2.2.2.1, n.2.2.2.2.1, n.2.2.2.2.2.1, n.2.2.2.2.2.2.1, n.2.2.2.2.2.2.2)
theorem net_putBuf {K K' : Heap} {n : NetV} {x : NetD} {u : SSV} {s : SSD} (on : dNet.Ow K n x) (nd : (dNet.ids n).Nodup) (c : Chg K K' (dSS.ids n.2.2.1)) (os : dSS.Ow K' u s) (na : (dSS.ids u).Nodup) (hi : ∀ i ∈ dSS.ids u, i ∈ dSS.ids n.2.2.1 ∨ K.length ≤ i) :
    dNet.Ow K' (putBuf n u) (withBuf x s) ∧ (dNet.ids (putBuf n u)).Nodup ∧ ∀ i ∈ dNet.ids (putBuf n u), i ∈ dNet.ids n ∨ K.length ≤ i := by
  have lt := dNet.lt on
  have e : dNet.ids n = (dMesh.ids n.1 ++ dClasses.ids n.2.1) ++ (dSS.ids n.2.2.1 ++ (dIntS.ids n.2.2.2.1 ++ (dIntS.ids n.2.2.2.2.1 ++ (dSS.ids n.2.2.2.2.2.1 ++ (dSS.ids n.2.2.2.2.2.2.1 ++ []))))) := by
    show dMesh.ids n.1 ++ (dClasses.ids n.2.1 ++ (dSS.ids n.2.2.1 ++ (dIntS.ids n.2.2.2.1 ++ (dIntS.ids n.2.2.2.2.1 ++ (dSS.ids n.2.2.2.2.2.1 ++ (dSS.ids n.2.2.2.2.2.2.1 ++ [])))))) = _
    simp only [List.append_assoc]
  have e' : dNet.ids (putBuf n u) = (dMesh.ids n.1 ++ dClasses.ids n.2.1) ++ (dSS.ids u ++ (dIntS.ids n.2.2.2.1 ++ (dIntS.ids n.2.2.2.2.1 ++ (dSS.ids n.2.2.2.2.2.1 ++ (dSS.ids n.2.2.2.2.2.2.1 ++ []))))) := by
    show dMesh.ids n.1 ++ (dClasses.ids n.2.1 ++ (dSS.ids u ++ (dIntS.ids n.2.2.2.1 ++ (dIntS.ids n.2.2.2.2.1 ++ (dSS.ids n.2.2.2.2.2.1 ++ (dSS.ids n.2.2.2.2.2.2.1 ++ [])))))) = _
    simp only [List.append_assoc]
  rw [e] at nd lt ⊢
  rw [e']
  obtain ⟨m1, m2⟩ := nd_mid nd lt na hi
  obtain ⟨d1, d2⟩ := nd_not nd
  obtain ⟨o1, o2, o3, o4, o5, o6, o7, _⟩ := on
  exact ⟨⟨Dt.chg (T := dMesh) o1 c (fun i hi => d1 i (List.mem_append_left _ (hi))), Dt.chg (T := dClasses) o2 c (fun i hi => d1 i (List.mem_append_right _ hi)), os, Dt.chg (T := dIntS) o4 c (fun i hi => d2 i (List.mem_append_left _ hi)), Dt.chg (T := dIntS) o5 c (fun i hi => d2 i (List.mem_append_right _ (List.mem_append_left _ hi))), Dt.chg (T := dSS) o6 c (fun i hi => d2 i (List.mem_append_right _ (List.mem_append_right _ (List.mem_append_left _ hi)))), Dt.chg (T := dSS) o7 c (fun i hi => d2 i (List.mem_append_right _ (List.mem_append_right _ (List.mem_append_right _ (List.mem_append_left _ hi))))), trivial⟩, m1, m2⟩
theorem net_inBuf {n : NetV} : ∀ i ∈ dSS.ids n.2.2.1, i ∈ dNet.ids n := fun i hi => by
  show i ∈ dMesh.ids n.1 ++ (dClasses.ids n.2.1 ++ (dSS.ids n.2.2.1 ++ (dIntS.ids n.2.2.2.1 ++ (dIntS.ids n.2.2.2.2.1 ++ (dSS.ids n.2.2.2.2.2.1 ++ (dSS.ids n.2.2.2.2.2.2.1 ++ []))))))
  simp only [List.mem_append]; right; right; left; exact hi
theorem net_ndBuf {n : NetV} (nd : (dNet.ids n).Nodup) : (dSS.ids n.2.2.1).Nodup := by
  have e : dNet.ids n = (dMesh.ids n.1 ++ dClasses.ids n.2.1) ++ (dSS.ids n.2.2.1 ++ (dIntS.ids n.2.2.2.1 ++ (dIntS.ids n.2.2.2.2.1 ++ (dSS.ids n.2.2.2.2.2.1 ++ (dSS.ids n.2.2.2.2.2.2.1 ++ []))))) := by
    show dMesh.ids n.1 ++ (dClasses.ids n.2.1 ++ (dSS.ids n.2.2.1 ++ (dIntS.ids n.2.2.2.1 ++ (dIntS.ids n.2.2.2.2.1 ++ (dSS.ids n.2.2.2.2.2.1 ++ (dSS.ids n.2.2.2.2.2.2.1 ++ [])))))) = _
    simp only [List.append_assoc]
  rw [e] at nd
  exact (List.nodup_append.1 (List.nodup_append.1 nd).2.1).1
def withOwn (x : NetD) (s : List Int) : NetD := (x.1, x.2.1, x.2.2.1, s, x.2.2.2.2.1, x.2.2.2.2.2.1, x.2.2.2.2.2.2.1, x.2.2.2.2.2.2.2)
def putOwn (n : NetV) (u : Value) : NetV := (n.1, n.2.1, n.2.2.1, u, n.2.2.2.2.1, n.2.2.2.2.2.1, n.2.2.2.2.2.2.1, n.2.2.2.2.2.2.2)
theorem net_putOwn {K K' : Heap} {n : NetV} {x : NetD} {u : Value} {s : List Int} (on : dNet.Ow K n x) (nd : (dNet.ids n).Nodup) (c : Chg K K' (dIntS.ids n.2.2.2.1)) (os : dIntS.Ow K' u s) (na : (dIntS.ids u).Nodup) (hi : ∀ i ∈ dIntS.ids u, i ∈ dIntS.ids n.2.2.2.1 ∨ K.length ≤ i) :
    dNet.Ow K' (putOwn n u) (withOwn x s) ∧ (dNet.ids (putOwn n u)).Nodup ∧ ∀ i ∈ dNet.ids (putOwn n u), i ∈ dNet.ids n ∨ K.length ≤ i := by
  have lt := dNet.lt on
  have e : dNet.ids n = ((dMesh.ids n.1 ++ dClasses.ids n.2.1) ++ dSS.ids n.2.2.1) ++ (dIntS.ids n.2.2.2.1 ++ (dIntS.ids n.2.2.2.2.1 ++ (dSS.ids n.2.2.2.2.2.1 ++ (dSS.ids n.2.2.2.2.2.2.1 ++ [])))) := by
    show dMesh.ids n.1 ++ (dClasses.ids n.2.1 ++ (dSS.ids n.2.2.1 ++ (dIntS.ids n.2.2.2.1 ++ (dIntS.ids n.2.2.2.2.1 ++ (dSS.ids n.2.2.2.2.2.1 ++ (dSS.ids n.2.2.2.2.2.2.1 ++ [])))))) = _
    simp only [List.append_assoc]
  have e' : dNet.ids (putOwn n u) = ((dMesh.ids n.1 ++ dClasses.ids n.2.1) ++ dSS.ids n.2.2.1) ++ (dIntS.ids u ++ (dIntS.ids n.2.2.2.2.1 ++ (dSS.ids n.2.2.2.2.2.1 ++ (dSS.ids n.2.2.2.2.2.2.1 ++ [])))) := by
    show dMesh.ids n.1 ++ (dClasses.ids n.2.1 ++ (dSS.ids n.2.2.1 ++ (dIntS.ids u ++ (dIntS.ids n.2.2.2.2.1 ++ (dSS.ids n.2.2.2.2.2.1 ++ (dSS.ids n.2.2.2.2.2.2.1 ++ [])))))) = _
    simp only [List.append_assoc]
  rw [e] at nd lt ⊢
  rw [e']
  obtain ⟨m1, m2⟩ := nd_mid nd lt na hi
  obtain ⟨d1, d2⟩ := nd_not nd
  obtain ⟨o1, o2, o3, o4, o5, o6, o7, _⟩ := on
  exact ⟨⟨Dt.chg (T := dMesh) o1 c (fun i hi => d1 i (List.mem_append_left _ (List.mem_append_left _ (hi)))), Dt.chg (T := dClasses) o2 c (fun i hi => d1 i (List.mem_append_left _ (List.mem_append_right _ hi))), Dt.chg (T := dSS) o3 c (fun i hi => d1 i (List.mem_append_right _ hi)), os, Dt.chg (T := dIntS) o5 c (fun i hi => d2 i (List.mem_append_left _ hi)), Dt.chg (T := dSS) o6 c (fun i hi => d2 i (List.mem_append_right _ (List.mem_append_left _ hi))), Dt.chg (T := dSS) o7 c (fun i hi => d2 i (List.mem_append_right _ (List.mem_append_right _ (List.mem_append_left _ hi)))), trivial⟩, m1, m2⟩
theorem net_inOwn {n : NetV} : ∀ i ∈ dIntS.ids n.2.2.2.1, i ∈ dNet.ids n := fun i hi => by
  show i ∈ dMesh.ids n.1 ++ (dClasses.ids n.2.1 ++ (dSS.ids n.2.2.1 ++ (dIntS.ids n.2.2.2.1 ++ (dIntS.ids n.2.2.2.2.1 ++ (dSS.ids n.2.2.2.2.2.1 ++ (dSS.ids n.2.2.2.2.2.2.1 ++ []))))))
  simp only [List.mem_append]; right; right; right; left; exact hi
theorem net_ndOwn {n : NetV} (nd : (dNet.ids n).Nodup) : (dIntS.ids n.2.2.2.1).Nodup := by
  have e : dNet.ids n = ((dMesh.ids n.1 ++ dClasses.ids n.2.1) ++ dSS.ids n.2.2.1) ++ (dIntS.ids n.2.2.2.1 ++ (dIntS.ids n.2.2.2.2.1 ++ (dSS.ids n.2.2.2.2.2.1 ++ (dSS.ids n.2.2.2.2.2.2.1 ++ [])))) := by
    show dMesh.ids n.1 ++ (dClasses.ids n.2.1 ++ (dSS.ids n.2.2.1 ++ (dIntS.ids n.2.2.2.1 ++ (dIntS.ids n.2.2.2.2.1 ++ (dSS.ids n.2.2.2.2.2.1 ++ (dSS.ids n.2.2.2.2.2.2.1 ++ [])))))) = _
    simp only [List.append_assoc]
  rw [e] at nd
  exact (List.nodup_append.1 (List.nodup_append.1 nd).2.1).1
def withTurn (x : NetD) (s : List Int) : NetD := (x.1, x.2.1, x.2.2.1, x.2.2.2.1, s, x.2.2.2.2.2.1, x.2.2.2.2.2.2.1, x.2.2.2.2.2.2.2)
def putTurn (n : NetV) (u : Value) : NetV := (n.1, n.2.1, n.2.2.1, n.2.2.2.1, u, n.2.2.2.2.2.1, n.2.2.2.2.2.2.1, n.2.2.2.2.2.2.2)
theorem net_putTurn {K K' : Heap} {n : NetV} {x : NetD} {u : Value} {s : List Int} (on : dNet.Ow K n x) (nd : (dNet.ids n).Nodup) (c : Chg K K' (dIntS.ids n.2.2.2.2.1)) (os : dIntS.Ow K' u s) (na : (dIntS.ids u).Nodup) (hi : ∀ i ∈ dIntS.ids u, i ∈ dIntS.ids n.2.2.2.2.1 ∨ K.length ≤ i) :
    dNet.Ow K' (putTurn n u) (withTurn x s) ∧ (dNet.ids (putTurn n u)).Nodup ∧ ∀ i ∈ dNet.ids (putTurn n u), i ∈ dNet.ids n ∨ K.length ≤ i := by
  have lt := dNet.lt on
  have e : dNet.ids n = (((dMesh.ids n.1 ++ dClasses.ids n.2.1) ++ dSS.ids n.2.2.1) ++ dIntS.ids n.2.2.2.1) ++ (dIntS.ids n.2.2.2.2.1 ++ (dSS.ids n.2.2.2.2.2.1 ++ (dSS.ids n.2.2.2.2.2.2.1 ++ []))) := by
    show dMesh.ids n.1 ++ (dClasses.ids n.2.1 ++ (dSS.ids n.2.2.1 ++ (dIntS.ids n.2.2.2.1 ++ (dIntS.ids n.2.2.2.2.1 ++ (dSS.ids n.2.2.2.2.2.1 ++ (dSS.ids n.2.2.2.2.2.2.1 ++ [])))))) = _
    simp only [List.append_assoc]
  have e' : dNet.ids (putTurn n u) = (((dMesh.ids n.1 ++ dClasses.ids n.2.1) ++ dSS.ids n.2.2.1) ++ dIntS.ids n.2.2.2.1) ++ (dIntS.ids u ++ (dSS.ids n.2.2.2.2.2.1 ++ (dSS.ids n.2.2.2.2.2.2.1 ++ []))) := by
    show dMesh.ids n.1 ++ (dClasses.ids n.2.1 ++ (dSS.ids n.2.2.1 ++ (dIntS.ids n.2.2.2.1 ++ (dIntS.ids u ++ (dSS.ids n.2.2.2.2.2.1 ++ (dSS.ids n.2.2.2.2.2.2.1 ++ [])))))) = _
    simp only [List.append_assoc]
  rw [e] at nd lt ⊢
  rw [e']
  obtain ⟨m1, m2⟩ := nd_mid nd lt na hi
  obtain ⟨d1, d2⟩ := nd_not nd
  obtain ⟨o1, o2, o3, o4, o5, o6, o7, _⟩ := on
  exact ⟨⟨Dt.chg (T := dMesh) o1 c (fun i hi => d1 i (List.mem_append_left _ (List.mem_append_left _ (List.mem_append_left _ (hi))))), Dt.chg (T := dClasses) o2 c (fun i hi => d1 i (List.mem_append_left _ (List.mem_append_left _ (List.mem_append_right _ hi)))), Dt.chg (T := dSS) o3 c (fun i hi => d1 i (List.mem_append_left _ (List.mem_append_right _ hi))), Dt.chg (T := dIntS) o4 c (fun i hi => d1 i (List.mem_append_right _ hi)), os, Dt.chg (T := dSS) o6 c (fun i hi => d2 i (List.mem_append_left _ hi)), Dt.chg (T := dSS) o7 c (fun i hi => d2 i (List.mem_append_right _ (List.mem_append_left _ hi))), trivial⟩, m1, m2⟩
theorem net_inTurn {n : NetV} : ∀ i ∈ dIntS.ids n.2.2.2.2.1, i ∈ dNet.ids n := fun i hi => by
  show i ∈ dMesh.ids n.1 ++ (dClasses.ids n.2.1 ++ (dSS.ids n.2.2.1 ++ (dIntS.ids n.2.2.2.1 ++ (dIntS.ids n.2.2.2.2.1 ++ (dSS.ids n.2.2.2.2.2.1 ++ (dSS.ids n.2.2.2.2.2.2.1 ++ []))))))
  simp only [List.mem_append]; right; right; right; right; left; exact hi
theorem net_ndTurn {n : NetV} (nd : (dNet.ids n).Nodup) : (dIntS.ids n.2.2.2.2.1).Nodup := by
  have e : dNet.ids n = (((dMesh.ids n.1 ++ dClasses.ids n.2.1) ++ dSS.ids n.2.2.1) ++ dIntS.ids n.2.2.2.1) ++ (dIntS.ids n.2.2.2.2.1 ++ (dSS.ids n.2.2.2.2.2.1 ++ (dSS.ids n.2.2.2.2.2.2.1 ++ []))) := by
    show dMesh.ids n.1 ++ (dClasses.ids n.2.1 ++ (dSS.ids n.2.2.1 ++ (dIntS.ids n.2.2.2.1 ++ (dIntS.ids n.2.2.2.2.1 ++ (dSS.ids n.2.2.2.2.2.1 ++ (dSS.ids n.2.2.2.2.2.2.1 ++ [])))))) = _
    simp only [List.append_assoc]
  rw [e] at nd
  exact (List.nodup_append.1 (List.nodup_append.1 nd).2.1).1
def withSrc (x : NetD) (s : SSD) : NetD := (x.1, x.2.1, x.2.2.1, x.2.2.2.1, x.2.2.2.2.1, s, x.2.2.2.2.2.2.1, x.2.2.2.2.2.2.2)
def putSrc (n : NetV) (u : SSV) : NetV := (n.1, n.2.1, n.2.2.1, n.2.2.2.1, n.2.2.2.2.1, u, n.2.2.2.2.2.2.1, n.2.2.2.2.2.2.2)
theorem net_putSrc {K K' : Heap} {n : NetV} {x : NetD} {u : SSV} {s : SSD} (on : dNet.Ow K n x) (nd : (dNet.ids n).Nodup) (c : Chg K K' (dSS.ids n.2.2.2.2.2.1)) (os : dSS.Ow K' u s) (na : (dSS.ids u).Nodup) (hi : ∀ i ∈ dSS.ids u, i ∈ dSS.ids n.2.2.2.2.2.1 ∨ K.length ≤ i) :
    dNet.Ow K' (putSrc n u) (withSrc x s) ∧ (dNet.ids (putSrc n u)).Nodup ∧ ∀ i ∈ dNet.ids (putSrc n u), i ∈ dNet.ids n ∨ K.length ≤ i := by
  have lt := dNet.lt on
  have e : dNet.ids n = ((((dMesh.ids n.1 ++ dClasses.ids n.2.1) ++ dSS.ids n.2.2.1) ++ dIntS.ids n.2.2.2.1) ++ dIntS.ids n.2.2.2.2.1) ++ (dSS.ids n.2.2.2.2.2.1 ++ (dSS.ids n.2.2.2.2.2.2.1 ++ [])) := by
    show dMesh.ids n.1 ++ (dClasses.ids n.2.1 ++ (dSS.ids n.2.2.1 ++ (dIntS.ids n.2.2.2.1 ++ (dIntS.ids n.2.2.2.2.1 ++ (dSS.ids n.2.2.2.2.2.1 ++ (dSS.ids n.2.2.2.2.2.2.1 ++ [])))))) = _
    simp only [List.append_assoc]
  have e' : dNet.ids (putSrc n u) = ((((dMesh.ids n.1 ++ dClasses.ids n.2.1) ++ dSS.ids n.2.2.1) ++ dIntS.ids n.2.2.2.1) ++ dIntS.ids n.2.2.2.2.1) ++ (dSS.ids u ++ (dSS.ids n.2.2.2.2.2.2.1 ++ [])) := by
    show dMesh.ids n.1 ++ (dClasses.ids n.2.1 ++ (dSS.ids n.2.2.1 ++ (dIntS.ids n.2.2.2.1 ++ (dIntS.ids n.2.2.2.2.1 ++ (dSS.ids u ++ (dSS.ids n.2.2.2.2.2.2.1 ++ [])))))) = _
    simp only [List.append_assoc]
  rw [e] at nd lt ⊢
  rw [e']
  obtain ⟨m1, m2⟩ := nd_mid nd lt na hi
  obtain ⟨d1, d2⟩ := nd_not nd
  obtain ⟨o1, o2, o3, o4, o5, o6, o7, _⟩ := on
  exact ⟨⟨Dt.chg (T := dMesh) o1 c (fun i hi => d1 i (List.mem_append_left _ (List.mem_append_left _ (List.mem_append_left _ (List.mem_append_left _ (hi)))))), Dt.chg (T := dClasses) o2 c (fun i hi => d1 i (List.mem_append_left _ (List.mem_append_left _ (List.mem_append_left _ (List.mem_append_right _ hi))))), Dt.chg (T := dSS) o3 c (fun i hi => d1 i (List.mem_append_left _ (List.mem_append_left _ (List.mem_append_right _ hi)))), Dt.chg (T := dIntS) o4 c (fun i hi => d1 i (List.mem_append_left _ (List.mem_append_right _ hi))), Dt.chg (T := dIntS) o5 c (fun i hi => d1 i (List.mem_append_right _ hi)), os, Dt.chg (T := dSS) o7 c (fun i hi => d2 i (List.mem_append_left _ hi)), trivial⟩, m1, m2⟩
theorem net_inSrc {n : NetV} : ∀ i ∈ dSS.ids n.2.2.2.2.2.1, i ∈ dNet.ids n := fun i hi => by
  show i ∈ dMesh.ids n.1 ++ (dClasses.ids n.2.1 ++ (dSS.ids n.2.2.1 ++ (dIntS.ids n.2.2.2.1 ++ (dIntS.ids n.2.2.2.2.1 ++ (dSS.ids n.2.2.2.2.2.1 ++ (dSS.ids n.2.2.2.2.2.2.1 ++ []))))))
  simp only [List.mem_append]; right; right; right; right; right; left; exact hi
theorem net_ndSrc {n : NetV} (nd : (dNet.ids n).Nodup) : (dSS.ids n.2.2.2.2.2.1).Nodup := by
  have e : dNet.ids n = ((((dMesh.ids n.1 ++ dClasses.ids n.2.1) ++ dSS.ids n.2.2.1) ++ dIntS.ids n.2.2.2.1) ++ dIntS.ids n.2.2.2.2.1) ++ (dSS.ids n.2.2.2.2.2.1 ++ (dSS.ids n.2.2.2.2.2.2.1 ++ [])) := by
    show dMesh.ids n.1 ++ (dClasses.ids n.2.1 ++ (dSS.ids n.2.2.1 ++ (dIntS.ids n.2.2.2.1 ++ (dIntS.ids n.2.2.2.2.1 ++ (dSS.ids n.2.2.2.2.2.1 ++ (dSS.ids n.2.2.2.2.2.2.1 ++ [])))))) = _
    simp only [List.append_assoc]
  rw [e] at nd
  exact (List.nodup_append.1 (List.nodup_append.1 nd).2.1).1
def withArr (x : NetD) (s : SSD) : NetD := (x.1, x.2.1, x.2.2.1, x.2.2.2.1, x.2.2.2.2.1, x.2.2.2.2.2.1, s, x.2.2.2.2.2.2.2)
def putArr (n : NetV) (u : SSV) : NetV := (n.1, n.2.1, n.2.2.1, n.2.2.2.1, n.2.2.2.2.1, n.2.2.2.2.2.1, u, n.2.2.2.2.2.2.2)
theorem net_putArr {K K' : Heap} {n : NetV} {x : NetD} {u : SSV} {s : SSD} (on : dNet.Ow K n x) (nd : (dNet.ids n).Nodup) (c : Chg K K' (dSS.ids n.2.2.2.2.2.2.1)) (os : dSS.Ow K' u s) (na : (dSS.ids u).Nodup) (hi : ∀ i ∈ dSS.ids u, i ∈ dSS.ids n.2.2.2.2.2.2.1 ∨ K.length ≤ i) :
    dNet.Ow K' (putArr n u) (withArr x s) ∧ (dNet.ids (putArr n u)).Nodup ∧ ∀ i ∈ dNet.ids (putArr n u), i ∈ dNet.ids n ∨ K.length ≤ i := by
  have lt := dNet.lt on
  have e : dNet.ids n = (((((dMesh.ids n.1 ++ dClasses.ids n.2.1) ++ dSS.ids n.2.2.1) ++ dIntS.ids n.2.2.2.1) ++ dIntS.ids n.2.2.2.2.1) ++ dSS.ids n.2.2.2.2.2.1) ++ (dSS.ids n.2.2.2.2.2.2.1 ++ []) := by
    show dMesh.ids n.1 ++ (dClasses.ids n.2.1 ++ (dSS.ids n.2.2.1 ++ (dIntS.ids n.2.2.2.1 ++ (dIntS.ids n.2.2.2.2.1 ++ (dSS.ids n.2.2.2.2.2.1 ++ (dSS.ids n.2.2.2.2.2.2.1 ++ [])))))) = _
    simp only [List.append_assoc]
  have e' : dNet.ids (putArr n u) = (((((dMesh.ids n.1 ++ dClasses.ids n.2.1) ++ dSS.ids n.2.2.1) ++ dIntS.ids n.2.2.2.1) ++ dIntS.ids n.2.2.2.2.1) ++ dSS.ids n.2.2.2.2.2.1) ++ (dSS.ids u ++ []) := by
    show dMesh.ids n.1 ++ (dClasses.ids n.2.1 ++ (dSS.ids n.2.2.1 ++ (dIntS.ids n.2.2.2.1 ++ (dIntS.ids n.2.2.2.2.1 ++ (dSS.ids n.2.2.2.2.2.1 ++ (dSS.ids u ++ [])))))) = _
    simp only [List.append_assoc]
  rw [e] at nd lt ⊢
  rw [e']
  obtain ⟨m1, m2⟩ := nd_mid nd lt na hi
  obtain ⟨d1, d2⟩ := nd_not nd
  obtain ⟨o1, o2, o3, o4, o5, o6, o7, _⟩ := on
  exact ⟨⟨Dt.chg (T := dMesh) o1 c (fun i hi => d1 i (List.mem_append_left _ (List.mem_append_left _ (List.mem_append_left _ (List.mem_append_left _ (List.mem_append_left _ (hi))))))), Dt.chg (T := dClasses) o2 c (fun i hi => d1 i (List.mem_append_left _ (List.mem_append_left _ (List.mem_append_left _ (List.mem_append_left _ (List.mem_append_right _ hi)))))), Dt.chg (T := dSS) o3 c (fun i hi => d1 i (List.mem_append_left _ (List.mem_append_left _ (List.mem_append_left _ (List.mem_append_right _ hi))))), Dt.chg (T := dIntS) o4 c (fun i hi => d1 i (List.mem_append_left _ (List.mem_append_left _ (List.mem_append_right _ hi)))), Dt.chg (T := dIntS) o5 c (fun i hi => d1 i (List.mem_append_left _ (List.mem_append_right _ hi))), Dt.chg (T := dSS) o6 c (fun i hi => d1 i (List.mem_append_right _ hi)), os, trivial⟩, m1, m2⟩
theorem net_inArr {n : NetV} : ∀ i ∈ dSS.ids n.2.2.2.2.2.2.1, i ∈ dNet.ids n := fun i hi => by
  show i ∈ dMesh.ids n.1 ++ (dClasses.ids n.2.1 ++ (dSS.ids n.2.2.1 ++ (dIntS.ids n.2.2.2.1 ++ (dIntS.ids n.2.2.2.2.1 ++ (dSS.ids n.2.2.2.2.2.1 ++ (dSS.ids n.2.2.2.2.2.2.1 ++ []))))))
  simp only [List.mem_append]; right; right; right; right; right; right; left; exact hi
theorem net_ndArr {n : NetV} (nd : (dNet.ids n).Nodup) : (dSS.ids n.2.2.2.2.2.2.1).Nodup := by
  have e : dNet.ids n = (((((dMesh.ids n.1 ++ dClasses.ids n.2.1) ++ dSS.ids n.2.2.1) ++ dIntS.ids n.2.2.2.1) ++ dIntS.ids n.2.2.2.2.1) ++ dSS.ids n.2.2.2.2.2.1) ++ (dSS.ids n.2.2.2.2.2.2.1 ++ []) := by
    show dMesh.ids n.1 ++ (dClasses.ids n.2.1 ++ (dSS.ids n.2.2.1 ++ (dIntS.ids n.2.2.2.1 ++ (dIntS.ids n.2.2.2.2.1 ++ (dSS.ids n.2.2.2.2.2.1 ++ (dSS.ids n.2.2.2.2.2.2.1 ++ [])))))) = _
    simp only [List.append_assoc]
  rw [e] at nd
  exact (List.nodup_append.1 (List.nodup_append.1 nd).2.1).1
end Go.Proofs.YtcigpclbhfkgaaaGreat.V
/-! Packets are sent. -/
set_option linter.all false
namespace Go.Proofs.YtcigpclbhfkgaaaGreat.V
open Go Go.VM Go.Proofs
set_option maxRecDepth 10000
variable {frz : Nat} {H : Heap}
def sendNet (x : NetD) (p : PkD) : NetD := withSrc x (x.2.2.2.2.2.1.set p.2.1.toNat (x.2.2.2.2.2.1.getD p.2.1.toNat [] ++ flitsOf x.1.1 x.1.2.1 p))
theorem ss_set {K : Heap} {u : Value} {hs : List Value} {xss : SSD} {k : Nat} {ys : List FlitD} (h : OwL flF 157 113 K u hs (xss.set k ys)) (h1 : xss.length ≤ 2097152) (h2 : ∀ xs ∈ xss, xs.length ≤ 67108864) (h3 : ys.length ≤ 67108864) : dSS.Ow K (u, hs) (xss.set k ys) :=
  ⟨h, by simpa using h1, fun xs hx => by
    rcases List.mem_or_eq_of_mem_set hx with hx | rfl
    · exact h2 xs hx
    · exact h3⟩
theorem flitsOf_len (w h : Int) (p : PkD) : (flitsOf w h p).length ≤ 5 := by
  unfold flitsOf; split
  · rename_i g
    have := g.2.2.2.2.2; unfold inR at this; simp; omega
  · simp
theorem sL16Send_d {v : NetV} {x : NetD} {p : PkD} {m : Nat} (o : dNet.Ow H v x) (hm : p.2.1 = m) (hml : m < x.2.2.2.2.2.1.length) (hs : (x.2.2.2.2.2.1[m]).length ≤ 60) :
   wp (vcall C frz 82 [dNet.val v x, pkV p] H) (dNet.Made H (sendNet x p)) := by
  have ones := dNet_one o
  have ecopy := fun L => l15Copy_d (frz := H.length) (H := H ++ L) (v := v) (x := x) (Dt.app (T := dNet) o)
  have fo := fun F H => sFlitsOf_w (frz := F) (H := H) x.1.1 x.1.2.1 p
  obtain ⟨q1, q2, q3, q4, q5⟩ := p
  simp only at hm
  subst hm
  unfold pkV at fo ⊢
  simp only [dNet_val] at ecopy ⊢
  rw [vcall_go (fn := Tryz.f82) Tryz.func82 rfl (by kernel_rfl) rfl]
  simp only at fo
  simp [ones]
  refine wp_thn (ecopy _) ?_
  rintro _ K ⟨n, rfl, on, cn, mn, dn⟩
  simp at mn
  have qn := dNet_one on
  have lK := cn.1
  simp at lK
  simp [dNet_val, qn, VM.look]
  have hF : H.length ≤ K.length := by omega
  simp [hF]
  obtain ⟨K1, hK1⟩ : ∃ K1, K1 = K ++ [⟨[.int .i64 x.1.1, .int .i64 x.1.2.1, n.1, n.2.1.1, n.2.1.2, n.2.2.1.1, n.2.2.2.1, n.2.2.2.2.1, n.2.2.2.2.2.1.1, n.2.2.2.2.2.2.1.1, .int .i64 x.2.2.2.2.2.2.2], 0, 46⟩] := ⟨_, rfl⟩
  rw [← hK1]
  have cH : Chg H K [] := (Chg.app _).trans cn
  have c1 : Chg K K1 [] := by rw [hK1]; exact Chg.app _
  have l1 : K1.length = K.length + 1 := by rw [hK1]; simp
  have b2 : K1[H.length]? = some ⟨[.int .i64 x.1.1, .int .i64 x.1.2.1, v.1, v.2.1.1, v.2.1.2, v.2.2.1.1, v.2.2.2.1, v.2.2.2.2.1, v.2.2.2.2.2.1.1, v.2.2.2.2.2.2.1.1, .int .i64 x.2.2.2.2.2.2.2], 0, 46⟩ := box_chg (box_chg (by simp) cn (by simp)) c1 (by simp)
  have b3 : K1[H.length + 1]? = some ⟨[.int .i64 q1, .int .i64 m, .int .i64 q3, .int .i64 q4, .int .i64 q5], 0, 76⟩ := box_chg (box_chg (by simp) cn (by simp)) c1 (by simp)
  have bR : K1[H.length + 2]? = some ⟨[.int .i64 0, .int .i64 0, .slice none 0 0, .slice none 0 0, .slice none 0 0, .slice none 0 0, .slice none 0 0, .slice none 0 0, .slice none 0 0, .slice none 0 0, .int .i64 0], 0, 46⟩ := box_chg (box_chg (by simp) cn (by simp)) c1 (by simp)
  have b5 : K1[K.length]? = some ⟨[.int .i64 x.1.1, .int .i64 x.1.2.1, n.1, n.2.1.1, n.2.1.2, n.2.2.1.1, n.2.2.2.1, n.2.2.2.2.1, n.2.2.2.2.2.1.1, n.2.2.2.2.2.2.1.1, .int .i64 x.2.2.2.2.2.2.2], 0, 46⟩ := by rw [hK1]; simp
  have on1 := Dt.chg (T := dNet) on c1 (by simp)
  clear hK1
  obtain ⟨o1, o2, o3, o4, o5, o6, o7, _⟩ := on1
  obtain ⟨a, a1, a2, a3, a4⟩ := RdL_at o6.1.rd (ty := 44) (e := 113) (by simp) (by simp) hml
  rw [go_drawF (fl := [1, 3]) (h := ⟨by kernel_rfl, by kernel_rfl, by kernel_rfl, by kernel_rfl⟩)]
  have lv := fun H => @Ow_live H
  have liv := Ow_live o6.1.1
  have qa : VM.one a = true ∧ a.cells = #[a] := ⟨a4.one', a4.cells⟩
  simp [emps, empOp, empB, VM.look, b2, b3, b5, a2, a3, qn, liv]
  refine wp_thnW (fo _ _) ?_
  rintro y K2 ⟨oy, ny, c2⟩
  have b2 := box_chg b2 c2 (by simp)
  have b3 := box_chg b3 c2 (by simp)
  have bR := box_chg bR c2 (by simp)
  have b5 := box_chg b5 c2 (by simp)
  have o1 := Dt.chg (T := dMesh) o1 c2 (by simp)
  have o2 := Dt.chg (T := dClasses) o2 c2 (by simp)
  have o3 := Dt.chg (T := dSS) o3 c2 (by simp)
  have o4 := Dt.chg (T := dIntS) o4 c2 (by simp)
  have o5 := Dt.chg (T := dIntS) o5 c2 (by simp)
  have o6 := Dt.chg (T := dSS) o6 c2 (by simp)
  have o7 := Dt.chg (T := dSS) o7 c2 (by simp)
  have liv2 := Ow_live o6.1.1
  refine ⟨by simp [VM.look, b3, b5, qn, liv2], ?_⟩
  have hml' : m < n.2.2.2.2.2.1.2.length := by rw [o6.1.2.1]; exact hml
  have ea : n.2.2.2.2.2.1.2[m] = a := by rw [List.getElem?_eq_getElem hml'] at a1; exact Option.some.inj a1
  have oa : Ow flF 157 K2 a x.2.2.2.2.2.1[m] := o6.1.2.2 m a _ a1 (by simp [hml])
  have h6 : ∀ i ∈ dSS.ids n.2.2.2.2.2.1, i ∈ dNet.ids n := fun i hi => List.mem_append_right _ (List.mem_append_right _ (List.mem_append_right _ (List.mem_append_right _ (List.mem_append_right _ (List.mem_append_left _ hi)))))
  have ha6 : ∀ i ∈ ids a, i ∈ dSS.ids n.2.2.2.2.2.1 := fun i hi => mem_idsL a1 hi
  have nd6 : (dSS.ids n.2.2.2.2.2.1).Nodup := by
    have := (List.nodup_append.1 ((List.nodup_append.1 ((List.nodup_append.1 ((List.nodup_append.1 ((List.nodup_append.1 ((List.nodup_append.1 dn).2.1)).2.1)).2.1)).2.1)).2.1)).1
    exact this
  have hfl := flitsOf_len x.1.1 x.1.2.1 (q1, m, q3, q4, q5)
  obtain ⟨a', K3, hap, oa', c3, na'⟩ := oa.append (P := Tryz.prog) (frz := H.length) (ty := 113) oy.rd (by simp) (ones_flF _) (by omega) (fun i hi => by have := mn i (h6 i (ha6 i hi)); omega)
  have c3' : Chg K2 K3 (ids n.2.2.2.2.2.1.2[m]) := by rw [ea]; exact c3
  obtain ⟨K4, hst, oL, c4, ndL, idL, l4⟩ := OwL_put (frz := H.length) (et := 113) (ag := false) o6.1 nd6 hml' c3' oa' (by rw [ea]; exact na') (fun i hi => by have := mn i (h6 i hi); omega) (by simp)
  have lt6 : ∀ i ∈ dSS.ids n.2.2.2.2.2.1, i < K.length := fun i hi => dNet.lt on i (h6 i hi)
  have ida : ∀ i ∈ ids a, H.length + 3 ≤ i ∧ i < K.length := fun i hi => ⟨by have := mn i (h6 i (ha6 i hi)); omega, lt6 i (ha6 i hi)⟩
  have b33 := box_chg b3 c3 (fun hh => by have := ida _ hh; omega)
  have b35 := box_chg b5 c3 (fun hh => by have := ida _ hh; omega)
  have dav : ∀ i ∈ ids n.2.2.2.2.2.1.1, i ∉ ids a := fun i hi hh => (List.nodup_append.1 nd6).2.2 i hi i (List.mem_flatMap.2 ⟨a, List.mem_of_getElem? a1, hh⟩) rfl
  have ol3 := o6.1.1.chg c3 dav
  have liv3 := Ow_live ol3
  have hsl := o6.1.2.1
  have ix3 := ol3.rd.idx (P := Tryz.prog) (ty := 44) (e := 113) (by simp) (i := (m : Int)) (by omega) (by omega)
  have i6 : ∀ i ∈ idsL n.2.2.2.2.2.1.1 n.2.2.2.2.2.1.2, H.length + 3 ≤ i ∧ i < K.length := fun i hi => ⟨by have := mn i (h6 i hi); omega, lt6 i hi⟩
  have b43 := box_chg b3 c4 (fun hh => by have := i6 _ hh; omega)
  have b45 := box_chg b5 c4 (fun hh => by have := i6 _ hh; omega)
  have b4R := box_chg bR c4 (fun hh => by have := i6 _ hh; omega)
  have liv4 := Ow_live oL.1
  have qa' : VM.one a' = true ∧ a'.cells = #[a'] := ⟨oa'.rd.one', oa'.rd.cells⟩
  simp only [Int.toNat_natCast, Nat.mul_one, show Fl.val.n = 1 from rfl] at ix3
  have gR := set_get (r' := ⟨[.int .i64 x.1.1, .int .i64 x.1.2.1, n.1, n.2.1.1, n.2.1.2, n.2.2.1.1, n.2.2.2.1, n.2.2.2.2.1, n.2.2.2.2.2.1.1, n.2.2.2.2.2.2.1.1, .int .i64 x.2.2.2.2.2.2.2], 0, 46⟩) b4R
  have hF2 : H.length ≤ H.length + 2 := by omega
  simp [-vappend_nil, -vappend_mk, VM.look, hap, hst, b33, b35, ix3, liv3, b43, b45, liv4, qn, qa', b4R, gR, hF2]
  have e : sendNet x (q1, m, q3, q4, q5) = withSrc x (x.2.2.2.2.2.1.set m (x.2.2.2.2.2.1[m] ++ flitsOf x.1.1 x.1.2.1 (q1, m, q3, q4, q5))) := by
    unfold sendNet
    simp only [Int.toNat_natCast, List.getD_eq_getElem?_getD, List.getElem?_eq_getElem hml, Option.getD_some]
  rw [e]
  have on2 : dNet.Ow K2 n x := ⟨o1, o2, o3, o4, o5, o6, o7, trivial⟩
  have l2 := c2.1
  obtain ⟨p1, p2, p3⟩ := net_putSrc (u := (n.2.2.2.2.2.1.1, n.2.2.2.2.2.1.2.set m a')) on2 dn c4 (ss_set oL o6.2.1 o6.2.2 (by simp; omega)) ndL idL
  have eR : Chg K4 (K4.set (H.length + 2) ⟨[.int .i64 x.1.1, .int .i64 x.1.2.1, n.1, n.2.1.1, n.2.1.2, n.2.2.1.1, n.2.2.2.1, n.2.2.2.2.1, n.2.2.2.2.2.1.1, n.2.2.2.2.2.2.1.1, .int .i64 x.2.2.2.2.2.2.2], 0, 46⟩) [H.length + 2] := chg_set _ _
  have pm : ∀ i ∈ dNet.ids (putSrc n (n.2.2.2.2.2.1.1, n.2.2.2.2.2.1.2.set m a')), H.length + 3 ≤ i := fun i hi => by
    rcases p3 i hi with g | g
    · have := mn i g; omega
    · omega
  refine ⟨putSrc n (n.2.2.2.2.2.1.1, n.2.2.2.2.2.1.2.set m a'), rfl, Dt.chg (T := dNet) p1 eR (fun i hi hh => by have := pm i hi; simp at hh; omega), ?_, fun i hi => by have := pm i hi; omega, p2⟩
  exact (((cH.trans c1).trans c2).trans' c4 (fun i hi => .inr (by have := i6 i hi; omega))).trans' eR (fun i hi => .inr (by simp at hi; omega))
end Go.Proofs.YtcigpclbhfkgaaaGreat.V
/-! A packet is sent in place. -/
set_option linter.all false
namespace Go.Proofs.YtcigpclbhfkgaaaGreat.V
open Go Go.VM Go.Proofs
set_option maxRecDepth 10000
variable {frz : Nat} {H : Heap}
def netCells (v : NetV) (x : NetD) : List Value := [.int .i64 x.1.1, .int .i64 x.1.2.1, v.1, v.2.1.1, v.2.1.2, v.2.2.1.1, v.2.2.2.1, v.2.2.2.2.1, v.2.2.2.2.2.1.1, v.2.2.2.2.2.2.1.1, .int .i64 x.2.2.2.2.2.2.2]
/-- a packet may be sent -/
def sendOk (x : NetD) (p : PkD) : Prop := packetOk x.1.1 x.1.2.1 p ∧ ((x.2.2.2.2.2.1.getD p.2.1.toNat []).length : Int) + p.2.2.2.2 ≤ 60
instance (x : NetD) (p : PkD) : Decidable (sendOk x p) := inferInstanceAs (Decidable (_ ∧ _))
theorem flitsOf_ok {w h : Int} {p : PkD} (g : packetOk w h p) : ((flitsOf w h p).length : Int) = p.2.2.2.2 := by
  unfold flitsOf; rw [if_pos g]
  have := g.2.2.2.2.2; unfold inR at this; simp; omega
theorem flitsOf_no {w h : Int} {p : PkD} (g : ¬ packetOk w h p) : flitsOf w h p = [] := if_neg g
theorem send_w {v : NetV} {x : NetD} {p : PkD} {id : Nat} {e : TypeId} {tail : List Value} (hr : H[id]? = some ⟨netCells v x ++ tail, 0, e⟩) (o : dNet.Ow H v x) (nd : (dNet.ids v).Nodup) (hf : ∀ i ∈ dNet.ids v, frz ≤ i) (hid : id ∉ dNet.ids v) (hN : (x.2.2.2.2.2.1.length : Int) = cnt x.1.1 x.1.2.1) (hs : ∀ l ∈ x.2.2.2.2.2.1, l.length ≤ 60) :
   wp (vcall C frz 33 [.pointer (some ⟨id, 0, some 0⟩), pkV p] H) (fun r H' => r = .bool (decide (sendOk x p)) ∧
     if sendOk x p then ∃ hs' : List Value, dNet.Ow H' (putSrc v (v.2.2.2.2.2.1.1, hs')) (sendNet x p) ∧ (dNet.ids (putSrc v (v.2.2.2.2.2.1.1, hs'))).Nodup ∧ (∀ i ∈ dNet.ids (putSrc v (v.2.2.2.2.2.1.1, hs')), i ∈ dNet.ids v ∨ H.length ≤ i) ∧ Chg H H' (dSS.ids v.2.2.2.2.2.1) else Chg H H' []) := by
  have ones := dNet_one o
  have fo := fun F H => flitsOf_w (frz := F) (H := H) x.1.1 x.1.2.1 p
  rw [vcall_go (fn := Tryz.f33) Tryz.func33 rfl (by kernel_rfl) rfl]
  have hlt := box_lt hr
  unfold netCells at hr
  simp only [List.cons_append, List.nil_append] at hr
  obtain ⟨q1, q2, q3, q4, q5⟩ := p
  unfold pkV at fo ⊢
  simp only at fo
  have hr1 := fun r => get_app' hr [r]
  simp
  rw [go_draw (h := by kernel_rfl)]
  simp [VM.look, VM.vnil, hr1]
  refine wp_thn (fo _ _) ?_
  rintro y K ⟨oy, ny, c1⟩
  have hr2 := box_chg (hr1 _) c1 (by simp)
  have b3 : K[H.length]? = some ⟨[.int .i64 q1, .int .i64 q2, .int .i64 q3, .int .i64 q4, .int .i64 q5], 0, 76⟩ := box_chg (by simp) c1 (by simp)
  have cH : Chg H K [] := (Chg.app _).trans c1
  have on := Dt.chg (T := dNet) o cH (by simp)
  have ly := oy.rd.len (P := Tryz.prog) (ty := 113) (by simp)
  simp
  rw [go_draw (h := by kernel_rfl)]
  by_cases g0 : packetOk x.1.1 x.1.2.1 (q1, q2, q3, q4, q5)
  rotate_left
  · have hso : ¬ sendOk x (q1, q2, q3, q4, q5) := fun k => g0 k.1
    rw [flitsOf_no g0] at ly
    simp [ly, hso]
    exact cH
  have hfl := flitsOf_ok g0
  have hto := g0.2.1
  unfold isN at hto
  simp only at hfl hto
  obtain ⟨m, rfl⟩ : ∃ m : Nat, q2 = m := ⟨q2.toNat, by omega⟩
  have hml : m < x.2.2.2.2.2.1.length := by omega
  have hgd : x.2.2.2.2.2.1.getD m [] = x.2.2.2.2.2.1[m] := by simp [List.getD_eq_getElem?_getD, List.getElem?_eq_getElem hml]
  have hsm := hs _ (List.getElem_mem hml)
  have hln := g0.2.2.2.2.2
  unfold inR at hln
  simp only at hln
  have hfn : ¬ q5 = 0 := by omega
  obtain ⟨o1, o2, o3, o4, o5, o6, o7, _⟩ := on
  obtain ⟨a, a1, a2, a3, a4⟩ := RdL_at o6.1.rd (ty := 44) (e := 113) (by simp) (by simp) hml
  have la := a4.len (P := Tryz.prog) (ty := 113) (by simp)
  have e1 : ∀ [Inhabited Unit], IntKind.i64.wrap ((x.2.2.2.2.2.1[m].length : Int) + q5) = (x.2.2.2.2.2.1[m].length : Int) + q5 := by intro _; exact w64 (by omega) (by omega)
  simp [VM.look, VM.vnil, ly, hfn, hr2, b3, a2, a3, la, hfl, e1]
  refine wp_dec ?_ ?_ <;> intro g1
  · have hso : ¬ sendOk x (q1, (m : Int), q3, q4, q5) := fun k => by have := k.2; simp only [Int.toNat_natCast, hgd] at this; omega
    simp [hso]
    exact cH
  have hso : sendOk x (q1, (m : Int), q3, q4, q5) := ⟨g0, by simp only [Int.toNat_natCast, hgd]; omega⟩
  simp
  have liv := Ow_live o6.1.1
  have qa : VM.one a = true ∧ a.cells = #[a] := ⟨a4.one', a4.cells⟩
  have hml' : m < v.2.2.2.2.2.1.2.length := by rw [o6.1.2.1]; exact hml
  have ea : v.2.2.2.2.2.1.2[m] = a := by rw [List.getElem?_eq_getElem hml'] at a1; exact Option.some.inj a1
  have oa : Ow flF 157 K a x.2.2.2.2.2.1[m] := o6.1.2.2 m a _ a1 (by simp [hml])
  have h6 := net_inSrc (n := v)
  have ha6 : ∀ i ∈ ids a, i ∈ dSS.ids v.2.2.2.2.2.1 := fun i hi => mem_idsL a1 hi
  have nd6 := net_ndSrc nd
  have lt6 : ∀ i ∈ dSS.ids v.2.2.2.2.2.1, i < H.length := fun i hi => dNet.lt o i (h6 i hi)
  obtain ⟨a', K3, hap, oa', c3, na'⟩ := oa.append (P := Tryz.prog) (frz := frz) (ty := 113) oy.rd (by simp) (ones_flF _) (by omega) (fun i hi => hf i (h6 i (ha6 i hi)))
  have c3' : Chg K K3 (ids v.2.2.2.2.2.1.2[m]) := by rw [ea]; exact c3
  obtain ⟨K4, hst, oL, c4, ndL, idL, l4⟩ := OwL_put (frz := frz) (et := 113) (ag := false) o6.1 nd6 hml' c3' oa' (by rw [ea]; exact na') (fun i hi => hf i (h6 i hi)) (by simp)
  have b33 := box_chg b3 c3 (fun hh => by have := lt6 _ (ha6 _ hh); omega)
  have b35 := box_chg hr2 c3 (fun hh => hid (h6 _ (ha6 _ hh)))
  have dav : ∀ i ∈ ids v.2.2.2.2.2.1.1, i ∉ ids a := fun i hi hh => (List.nodup_append.1 nd6).2.2 i hi i (List.mem_flatMap.2 ⟨a, List.mem_of_getElem? a1, hh⟩) rfl
  have ol3 := o6.1.1.chg c3 dav
  have liv3 := Ow_live ol3
  have hsl := o6.1.2.1
  have ix3 := ol3.rd.idx (P := Tryz.prog) (ty := 44) (e := 113) (by simp) (i := (m : Int)) (by omega) (by omega)
  have b43 := box_chg b3 c4 (fun hh => by have := lt6 _ hh; omega)
  have b45 := box_chg hr2 c4 (fun hh => hid (h6 _ hh))
  have liv4 := Ow_live oL.1
  have qa' : VM.one a' = true ∧ a'.cells = #[a'] := ⟨oa'.rd.one', oa'.rd.cells⟩
  simp only [Int.toNat_natCast, Nat.mul_one, show Fl.val.n = 1 from rfl] at ix3
  rw [go_drawF (fl := [3, 5]) (h := ⟨by kernel_rfl, by kernel_rfl, by kernel_rfl, by kernel_rfl⟩)]
  simp [emps, empOp, empB, -vappend_nil, -vappend_mk, VM.look, VM.vnil, hr2, b3, a2, a3, hap, hst, b33, b35, ix3, liv, liv3, b43, b45, liv4, ones, qa', hso]
  have en : sendNet x (q1, m, q3, q4, q5) = withSrc x (x.2.2.2.2.2.1.set m (x.2.2.2.2.2.1[m] ++ flitsOf x.1.1 x.1.2.1 (q1, m, q3, q4, q5))) := by
    unfold sendNet
    simp only [Int.toNat_natCast, hgd]
  rw [en]
  have on2 : dNet.Ow K v x := ⟨o1, o2, o3, o4, o5, o6, o7, trivial⟩
  have lK := cH.1
  obtain ⟨p1, p2, p3⟩ := net_putSrc (u := (v.2.2.2.2.2.1.1, v.2.2.2.2.2.1.2.set m a')) on2 nd c4 (ss_set oL o6.2.1 o6.2.2 (by simp; omega)) ndL idL
  refine ⟨_, p1, p2, fun i hi => ?_, (cH.mono (fun _ h => by cases h)).trans c4⟩
  rcases p3 i hi with g | g
  · exact .inl g
  · exact .inr (by omega)
end Go.Proofs.YtcigpclbhfkgaaaGreat.V
/-! Links. -/
set_option linter.all false
namespace Go.Proofs.YtcigpclbhfkgaaaGreat.V
open Go Go.VM Go.Proofs
set_option maxRecDepth 10000
variable {frz : Nat} {H : Heap}
theorem opposite_c (p : Int) : vcall C frz 191 [.int .i64 p] H = some (.int .i64 (opp p), H) := by
  rw [vcall_go (fn := Tryz.f191) Tryz.func191 rfl (by kernel_rfl) rfl]
  simp
  refine br_dec _ ?_ ?_ <;> intro h1 <;> simp [h1, opp, inside_c]
  refine br_dec _ ?_ ?_ <;> intro h2
  · obtain ⟨h3, h4⟩ := h2
    simp [h3, h4]
    rw [w64 (by omega) (by omega), Int.tmod_eq_emod_of_nonneg (by omega)]
  · have h3 : ¬ (0 ≤ p ∧ p ≤ 3) := h2
    simp [h3]
theorem sOpposite_c (p : Int) : vcall C frz 174 [.int .i64 p] H = some (.int .i64 (opp p), H) := by
  rw [vcall_go (fn := Tryz.f174) Tryz.func174 rfl (by kernel_rfl) rfl]
  simp
  refine br_dec _ ?_ ?_ <;> intro h1 <;> simp [h1, opp, l01In_c]
  refine br_dec _ ?_ ?_ <;> intro h2
  · obtain ⟨h3, h4⟩ := h2
    simp [h3, h4]
    rw [w64 (by omega) (by omega), Int.tmod_eq_emod_of_nonneg (by omega)]
  · have h3 : ¬ (0 ≤ p ∧ p ≤ 3) := h2
    simp [h3]
theorem opp_range (p : Int) : -1 ≤ opp p ∧ opp p ≤ 4 := by unfold opp; split <;> (try split) <;> omega
theorem endC_range (w h c : Int) : -1 ≤ endC w h c ∧ endC w h c < 16 := next_range _ _ _ _
theorem leads_lt {w h c : Int} (h1 : leads w h c) : 0 ≤ c ∧ c < 64 := by have := cnt_range w h; have := h1.1; omega
theorem back_w64 {w h c : Int} : IntKind.i64.wrap (4 * endC w h c) = 4 * endC w h c ∧ IntKind.i64.wrap (4 * endC w h c + opp (c % 4)) = backC w h c := by
  have h1 := endC_range w h c
  have h2 := opp_range (c % 4)
  exact ⟨w64 (by omega) (by omega), by unfold backC; exact w64 (by omega) (by omega)⟩
theorem back_c (w h : Int) (v : Value) (b : List Int) (c : Int) (hI : IsI H v b) (h0 : leads w h c) :
   vcall C frz 247 [.agg #[.int .i64 w, .int .i64 h, v], .int .i64 c] H = some (.int .i64 (backC w h c), H) := by
  rw [vcall_go (fn := Tryz.f247) Tryz.func247 rfl (by kernel_rfl) rfl]
  obtain ⟨e1, e2⟩ := chan_div h0.1
  obtain ⟨e3, e4⟩ := back_w64 (w := w) (h := h) (c := c)
  have e5 : next w h (c / 4) (c % 4) = endC w h c := rfl
  simp [hI.one', hI.cells, endOf_c _ _ _ _ _ (hI.app _) h0, e2, opposite_c, e3, e4, e5]
theorem isLink_c (w h : Int) (v : Value) (b : List Int) (c : Int) (hI : IsI H v b) (hl : b.length ≤ 1073741824) :
   vcall C frz 212 [.agg #[.int .i64 w, .int .i64 h, v], .int .i64 c] H = some (.bool (decide (meshOk w h b ∧ link w h b c)), H) := by
  rw [vcall_go (fn := Tryz.f212) Tryz.func212 rfl (by kernel_rfl) rfl]
  simp [hI.one', hI.cells]
  rw [go_draw (h := by kernel_rfl)]
  simp [hI.one', hI.cells, hasChannel_c _ _ _ _ _ (hI.app _) hl, -Bool.decide_and]
  refine gd_dec _ _ ?_ ?_ <;> intro h1
  · simp [h1, hI.one', hI.cells, back_c _ _ _ _ _ (hI.app _) h1.2.1, hasChannel_c _ _ _ _ _ (hI.app _) hl, link]
  · have h2 : ¬ (meshOk w h b ∧ link w h b c) := fun hh => h1 ⟨hh.1, hh.2.1⟩
    simp [h1]
    exact fun a b => h2 ⟨a, b⟩
theorem l31Link_c (w h : Int) (v : Value) (b : List Int) (c : Int) (hI : IsI H v b) (hl : b.length ≤ 1073741824) :
   vcall C frz 236 [.agg #[.int .i64 w, .int .i64 h, v], .int .i64 c] H = some (.bool (decide (link w h b c)), H) := by
  rw [vcall_go (fn := Tryz.f236) Tryz.func236 rfl (by kernel_rfl) rfl]
  simp [hI.one', hI.cells, l03Has_c _ _ _ _ _ (hI.app _) hl, -Bool.decide_and]
  refine br_dec _ ?_ ?_ <;> intro h1
  · obtain ⟨e1, e2⟩ := chan_div h1.1.1
    obtain ⟨e3, e4⟩ := back_w64 (w := w) (h := h) (c := c)
    have e5 : next w h (c / 4) (c % 4) = endC w h c := rfl
    simp
    rw [go_draw (h := by kernel_rfl)]
    simp [h1, hI.one', hI.cells, e1, e2, sNextNode_c, sOpposite_c, e3, e4, e5, l03Has_c _ _ _ _ _ (hI.app _) hl, link]
  · simp [link, h1]
end Go.Proofs.YtcigpclbhfkgaaaGreat.V
