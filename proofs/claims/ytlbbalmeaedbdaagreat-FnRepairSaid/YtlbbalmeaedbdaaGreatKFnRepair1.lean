/- Texts of a proof, joined. -/
import Derived.Test.YtlbbalmeaedbdaaGreatKM0
import Derived.Test.YtlbbalmeaedbdaaGreatKM1
import Derived.Test.YtlbbalmeaedbdaaGreatKM2
import Derived.Test.YtlbbalmeaedbdaaGreatKFnRepair0
/-! Tables: the program's own walk. -/
set_option linter.all false
namespace Go.Proofs.YtlbbalmeaedbdaaGreat.V
open Go Go.VM Go.Proofs
set_option maxRecDepth 10000
variable {frz : Nat} {H : Heap}
theorem portAt_c (w h : Int) (v u : Value) (b T : List Int) (a to : Int) (hI : IsI H v b) (hT : IsI H u T) (hl : b.length ≤ 1073741824) (hz : tsized w h b T) (ha : isN w h a) (hto : isN w h to) :
   vcall C frz 60 [.agg #[.int .i64 w, .int .i64 h, v], .agg #[u], .int .i64 a, .int .i64 to] H =
    some (.int .i64 (if inR 0 (portOf w h T a to) 4 then portOf w h T a to else -1), H) := by
  rw [vcall_go (fn := Tryz.f60) Tryz.func60 rfl (by kernel_rfl) rfl]
  have hc := cnt_range w h
  obtain ⟨k0, k1, k2, k3⟩ := at_small ha hto
  have hTl := hz.2
  have hc2 : cnt w h * cnt w h ≤ 16 * 16 := Int.mul_le_mul hc.2 hc.2 hc.1 (by omega)
  have hc3 : 0 * 0 ≤ cnt w h * cnt w h := Int.mul_le_mul hc.1 hc.1 (by omega) hc.1
  have e0 : IntKind.i64.wrap (cnt w h * cnt w h) = cnt w h * cnt w h := w64 (by omega) (by omega)
  have e1 : IntKind.i64.wrap (a * cnt w h) = a * cnt w h := w64 (by omega) (by omega)
  have e2 : IntKind.i64.wrap (a * cnt w h + to) = a * cnt w h + to := w64 (by omega) (by have := hto.2; omega)
  have q1 : ∀ L, vindexAddr Tryz.prog (H ++ L) 26 u (.int .i64 (a * cnt w h + to)) = some (elp u (a * cnt w h + to).toNat) := fun L => hT.idxA (e := 3) (by simp) k0 (by omega)
  have q2 : ∀ L, vload Tryz.prog (H ++ L) 3 (elp u (a * cnt w h + to).toNat) = some (.int .i64 (portOf w h T a to)) := fun L => hT.loadA (by simp) (by omega)
  simp [hI.one', hI.cells, hT.one', hT.cells, nodeCount_c, meshOk_c _ _ _ _ (hI.app _) hl, hz.1, inside_c, isN_inR, ha, hto, e0, e1, e2, q1, q2, hT.lenA, hTl]
  try refine br_dec _ ?_ ?_ <;> intro hr <;> simp [hr, q1, q2, e1, e2]
/-- what the program's walk gives back -/
def ret (H : Heap) (xs : List Int) : Value × Heap := if xs = [] then (.slice none 0 0, H) else (.slice (some ⟨H.length, 0, some 0⟩) xs.length 0, H ++ [⟨xs.map (.int .i64), 0, 3⟩])
theorem walk_c (w h : Int) (v u : Value) (b T : List Int) (a to : Int) (hI : IsI H v b) (hT : IsI H u T) (hl : b.length ≤ 1073741824) (hz : tsized w h b T) (ha : isN w h a) (hto : isN w h to) (hne : a ≠ to) :
   vcall C frz 31 [.agg #[.int .i64 w, .int .i64 h, v], .agg #[u], .int .i64 a, .int .i64 to] H = some (ret H (walk w h b T a to)) := by
  rw [vcall_go (fn := Tryz.f31) Tryz.func31 rfl (by kernel_rfl) rfl]
  have hc := cnt_range w h
  simp [hI.one', hI.cells, hT.one', hT.cells, nodeCount_c, meshOk_c _ _ _ _ (hI.app _) hl, hz.1, isNode_c, ha, hto, hne]
  refine go_inv (fun n t H' => ∃ (o : List Int) (g : Nat) (x : Int) (G : Heap), n = (cnt w h).toNat + 1 - o.length ∧ t 3 = .int .i64 to ∧ t 4 = .pointer (some ⟨H.length, 0, some 0⟩) ∧ t 5 = .pointer (some ⟨H.length + 1, 0, some 0⟩) ∧
    t 9 = .slice (some ⟨H.length + 2, 0, some g⟩) o.length 0 ∧ t 10 = .int .i64 x ∧
    H' = H ++ ⟨[.int .i64 w, .int .i64 h, v], 0, 28⟩ :: ⟨[u], 0, 32⟩ :: ⟨o.map (.int .i64), g, 3⟩ :: G ∧
    o.length ≤ (cnt w h).toNat ∧ isN w h x ∧ walkN w h b T to ((cnt w h).toNat - o.length) x o = walk w h b T a to ∧ (o = [] → x ≠ to)) ?_
    (n := (cnt w h).toNat + 1) ⟨[], 0, a, [], by simp [ha, walk, hne]⟩
  rintro n t H' ⟨o, g, x, G, rfl, h3, h4, h5, h9, h10, rfl, ho1, hx, hw, hox⟩ ih
  have hpa := fun F L => portAt_c (frz := F) (H := H ++ L) w h v u b T x to (hI.app _) (hT.app _) hl hz hx hto
  have hw0 : portOf w h T x to ≠ 4 → ¬ stepOk w h b T x to → walk w h b T a to = [] := fun hp hh => by
    rw [← hw]; cases (cnt w h).toNat - o.length <;> simp [walkN, hp, hh]
  simp [h3, h4, h5, h9, h10, hI.one', hI.cells, hT.one', hT.cells, hpa]
  have hnil : walk w h b T a to = [] → (Value.slice none 0 0, H) = ret H (walk w h b T a to) := fun hh => by rw [hh]; rfl
  by_cases hr : inR 0 (portOf w h T x to) 4
  · have hlt : ¬ portOf w h T x to < 0 := by have := hr.1; omega
    simp [hr, hlt]
    refine br_dec _ ?_ ?_ <;> intro hp
    · have hw' : walk w h b T a to = if x = to then o else [] := by
        rw [← hw]; cases (cnt w h).toNat - o.length <;> simp [walkN, hp]
      simp [h3, h4, h5, h9, h10, hp]
      refine br_dec _ ?_ ?_ <;> intro hq
      · have hon : o ≠ [] := fun hh => hox hh hq
        rw [if_pos hq] at hw'
        simp [h3, h4, h5, h9, h10, hq, hw', ret, hon]
      · rw [if_neg hq] at hw'
        simp [h3, h4, h5, h9, h10, hq, hw', ret]
    · have hr3 : inR 0 (portOf w h T x to) 3 := ⟨hr.1, by have := hr.2; omega⟩
      have e3 : IntKind.i64.wrap (4 * x) = 4 * x := w64 (by have := hx.1; omega) (by have := hx.2; omega)
      have e4 : IntKind.i64.wrap (4 * x + portOf w h T x to) = 4 * x + portOf w h T x to := w64 (by have := hx.1; have := hr.1; omega) (by have := hx.2; have := hr.2; omega)
      simp [h3, h4, h5, h9, h10, hp, hI.one', hI.cells, e3, e4, hasChannel_c _ _ _ _ _ (hI.app _) hl, hz.1]
      refine gd_dec _ _ ?_ ?_ <;> intro hh
      · obtain ⟨s1, s2, s3⟩ := step_next hr3 hh
        have he := fun F L => endOf_c (frz := F) (H := H ++ L) w h v b (4 * x + portOf w h T x to) (hI.app _) hh.1
        rw [s1, s2] at he
        simp [h3, h4, h5, h9, h10, hp, hh, hI.one', hI.cells, e3, e4, nodeCount_c]
        refine br_dec _ ?_ ?_ <;> intro hf
        · have hwz : walk w h b T a to = [] := by
            rw [show (cnt w h).toNat - o.length = 0 by omega] at hw
            rw [← hw, walkN, if_neg hp]
          simp [h3, h4, h5, h9, h10, hp, hh, hf, hnil hwz]
        · simp [h3, h4, h5, h9, h10, hp, hh, hf, hI.one', hI.cells, e3, e4]
          refine vneed_eq (by omega) ?_
          simp [h3, h4, h5, h9, h10, hp, hh, hf, hI.one', hI.cells, e3, e4, he]
          refine ih ((cnt w h).toNat + 1 - (o.length + 1)) _ _ ⟨o ++ [4 * x + portOf w h T x to], g + 1, next w h x (portOf w h T x to), _, by simp, by simp [h3], by simp [h4], by simp [h5], by simp, by simp, by simp; rfl, by simp; omega, s3, ?_, by simp⟩ (by omega)
          rw [show (cnt w h).toNat - o.length = ((cnt w h).toNat - (o ++ [4 * x + portOf w h T x to]).length) + 1 by simp; omega] at hw
          rw [← hw, walkN, if_neg hp, if_pos ⟨hr3, hh⟩]
      · simp [h3, h4, h5, h9, h10, hp, hh]
        exact hnil (hw0 hp (fun hs => hh hs.2))
  · simp [hr]
    refine hnil (hw0 (fun hp => hr ?_) fun hs => hr ⟨hs.1.1, by have := hs.1.2; omega⟩)
    rw [hp]; exact ⟨by omega, by omega⟩
end Go.Proofs.YtlbbalmeaedbdaaGreat.V
/-! Tables that are valid. -/
set_option linter.all false
namespace Go.Proofs.YtlbbalmeaedbdaaGreat.V
open Go Go.VM Go.Proofs
set_option maxRecDepth 10000
variable {frz : Nat} {H : Heap}
theorem sq_small (w h : Int) : IntKind.i64.wrap (cnt w h * cnt w h) = cnt w h * cnt w h := by
  have hc := cnt_range w h
  have hc2 : cnt w h * cnt w h ≤ 16 * 16 := Int.mul_le_mul hc.2 hc.2 hc.1 (by omega)
  have hc3 : 0 * 0 ≤ cnt w h * cnt w h := Int.mul_le_mul hc.1 hc.1 (by omega) hc.1
  exact w64 (by omega) (by omega)
def good (w h : Int) (b T : List Int) (a c : Nat) : Prop := ((a : Int) = c → portOf w h T a a = 4) ∧ ((a : Int) ≠ c → walk w h b T a c ≠ [])
theorem tableOk_iff (w h : Int) (b T : List Int) : tableOk w h b T ↔ tsized w h b T ∧ ∀ a, a < (cnt w h).toNat → ∀ c, c < (cnt w h).toNat → good w h b T a c := by
  unfold tableOk good
  refine and_congr Iff.rfl ⟨fun k a ha c hc => ?_, fun k a ha c hc => ?_⟩
  · exact ⟨fun e => (k a ha c hc).1 (by omega), fun e => (k a ha c hc).2 (by omega)⟩
  · exact ⟨fun e => (k a ha c hc).1 (by omega), fun e => (k a ha c hc).2 (by omega)⟩
theorem isN_nat {w h : Int} {a : Nat} (k : a < (cnt w h).toNat) : isN w h a := ⟨by omega, by omega⟩
def rowPairs (n a m : Nat) : List (Nat × Nat) := ((List.range m).filter (fun c => a ≠ c)).map fun c => (a, c)
/-- the pairs in the order of the visits -/
def allPairs (n m : Nat) : List (Nat × Nat) := (List.range m).flatMap fun a => rowPairs n a n
theorem rowPairs_eq (n a m : Nat) (h : a = m) : rowPairs n a (m + 1) = rowPairs n a m := by
  simp [rowPairs, List.range_succ, h]
theorem rowPairs_ne (n a m : Nat) (h : a ≠ m) : rowPairs n a (m + 1) = rowPairs n a m ++ [(a, m)] := by
  simp [rowPairs, List.range_succ, h]
theorem allPairs_succ (n m : Nat) : allPairs n (m + 1) = allPairs n m ++ rowPairs n m n := by
  simp [allPairs, List.range_succ]
theorem mem_allPairs {n a c : Nat} : (a, c) ∈ allPairs n n ↔ a < n ∧ c < n ∧ a ≠ c := by
  simp [allPairs, rowPairs]
theorem pairs_w (w h : Int) (f : Value) {Q : Value → Heap → Prop} (Inv : List (Nat × Nat) → Heap → Prop)
    (h0 : Inv [] (H ++ [⟨[.int .i64 w, .int .i64 h], 0, 25⟩]))
    (hs : ∀ (done : List (Nat × Nat)) (a c : Nat) (H' : Heap), a < (cnt w h).toNat → c < (cnt w h).toNat → a ≠ c → Inv done H' → wp (vclos (vcall C frz) f [.int .i64 a, .int .i64 c] H') fun r H'' => (r = .bool true ∧ Inv (done ++ [(a, c)]) H'') ∨ (r = .bool false ∧ Q (.bool false) H''))
    (he : ∀ H', Inv (allPairs (cnt w h).toNat (cnt w h).toNat) H' → Q (.bool true) H') :
    wp (vcall C frz 29 [.agg #[.int .i64 w, .int .i64 h], f] H) Q := by
  rw [vcall_go (fn := Tryz.f29) Tryz.func29 rfl (by kernel_rfl) rfl]
  have hc := cnt_range w h
  simp [nodeCount_c]
  refine wp_inv (fun n t H' => ∃ (i : Nat), n = (cnt w h).toNat - i ∧ i ≤ (cnt w h).toNat ∧ t 1 = f ∧ t 5 = .int .i64 (cnt w h) ∧ t 10 = .int .i64 (cnt w h) ∧ t 11 = .int .i64 i ∧
    Inv (allPairs (cnt w h).toNat i) H') ?_ (n := (cnt w h).toNat) ⟨0, by simp [allPairs, h0]⟩
  rintro n t H' ⟨i, rfl, hi, h1, h5, h10, h11, hk⟩ ih
  simp [h1, h5, h10, h11]
  refine wp_dec ?_ ?_ <;> intro hlt
  · simp [h1, h5, h10, h11, hlt]
    refine wp_inv (fun n t H' => ∃ (j : Nat), n = (cnt w h).toNat - j ∧ j ≤ (cnt w h).toNat ∧ t 1 = f ∧ t 5 = .int .i64 (cnt w h) ∧ t 10 = .int .i64 (cnt w h) ∧ t 11 = .int .i64 i ∧ t 6 = .int .i64 i ∧ t 14 = .int .i64 (cnt w h) ∧ t 15 = .int .i64 j ∧
      Inv (allPairs (cnt w h).toNat i ++ rowPairs (cnt w h).toNat i j) H') ?_ (n := (cnt w h).toNat) ⟨0, by simp [h1, h5, h10, h11, rowPairs, hk]⟩
    clear h1 h5 h10 h11 hk
    rintro n t H' ⟨j, rfl, hj, h1, h5, h10, h11, h6, h14, h15, hk⟩ ih2
    simp [h1, h5, h10, h11, h6, h14, h15]
    refine wp_dec ?_ ?_ <;> intro hlj
    · have ni : i < (cnt w h).toNat := by omega
      have nj : j < (cnt w h).toNat := by omega
      have yes := fun (t' : Env) (H' : Heap) (x1 : t' 1 = f) (x5 : t' 5 = .int .i64 (cnt w h)) (x10 : t' 10 = .int .i64 (cnt w h)) (x11 : t' 11 = .int .i64 i) (x6 : t' 6 = .int .i64 i) (x14 : t' 14 = .int .i64 (cnt w h)) (x15 : t' 15 = .int .i64 (j + 1 : Nat)) (hg : Inv (allPairs (cnt w h).toNat i ++ rowPairs (cnt w h).toNat i (j + 1)) H') =>
        ih2 ((cnt w h).toNat - (j + 1)) t' H' ⟨j + 1, rfl, by omega, x1, x5, x10, x11, x6, x14, x15, hg⟩ (by omega)
      simp [h1, h5, h10, h11, h6, h14, h15, hlj]
      refine wpg_dec ?_ ?_ <;> intro hij
      · simp [h1, h5, h10, h11, h6, h14, h15, hlj, hij]
        refine yes _ _ (by simp [h1]) (by simp [h5]) (by simp [h10]) (by simp [h11]) (by simp [h6]) (by simp [h14]) ?_ (by rw [rowPairs_eq _ _ _ (by omega)]; exact hk)
        simp; rw [w64 (by omega) (by omega)]
      · simp [h1, h5, h10, h11, h6, h14, h15, hlj, hij]
        refine wp_thn (hs _ i j H' ni nj (by omega) hk) ?_
        rintro r H'' (⟨rfl, hq⟩ | ⟨rfl, hq⟩)
        · simp [h1, h5, h10, h11, h6, h14, h15, hlj, hij]
          refine yes _ _ (by simp [h1]) (by simp [h5]) (by simp [h10]) (by simp [h11]) (by simp [h6]) (by simp [h14]) ?_ (by rw [rowPairs_ne _ _ _ (by omega), ← List.append_assoc]; exact hq)
          simp; rw [w64 (by omega) (by omega)]
        · simp [h1, h5, h10, h11, h6, h14, h15, hlj, hij]
          exact hq
    · have : j = (cnt w h).toNat := by omega
      subst this
      simp [h1, h5, h10, h11, h6, h14, h15, hlj]
      refine ih ((cnt w h).toNat - (i + 1)) _ _ ⟨i + 1, rfl, by omega, by simp [h1], by simp [h5], by simp [h10], ?_, by rw [allPairs_succ]; exact hk⟩ (by omega)
      · simp; rw [w64 (by omega) (by omega)]
  · simp [h1, h5, h10, h11, hlt]
    have : i = (cnt w h).toNat := by omega
    subst this
    exact he _ hk
theorem tableOk1_c (w h : Int) (v u : Value) (b T : List Int) (a c : Int) (r1 r2 : Nat) (hI : IsI H v b) (hT : IsI H u T) (hl : b.length ≤ 1073741824) (hz : tsized w h b T) (ha : isN w h a) (hto : isN w h c) (hne : a ≠ c)
    (g1 : H[r1]? = some ⟨[.int .i64 w, .int .i64 h, v], 0, 28⟩) (g2 : H[r2]? = some ⟨[u], 0, 32⟩) :
   vcall C frz 30 [.int .i64 a, .int .i64 c, .pointer (some ⟨r1, 0, some 0⟩), .pointer (some ⟨r2, 0, some 0⟩)] H = some (.bool (!decide (walk w h b T a c = [])), H) := by
  rw [vcall_go (fn := Tryz.f30) Tryz.func30 rfl (by kernel_rfl) rfl]
  simp [VM.look, g1, g2, hI.one', hI.cells, hT.one', hT.cells, walk_c _ _ _ _ _ _ _ _ hI hT hl hz ha hto hne]
  by_cases hw : walk w h b T a c = []
  · simp [ret, hw]
  · have : 0 < (walk w h b T a c).length := List.length_pos_iff.2 hw
    simp [ret, hw, this]
theorem tableOk_w (w h : Int) (v u : Value) (b T : List Int) (hI : IsI H v b) (hT : IsI H u T) (hl : b.length ≤ 1073741824) :
   wp (vcall C frz 11 [.agg #[.int .i64 w, .int .i64 h, v], .agg #[u]] H) (fun r _ => r = .bool (decide (tableOk w h b T))) := by
  rw [vcall_go (fn := Tryz.f11) Tryz.func11 rfl (by kernel_rfl) rfl]
  simp [hI.one', hI.cells, hT.one', hT.cells, nodeCount_c, meshOk_c _ _ _ _ (hI.app _) hl]
  refine wpg_dec ?_ ?_ <;> intro hm
  · simp [hm, hT.lenA, sq_small]
    refine wp_dec ?_ ?_ <;> intro hz
    · simp [hz]
      have hs : tsized w h b T := ⟨hm, hz⟩
      have hc := cnt_range w h
      refine wp_inv (fun n t H' => ∃ (i : Nat), n = (cnt w h).toNat - i ∧ i ≤ (cnt w h).toNat ∧ t 2 = .pointer (some ⟨H.length, 0, some 0⟩) ∧ t 3 = .pointer (some ⟨H.length + 1, 0, some 0⟩) ∧ t 5 = .int .i64 (cnt w h) ∧ t 22 = .int .i64 (cnt w h) ∧ t 23 = .int .i64 i ∧
        H' = H ++ [⟨[.int .i64 w, .int .i64 h, v], 0, 28⟩, ⟨[u], 0, 32⟩] ∧ ∀ a, a < i → portOf w h T a a = 4) ?_ (n := (cnt w h).toNat) ⟨0, by simp⟩
      rintro n t H' ⟨i, rfl, hi, h2, h3, h5, h22, h23, rfl, hk⟩ ih
      simp [h2, h3, h5, h22, h23]
      refine wp_dec ?_ ?_ <;> intro hlt
      · have ni : i < (cnt w h).toNat := by omega
        obtain ⟨k0, k1, k2, k3⟩ := at_small (isN_nat ni) (isN_nat ni)
        have e1 : IntKind.i64.wrap (i * cnt w h) = i * cnt w h := w64 (by omega) (by omega)
        have e2 : IntKind.i64.wrap (i * cnt w h + i) = i * cnt w h + i := w64 (by omega) (by omega)
        have q1 : ∀ L, vindexAddr Tryz.prog (H ++ L) 26 u (.int .i64 (i * cnt w h + i)) = some (elp u (i * cnt w h + i : Int).toNat) := fun L => hT.idxA (e := 3) (by simp) k0 (by omega)
        have q2 : ∀ L, vload Tryz.prog (H ++ L) 3 (elp u (i * cnt w h + i : Int).toNat) = some (.int .i64 (portOf w h T i i)) := fun L => hT.loadA (by simp) (by omega)
        simp [h2, h3, h5, h22, h23, hlt, e1, e2, q1, q2]
        refine wp_dec ?_ ?_ <;> intro hp
        · simp [h2, h3, h5, h22, h23, hlt, hp]
          refine ih ((cnt w h).toNat - (i + 1)) _ _ ⟨i + 1, rfl, by omega, by simp [h2], by simp [h3], by simp [h5], by simp [h22], ?_, rfl, fun a ha => ?_⟩ (by omega)
          · simp; rw [w64 (by omega) (by omega)]
          · by_cases hai : a < i
            · exact hk a hai
            · have : a = i := by omega
              subst this; exact hp
        · simp [h2, h3, h5, h22, h23, hlt, hp]
          exact fun hh => hp ((hh.2 i ni i ni).1 rfl)
      · simp [h2, h3, h5, h22, h23, hlt]
        have : i = (cnt w h).toNat := by omega
        subst this
        refine wp_thn (pairs_w w h _ (Q := fun r _ => r = .bool (decide (tableOk w h b T))) (fun done H' => ∃ L, H' = H ++ [⟨[.int .i64 w, .int .i64 h, v], 0, 28⟩, ⟨[u], 0, 32⟩] ++ L ∧ ∀ p ∈ done, walk w h b T p.1 p.2 ≠ []) ⟨_, rfl, by simp⟩ ?_ ?_) ?_
        · rintro done a c _ ha hc' hne ⟨L, rfl, hd⟩
          simp
          rw [tableOk1_c w h v u b T a c _ _ (hI.app _) (hT.app _) hl hs (isN_nat ha) (isN_nat hc') (by omega) (by simp) (by simp)]
          simp
          by_cases hw : walk w h b T a c = []
          · refine .inr ⟨hw, ?_⟩
            exact fun hh => (hh.2 a (by omega) c (by omega)).2 (by omega) hw
          · refine .inl ⟨hw, fun p q hp => ?_⟩
            rcases hp with hp | ⟨rfl, rfl⟩
            · exact hd (p, q) hp
            · exact hw
        · rintro _ ⟨L, rfl, hd⟩
          simp
          exact ⟨hs, fun a ha c hc' => ⟨fun _ => hk a ha, fun hne => hd (a, c) (mem_allPairs.2 ⟨ha, hc', hne⟩)⟩⟩
        · rintro _ H' rfl
          simp
    · simp [hz]
      exact fun hh => hz hh.1.2
  · simp [hm]
    exact fun hh => hm hh.1.1
theorem tableOk_c (w h : Int) (v u : Value) (b T : List Int) (hI : IsI H v b) (hT : IsI H u T) (hl : b.length ≤ 1073741824) :
   vcall C frz 11 [.agg #[.int .i64 w, .int .i64 h, v], .agg #[u]] H = some (.bool (decide (tableOk w h b T)), H) :=
  (tableOk_w w h v u b T hI hT hl).exact (by simp) rfl
end Go.Proofs.YtlbbalmeaedbdaaGreat.V
/-! Tables of trees. -/
set_option linter.all false
namespace Go.Proofs.YtlbbalmeaedbdaaGreat.V
open Go Go.VM Go.Proofs
set_option maxRecDepth 10000
variable {frz : Nat} {H : Heap}
def firstPort (w h a u : Int) : Int := if next w h a 0 = u then 0 else if next w h a 1 = u then 1 else if next w h a 2 = u then 2 else if next w h a 3 = u then 3 else 4
theorem firstPort_at {w h a u : Int} {p : Nat} (hp : p < 4) (h1 : next w h a p = u) (h2 : ∀ q < p, next w h a (q : Nat) ≠ u) : firstPort w h a u = p := by
  unfold firstPort
  have : p = 0 ∨ p = 1 ∨ p = 2 ∨ p = 3 := by omega
  have g : ∀ q : Nat, q < p → ∀ z : Int, z = q → ¬ next w h a z = u := fun q hq z hz => by rw [hz]; exact h2 q hq
  rcases this with rfl | rfl | rfl | rfl
  · rw [if_pos (by exact_mod_cast h1)]; rfl
  · rw [if_neg (g 0 (by omega) 0 rfl), if_pos (by exact_mod_cast h1)]; rfl
  · rw [if_neg (g 0 (by omega) 0 rfl), if_neg (g 1 (by omega) 1 rfl), if_pos (by exact_mod_cast h1)]; rfl
  · rw [if_neg (g 0 (by omega) 0 rfl), if_neg (g 1 (by omega) 1 rfl), if_neg (g 2 (by omega) 2 rfl), if_pos (by exact_mod_cast h1)]; rfl
theorem firstPort_range (w h a u : Int) : 0 ≤ firstPort w h a u ∧ firstPort w h a u ≤ 4 := by
  unfold firstPort; repeat' split
  all_goals omega
theorem portTo_c (w h a u : Int) (p : Nat) (hp : p < 4) (h1 : next w h a p = u) :
   vcall C frz 24 [.agg #[.int .i64 w, .int .i64 h], .int .i64 a, .int .i64 u] H = some (.int .i64 (firstPort w h a u), H) := by
  rw [vcall_go (fn := Tryz.f24) Tryz.func24 rfl (by kernel_rfl) rfl]
  simp
  refine go_inv (fun n t H' => ∃ k : Nat, n = p - k ∧ k ≤ p ∧ t 1 = .int .i64 a ∧ t 2 = .int .i64 u ∧ t 3 = .pointer (some ⟨H.length, 0, some 0⟩) ∧ t 7 = .int .i64 k ∧ H' = H ++ [⟨[.int .i64 w, .int .i64 h], 0, 25⟩] ∧ ∀ q < k, next w h a (q : Nat) ≠ u) ?_ (n := p) ⟨0, by simp⟩
  rintro n t H' ⟨k, rfl, hk, k1, k2, k3, k7, rfl, hq⟩ ih
  simp [k1, k2, k3, k7, nextNode_c]
  refine br_dec _ ?_ ?_ <;> intro h5
  · simp [k1, k2, k3, k7]
    exact (firstPort_at (by omega) h5 hq).symm
  · have hkp : k ≠ p := fun hh => h5 (by rw [hh]; exact h1)
    simp [k1, k2, k3, k7, h5]
    refine ih (p - (k + 1)) _ _ ⟨k + 1, rfl, by omega, by simp [k1], by simp [k2], by simp [k3], ?_, rfl, fun q hq' => ?_⟩ (by omega)
    · simp; rw [w64 (by omega) (by omega)]
    · by_cases hqk : q < k
      · exact hq q hqk
      · have : q = k := by omega
        rw [this]; exact h5
noncomputable def treePort (w h : Int) (P : List Int) (n i : Nat) : Int := if i / n = i % n then 4 else firstPort w h (i / n : Nat) ((treeNodes P (i / n : Nat) (i % n : Nat)).getD 1 0)
noncomputable def treeTab (w h : Int) (b : List Int) (r : Int) : List Int := (List.range ((cnt w h).toNat * (cnt w h).toNat)).map (treePort w h (parents w h b r) (cnt w h).toNat)
def treeOk (w h : Int) (b : List Int) (r : Int) : Prop := conn w h b ∧ isN w h r
noncomputable instance (w h : Int) (b : List Int) (r : Int) : Decidable (treeOk w h b r) := inferInstanceAs (Decidable (_ ∧ _))
noncomputable def treeTable (w h : Int) (b : List Int) (r : Int) : List Int := if treeOk w h b r then treeTab w h b r else []
theorem treeTab_len (w h : Int) (b : List Int) (r : Int) : (treeTab w h b r).length ≤ 256 := by
  have := cnt_range w h
  unfold treeTab
  rw [List.length_map, List.length_range]
  have : (cnt w h).toNat * (cnt w h).toNat ≤ 16 * 16 := Nat.mul_le_mul (by omega) (by omega)
  omega
theorem treeTable_len (w h : Int) (b : List Int) (r : Int) : (treeTable w h b r).length ≤ 256 := by
  unfold treeTable; split
  · exact treeTab_len w h b r
  · simp
theorem treeTable_w (w h : Int) (v : Value) (b : List Int) (root : Int) (hI : IsI H v b) (hl : b.length ≤ 1073741824) :
   wp (vcall C frz 8 [.agg #[.int .i64 w, .int .i64 h, v], .int .i64 root] H) (Made2 dTable H (treeTable w h b root) (decide (treeOk w h b root))) := by
  rw [vcall_go (fn := Tryz.f8) Tryz.func8 rfl (by kernel_rfl) rfl]
  have one := And.intro hI.one' hI.cells
  have hc := cnt_range w h
  have no : ∀ (L : Heap), ¬ treeOk w h b root → Made2 dTable H (treeTable w h b root) (decide (treeOk w h b root)) (.tuple #[.agg #[.slice none 0 0], .bool false]) (H ++ L) := fun L hh => by
    refine ⟨.agg #[.slice none 0 0], by simp [hh], .slice none 0 0, rfl, ⟨.inl ⟨rfl, by simp [treeTable, hh]⟩, ?_⟩, Chg.app _, by simp [dTable], by simp [dTable]⟩
    simp [treeTable, hh]
  by_cases hcn : conn w h b
  · by_cases hr : isN w h root
    · have hok : treeOk w h b root := ⟨hcn, hr⟩
      simp [one, isConnected_c _ _ _ _ (hI.app _) hl, hcn, isNode_c, hr]
      refine wp_thn (treeParents_w w h v b root (hI.app _) hl) ?_
      rintro vp H1 ⟨L, hH1, op, np⟩
      have hpl := tree_len hcn hr
      have tn := fun {a c : Int} (ha : isN w h a) (hc : isN w h c) (hne : a ≠ c) => tn_first hcn hr ha hc hne
      have ett : treeTable w h b root = (List.range ((cnt w h).toNat * (cnt w h).toNat)).map (treePort w h (parents w h b root) (cnt w h).toNat) := if_pos hok
      have hcc : (cnt w h).toNat ≤ 16 := by omega
      have hlt2 : (cnt w h).toNat * (cnt w h).toNat ≤ 256 := Nat.mul_le_mul hcc hcc
      rw [ett]
      generalize parents w h b root = P at *
      have c1 : Chg H H1 [] := by rw [hH1]; exact (Chg.app []).trans (Chg.app [])
      have b2 : H1[H.length]? = some ⟨[.int .i64 w, .int .i64 h, v], 0, 28⟩ := by rw [hH1]; simp
      have b4 : H1[H.length + 1]? = some ⟨[.slice none 0 0], 0, 32⟩ := by rw [hH1]; simp
      rw [← hH1] at op
      simp at np
      have lp := op.lt
      have l1 : H.length + 2 ≤ H1.length := by rw [hH1]; simp
      clear hH1 L
      have lp1 := op.lt
      generalize hB6 : H1.length = B6 at *
      have hPl : P.length = (cnt w h).toNat := by omega
      simp [VM.look, b2, one, hB6, (op.app (L := [⟨[.slice none 0 0], 0, 32⟩])).rd.len]
      refine wp_need (by omega) ?_
      refine wp_inv (fun n t H' => ∃ (i : Nat) (vo : Value) (o : List Int), n = (cnt w h).toNat - i ∧ i ≤ (cnt w h).toNat ∧ o = (List.range (i * (cnt w h).toNat)).map (treePort w h P (cnt w h).toNat) ∧
      t 2 = .pointer (some ⟨H.length, 0, some 0⟩) ∧ t 4 = .pointer (some ⟨H.length + 1, 0, some 0⟩) ∧ t 6 = .pointer (some ⟨B6, 0, some 0⟩) ∧ t 7 = vp ∧ t 27 = .int .i64 P.length ∧ t 28 = .int .i64 i ∧
      Chg H H' [] ∧ H'[H.length]? = some ⟨[.int .i64 w, .int .i64 h, v], 0, 28⟩ ∧ H'[H.length + 1]? = some ⟨[.slice none 0 0], 0, 32⟩ ∧ H'[B6]? = some ⟨[vo], 0, 32⟩ ∧
      Ow Fl.int 3 H' vp P ∧ Ow Fl.int 3 H' vo o ∧ (∀ i ∈ ids vo, B6 < i)) ?_ (n := (cnt w h).toNat)
        ⟨0, .slice none 0 0, [], by simp, by omega, by simp, by simp, by simp, by simp, by simp, by simp, by simp, c1.trans (Chg.app []), get_app' b2 _, get_app' b4 _, by rw [← hB6]; simp, op.app, .inl ⟨rfl, rfl⟩, by simp⟩
      clear b2 b4 op
      rintro n t H' ⟨i, vo, o, rfl, hi, ho, h2, h4, h6, h7, h27, h28, c0, b2, b4, b6, op, oo, no⟩ ih
      simp [h2, h4, h6, h7, h27, h28]
      refine wp_dec ?_ ?_ <;> intro hin
      · have hin' : i < (cnt w h).toNat := by omega
        simp [h2, h4, h6, h7, h27, h28, op.rd.len]
        refine wp_inv (fun n t H' => ∃ (j : Nat) (vo : Value) (o : List Int), n = (cnt w h).toNat - j ∧ j ≤ (cnt w h).toNat ∧ o = (List.range (i * (cnt w h).toNat + j)).map (treePort w h P (cnt w h).toNat) ∧
          t 2 = .pointer (some ⟨H.length, 0, some 0⟩) ∧ t 4 = .pointer (some ⟨H.length + 1, 0, some 0⟩) ∧ t 6 = .pointer (some ⟨B6, 0, some 0⟩) ∧ t 7 = vp ∧ t 27 = .int .i64 P.length ∧ t 28 = .int .i64 i ∧
          t 8 = .int .i64 i ∧ t 32 = .int .i64 P.length ∧ t 33 = .int .i64 j ∧
          Chg H H' [] ∧ H'[H.length]? = some ⟨[.int .i64 w, .int .i64 h, v], 0, 28⟩ ∧ H'[H.length + 1]? = some ⟨[.slice none 0 0], 0, 32⟩ ∧ H'[B6]? = some ⟨[vo], 0, 32⟩ ∧
      Ow Fl.int 3 H' vp P ∧ Ow Fl.int 3 H' vo o ∧ (∀ i ∈ ids vo, B6 < i)) ?_ (n := (cnt w h).toNat) ⟨0, vo, o, by simp, by omega, by simpa using ho, by simp [h2], by simp [h4], by simp [h6], by simp [h7], by simp [h27], by simp [h28], by simp, by simp, by simp, c0, b2, b4, b6, op, oo, no⟩
        clear h2 h4 h6 h7 h27 h28 c0 b2 b4 b6 op oo no ho
        rintro n t H' ⟨j, vo, o, rfl, hj, ho, h2, h4, h6, h7, h27, h28, h8, h32, h33, c0, b2, b4, b6, op, oo, no⟩ ih2
        simp [h2, h4, h6, h7, h27, h28, h8, h32, h33]
        refine wp_dec ?_ ?_ <;> intro hjn
        · have hjn' : j < (cnt w h).toNat := by omega
          have hol : o.length = i * (cnt w h).toNat + j := by rw [ho]; simp
          have hsm : i * (cnt w h).toNat + j < (cnt w h).toNat * (cnt w h).toNat := by
            have := Nat.mul_le_mul_right (cnt w h).toNat (show i + 1 ≤ (cnt w h).toNat by omega)
            rw [Nat.succ_mul] at this; omega
          have hdv : (i * (cnt w h).toNat + j) / (cnt w h).toNat = i := by rw [Nat.mul_comm, Nat.mul_add_div (by omega), Nat.div_eq_of_lt hjn']; omega
          have hmd : (i * (cnt w h).toNat + j) % (cnt w h).toNat = j := by rw [Nat.mul_comm, Nat.mul_add_mod, Nat.mod_eq_of_lt hjn']
          simp [h2, h4, h6, h7, h27, h28, h8, h32, h33]
          refine wp_dec ?_ ?_ <;> intro hij
          · have hx : treePort w h P (cnt w h).toNat (i * (cnt w h).toNat + j) = 4 := by unfold treePort; rw [hdv, hmd, if_pos (by omega)]
            simp [VM.look, b6, h2, h4, h6, h7, h27, h28, h8, h32, h33]
            obtain ⟨vo', H3, e3, oo3, c3, n3⟩ := oo.push (P := Tryz.prog) (frz := H.length) (ty := 26) (a := 4) (by simp) rfl (by omega) (fun i hi => by have := no i hi; omega)
            simp only [Fl.int_f] at e3
            have lc := box_lt b6
            have b2 := box_chg b2 c3 (fun hh => by have := no _ hh; omega)
            have b4 := box_chg b4 c3 (fun hh => by have := no _ hh; omega)
            have b6 := box_chg b6 c3 (fun hh => by have := no _ hh; omega)
            have op := op.chg c3 (fun i hi hh => by have := lp i hi; have := no _ hh; omega)
            have no3 : ∀ i ∈ ids vo', B6 < i := fun i hi => by rcases n3 i hi with h | h; exact no i h; omega
            have one3 := And.intro oo3.rd.one' oo3.rd.cells
            simp [e3, VM.look, b6, one3, h2, h4, h6, h7, h27, h28, h8, h32, h33]
            refine wp_need (by omega) ?_
            refine ih2 ((cnt w h).toNat - (j + 1)) _ _ ⟨j + 1, vo', o ++ [4], rfl, by omega, ?_, by simp [h2], by simp [h4], by simp [h6], by simp [h7], by simp [h27], by simp [h28], by simp [h8], by simp [h32], ?_,
              (c0.trans' c3 (fun i hi => .inr (by have := no i hi; omega))).trans' (chg_set _ _) (fun i hi => .inr (by simp at hi; omega)), box_chg b2 (chg_set _ _) (by simp; omega), box_chg b4 (chg_set _ _) (by simp; omega), set_get b6,
              op.chg (chg_set _ _) (fun i hi hh => by have := lp i hi; simp at hh; omega), oo3.chg (chg_set _ _) (fun i hi hh => by have := no3 i hi; simp at hh; omega), no3⟩ (by omega)
            · rw [← Nat.add_assoc, List.range_succ, List.map_append, ← ho]; simp [hx]
            · simp; rw [w64 (by omega) (by omega)]
          · rw [go_draw (h := by kernel_rfl)]
            simp [h2, h4, h6, h7, h27, h28, h8, h32, h33, VM.look, b2]
            obtain ⟨p, hp, htl, htg, hn0⟩ := tn (isN_nat hin') (isN_nat hjn') (by omega : (i : Int) ≠ (j : Int))
            refine wp_thn (treeNodes_w vp P i j op.rd.isI (by omega)) ?_
            rintro vt H2 ⟨L2, hH2, ot, nt⟩
            have c2 : Chg H' H2 [] := by rw [hH2]; exact Chg.app []
            rw [← hH2] at ot
            clear hH2 L2
            have b2 := box_chg b2 c2 (by simp)
            have b4 := box_chg b4 c2 (by simp)
            have b6 := box_chg b6 c2 (by simp)
            have op := op.chg c2 (by simp)
            have oo := oo.chg c2 (by simp)
            have c0 := c0.trans c2
            have q1 := ot.rd.isI.idx (P := Tryz.prog) (ty := 26) (e := 3) (by simp) (i := 1) (by omega) (by omega)
            have q2 := ot.rd.isI.load (P := Tryz.prog) (e := 3) (by simp) htl
            have etn : (treeNodes P (i : Int) (j : Int)).getD 1 0 = next w h i p := by rw [List.getD_eq_getElem?_getD, htg]; rfl
            have hpt := fun F L => portTo_c (frz := F) (H := L) w h i _ p hp etn.symm
            have hx : treePort w h P (cnt w h).toNat (i * (cnt w h).toNat + j) = firstPort w h i ((treeNodes P i j).getD 1 0) := by unfold treePort; rw [hdv, hmd, if_neg (by omega)]
            have q1' : vindexAddr Tryz.prog H2 26 vt (.int .i64 1) = some (elp vt 1) := q1
            generalize (treeNodes P (i : Int) (j : Int)).getD 1 0 = u at *
            generalize firstPort w h (i : Int) u = y at *
            simp [q1', q2, hpt, h2, h4, h6, h7, h27, h28, h8, h32, h33]
            simp [VM.look, b6, h2, h4, h6, h7, h27, h28, h8, h32, h33]
            obtain ⟨vo', H3, e3, oo3, c3, n3⟩ := oo.push (P := Tryz.prog) (frz := H.length) (ty := 26) (a := y) (by simp) rfl (by omega) (fun i hi => by have := no i hi; omega)
            simp only [Fl.int_f] at e3
            have lc := box_lt b6
            have b2 := box_chg b2 c3 (fun hh => by have := no _ hh; omega)
            have b4 := box_chg b4 c3 (fun hh => by have := no _ hh; omega)
            have b6 := box_chg b6 c3 (fun hh => by have := no _ hh; omega)
            have op := op.chg c3 (fun i hi hh => by have := lp i hi; have := no _ hh; omega)
            have no3 : ∀ i ∈ ids vo', B6 < i := fun i hi => by rcases n3 i hi with h | h; exact no i h; omega
            have one3 := And.intro oo3.rd.one' oo3.rd.cells
            simp [e3, VM.look, b6, one3, h2, h4, h6, h7, h27, h28, h8, h32, h33]
            refine wp_need (by omega) ?_
            refine ih2 ((cnt w h).toNat - (j + 1)) _ _ ⟨j + 1, vo', o ++ [y], rfl, by omega, ?_, by simp [h2], by simp [h4], by simp [h6], by simp [h7], by simp [h27], by simp [h28], by simp [h8], by simp [h32], ?_,
              (c0.trans' c3 (fun i hi => .inr (by have := no i hi; omega))).trans' (chg_set _ _) (fun i hi => .inr (by simp at hi; omega)), box_chg b2 (chg_set _ _) (by simp; omega), box_chg b4 (chg_set _ _) (by simp; omega), set_get b6,
              op.chg (chg_set _ _) (fun i hi hh => by have := lp i hi; simp at hh; omega), oo3.chg (chg_set _ _) (fun i hi hh => by have := no3 i hi; simp at hh; omega), no3⟩ (by omega)
            · rw [← Nat.add_assoc, List.range_succ, List.map_append, ← ho]; simp [hx]
            · simp; rw [w64 (by omega) (by omega)]
        · have hjn2 : j = (cnt w h).toNat := by omega
          have hjn' : ¬ j < P.length := by omega
          simp [h2, h4, h6, h7, h27, h28, h8, h32, h33]
          refine ih ((cnt w h).toNat - (i + 1)) _ _ ⟨i + 1, vo, o, rfl, by omega, by rw [ho, hjn2, Nat.succ_mul], by simp [h2], by simp [h4], by simp [h6], by simp [h7], by simp [h27], ?_, c0, b2, b4, b6, op, oo, no⟩ (by omega)
          simp; rw [w64 (by omega) (by omega)]
      · have hi2 : i = (cnt w h).toNat := by omega
        have l4 := box_lt b4
        rw [hi2] at ho
        rw [ho] at oo
        have l5 : ∀ i ∈ ids vo, i ∉ [H.length + 1] := fun i hi hh => by have := no i hi; simp at hh; omega
        have g4 := set_get (r' := ⟨[vo], 0, 32⟩) b4
        simp [h2, h4, h6, h7, h27, h28, VM.look, b4, b6, oo.rd.one', oo.rd.cells, g4]
        refine ⟨.agg #[vo], by simp [hok], vo, rfl, ⟨oo.chg (chg_set _ _) l5, by simp; omega⟩, c0.trans' (chg_set _ _) (fun i hi => .inr (by simp at hi; omega)), fun i hi => by have := no i hi; omega, ids_nodup vo⟩
    · simp [one, isConnected_c _ _ _ _ (hI.app _) hl, hcn, isNode_c, hr]
      exact no _ (fun hh => hr hh.2)
  · simp [one, isConnected_c _ _ _ _ (hI.app _) hl, hcn]
    exact no _ (fun hh => hcn hh.1)
end Go.Proofs.YtlbbalmeaedbdaaGreat.V
/-! Tables of trees, of the reference. -/
set_option linter.all false
namespace Go.Proofs.YtlbbalmeaedbdaaGreat.V
open Go Go.VM Go.Proofs
set_option maxRecDepth 10000
variable {frz : Nat} {H : Heap}
theorem tdiv_nat {i n : Nat} (hn : 0 < n) (hi : i < 1000) : IntKind.i64.wrap ((i : Int).tdiv n) = ((i / n : Nat) : Int) := by
  rw [Int.tdiv_eq_ediv_of_nonneg (by omega)]
  have : i / n ≤ i := Nat.div_le_self _ _
  rw [← Int.natCast_ediv]
  generalize i / n = q at *
  exact w64 (by omega) (by omega)
theorem tmod_nat {i n : Nat} : (i : Int).tmod n = ((i % n : Nat) : Int) := by
  rw [Int.tmod_eq_emod_of_nonneg (by omega)]; rfl
end Go.Proofs.YtlbbalmeaedbdaaGreat.V
/-! Two tables. -/
set_option linter.all false
namespace Go.Proofs.YtlbbalmeaedbdaaGreat.V
open Go Go.VM Go.Proofs
set_option maxRecDepth 10000
variable {frz : Nat} {H : Heap}
abbrev ClassesD := List Int × List Int
def dClasses : Dt (Value × Value) ClassesD where
  val v _ := .agg #[v.1, v.2]
  Ow H v a := dIntS.Ow H v.1 a.1 ∧ dIntS.Ow H v.2 a.2
  ids v := VM.ids v.1 ++ VM.ids v.2
  frame h k := ⟨dIntS.frame h.1 fun i hi => k i (List.mem_append.2 (.inl hi)), dIntS.frame h.2 fun i hi => k i (List.mem_append.2 (.inr hi))⟩
  lt h i hi := by
    rcases List.mem_append.1 hi with hi | hi
    · exact dIntS.lt h.1 i hi
    · exact dIntS.lt h.2 i hi
theorem dClasses_val (v : Value × Value) (a : ClassesD) : dClasses.val v a = .agg #[v.1, v.2] := rfl
theorem dClasses_one {v : Value × Value} {a : ClassesD} (h : dClasses.Ow H v a) : (VM.one v.1 = true ∧ v.1.cells = #[v.1]) ∧ VM.one v.2 = true ∧ v.2.cells = #[v.2] := ⟨⟨h.1.1.rd.one', h.1.1.rd.cells⟩, h.2.1.rd.one', h.2.1.rd.cells⟩
end Go.Proofs.YtlbbalmeaedbdaaGreat.V
/-! Copies of tables and meshes. -/
set_option linter.all false
namespace Go.Proofs.YtlbbalmeaedbdaaGreat.V
open Go Go.VM Go.Proofs
set_option maxRecDepth 10000
variable {frz : Nat} {H : Heap}
theorem ones_ints (ys : List Int) : ones (cellsOf Fl.int ys) = true := by
  rw [cellsOf_int]; unfold ones
  rw [List.all_eq_true]
  intro x hx
  obtain ⟨y, _, rfl⟩ := List.mem_map.1 hx
  rfl
theorem l15Mesh_w (w h : Int) (v : Value) (b : List Int) (hI : IsI H v b) (hl : b.length ≤ 1073741824) : wp (vcall C frz 72 [.agg #[.int .i64 w, .int .i64 h, v]] H) (dMesh.Made H (w, h, b)) := by
  rw [vcall_go (fn := Tryz.f72) Tryz.func72 rfl (by kernel_rfl) rfl]
  have one := And.intro hI.one' hI.cells
  simp [one]
  rw [go_drawE (h := ⟨by kernel_rfl, by kernel_rfl⟩)]
  simp [emps, empOp, empB, one, (hI.app _).src]
  by_cases h0 : b = []
  · subst h0
    simp
    exact ⟨_, rfl, ⟨.inl ⟨rfl, rfl⟩, by simp⟩, Chg.app _, by simp [dMesh], by simp [dMesh]⟩
  · simp [h0, hl]
    exact ⟨_, rfl, ⟨Ow.new (D := Fl.int) (e := 3) (xs := b) (k := 2) (by simp) (cellsOf_int _).symm (by simp) rfl, hl⟩, Chg.app _, by simp [dMesh], ids_nodup (.slice (some ⟨H.length + 2, 0, some 0⟩) b.length 0)⟩
theorem copyTable_w (v : Value) (xs : List Int) (hI : IsI H v xs) (hl : xs.length ≤ 1073741824) : wp (vcall C frz 37 [.agg #[v]] H) (dTable.Made H xs) := by
  rw [vcall_go (fn := Tryz.f37) Tryz.func37 rfl (by kernel_rfl) rfl]
  have one := And.intro hI.one' hI.cells
  simp [one, (hI.app _).src]
  by_cases h0 : xs = []
  · subst h0
    simp
    exact ⟨_, rfl, ⟨Ow.new (D := Fl.int) (e := 3) (xs := []) (k := 2) (by simp) rfl rfl rfl, by simp⟩, Chg.app _, by simp [dTable], ids_nodup (.slice (some ⟨H.length + 2, 0, some 0⟩) 0 0)⟩
  · simp [h0, hl]
    exact ⟨_, rfl, ⟨Ow.new (D := Fl.int) (e := 3) (xs := xs) (k := 2) (by simp) (cellsOf_int _).symm (by simp) rfl, hl⟩, Chg.app _, by simp [dTable], ids_nodup (.slice (some ⟨H.length + 2, 0, some 1⟩) xs.length 0)⟩
end Go.Proofs.YtlbbalmeaedbdaaGreat.V
/-! RepairClasses. -/
set_option linter.all false
namespace Go.Proofs.YtlbbalmeaedbdaaGreat.V
open Go Go.VM Go.Proofs
set_option maxRecDepth 10000
variable {frz : Nat} {H : Heap}
noncomputable def repair (w h : Int) (b : List Int) : ClassesD := (treeTable w h b (bestRoot w h b), treeTable w h b (bestRoot w h b))
noncomputable def repairOk (w h : Int) (b : List Int) : Bool := decide (treeOk w h b (bestRoot w h b))
theorem repair_w (w h : Int) (v : Value) (b : List Int) (hI : IsI H v b) (hl : b.length ≤ 1073741824) :
   wp (vcall C frz 14 [.agg #[.int .i64 w, .int .i64 h, v]] H) (Made2 dClasses H (repair w h b) (repairOk w h b)) := by
  rw [vcall_go (fn := Tryz.f14) Tryz.func14 rfl (by kernel_rfl) rfl]
  have one := And.intro hI.one' hI.cells
  simp [one]
  rw [go_draw (h := by kernel_rfl)]
  simp [one, bestRoot_c _ _ _ _ (hI.app _) hl]
  refine wp_thn (treeTable_w w h v b (bestRoot w h b) (hI.app _) hl) ?_
  rintro _ H1 ⟨_, rfl, vt, rfl, ot, c1, nt, dt⟩
  have b1 : H1[H.length + 1]? = some ⟨[.slice none 0 0, .slice none 0 0], 0, 43⟩ := box_chg (by simp) c1 (by simp)
  have l1 := box_lt b1
  simp at nt
  have cH : Chg H H1 [] := (Chg.app []).trans c1
  have hle := treeTable_len w h b (bestRoot w h b)
  have hne : ¬ treeOk w h b (bestRoot w h b) → treeTable w h b (bestRoot w h b) = [] := fun hh => if_neg hh
  unfold repair repairOk
  generalize treeTable w h b (bestRoot w h b) = tt at *
  have one1 := dTable_one ot
  simp [dTable_val, one1, VM.look, b1]
  by_cases hok : treeOk w h b (bestRoot w h b)
  · have l0 := cH.1
    simp [hok, l0]
    rw [go_draw (h := by kernel_rfl)]
    simp [one1, l0]
    refine wp_thn (copyTable_w vt tt (ot.1.rd.isI.app _) (by omega)) ?_
    rintro _ H2 ⟨vu, rfl, ou, c2, nu, du⟩
    have b2 : H2[H.length + 1]? = some ⟨[.slice none 0 0, .slice none 0 0], 0, 43⟩ := box_chg (get_app' b1 _) c2 (by simp)
    have ot2 := Dt.chg0 (T := dIntS) (Dt.app (T := dIntS) ot) c2
    have lt1 := dIntS.lt ot
    simp at nu
    have one2 := dTable_one ou
    have g4 := set_get (r' := ⟨[vt, vu], 0, 43⟩) b2
    simp [dTable_val, one1, one2, VM.look, b2, g4]
    have h1 : ∀ i ∈ VM.ids vt, i ∉ [H.length + 1] := fun i hi hh => by have := nt i hi; simp at hh; omega
    have h2 : ∀ i ∈ VM.ids vu, i ∉ [H.length + 1] := fun i hi hh => by have := nu i hi; simp at hh; omega
    refine ⟨.agg #[vt, vu], by simp [hok], (vt, vu), rfl, ⟨Dt.chg (T := dIntS) ot2 (chg_set _ _) h1, Dt.chg (T := dIntS) ou (chg_set _ _) h2⟩, ((cH.trans (Chg.app [])).trans c2).trans' (chg_set _ _) (fun i hi => .inr (by simp at hi; omega)), fun i hi => ?_, List.nodup_append.2 ⟨ids_nodup vt, ids_nodup vu, fun i hi j hj hh => ?_⟩⟩
    · rcases List.mem_append.1 hi with hi | hi
      · have := nt i hi; omega
      · have := nu i hi; omega
    · have := lt1 i hi; have := nu j hj; omega
  · obtain rfl := hne hok
    have l0 := cH.1
    have g4 := set_get (r' := ⟨[.slice none 0 0, .slice none 0 0], 0, 43⟩) (get_app' b1 [⟨[vt], 0, 32⟩])
    have b1' := get_app' b1 [⟨[vt], 0, 32⟩]
    simp [hok, l0, VM.look, b1, b1', g4]
    refine ⟨.agg #[.slice none 0 0, .slice none 0 0], by simp [hok], (.slice none 0 0, .slice none 0 0), rfl, ⟨⟨.inl ⟨rfl, rfl⟩, by simp⟩, .inl ⟨rfl, rfl⟩, by simp⟩, (cH.trans (Chg.app [])).trans' (chg_set _ _) (fun i hi => .inr (by simp at hi; omega)), by simp [dClasses], by simp [dClasses]⟩
end Go.Proofs.YtlbbalmeaedbdaaGreat.V
/-! Contracts on data. -/
set_option linter.all false
namespace Go.Proofs.YtlbbalmeaedbdaaGreat.V
open Go Go.VM Go.Proofs
variable {frz : Nat} {H : Heap} {v : Value} {w h : Int} {b : List Int} {root : Int}
theorem treeTable_d (o : dMesh.Ow H v (w, h, b)) : wp (vcall C frz 8 [dMesh.val v (w, h, b), .int .i64 root] H) (Made2 dTable H (treeTable w h b root) (decide (treeOk w h b root))) := treeTable_w w h v b root o.1.rd.isI o.2
theorem repair_d (o : dMesh.Ow H v (w, h, b)) : wp (vcall C frz 14 [dMesh.val v (w, h, b)] H) (Made2 dClasses H (repair w h b) (repairOk w h b)) := repair_w w h v b o.1.rd.isI o.2
end Go.Proofs.YtlbbalmeaedbdaaGreat.V
/-! Breaking a channel. -/
set_option linter.all false
namespace Go.Proofs.YtlbbalmeaedbdaaGreat.V
open Go Go.VM Go.Proofs
set_option maxRecDepth 10000
variable {frz : Nat} {H : Heap}
/-- a channel more is broken -/
def broke (b : List Int) (c : Int) : List Int := isort (b ++ [c])
def breakOk (w h : Int) (b : List Int) (c : Int) : Prop := meshOk w h b ∧ has w h b c
instance (w h : Int) (b : List Int) (c : Int) : Decidable (breakOk w h b c) := inferInstanceAs (Decidable (_ ∧ _))
def withBroken (w h : Int) (b : List Int) (c : Int) : List Int := if breakOk w h b c then broke b c else b
/-- insertion ahead of the first that is not less -/
theorem broke_eq {b : List Int} {c : Int} (hb : b.Pairwise (· < ·)) {k : Nat} (hk : k ≤ b.length) (h1 : ∀ j, j < k → b.getD j 0 < c) (h2 : k < b.length → c ≤ b.getD k 0) : b.take k ++ [c] ++ b.drop k = broke b c := by
  have hs : b.Pairwise (· ≤ ·) := hb.imp (fun h => Int.le_of_lt h)
  have g : ∀ {i : Nat} (hi : i < b.length), b.getD i 0 = b[i] := fun hi => by simp [List.getD_eq_getElem?_getD, hi]
  refine sorted_eq ?_ (isort_sorted _) ?_
  · rw [List.append_assoc, List.pairwise_append]
    refine ⟨hs.sublist (List.take_sublist _ _), ?_, fun x hx y hy => ?_⟩
    · rw [List.singleton_append, List.pairwise_cons]
      refine ⟨fun y hy => ?_, hs.sublist (List.drop_sublist _ _)⟩
      obtain ⟨i, hi, rfl⟩ := List.mem_iff_getElem.1 hy
      rw [List.getElem_drop]
      simp at hi
      have h3 := h2 (by omega)
      rw [g (by omega)] at h3
      by_cases hi0 : i = 0
      · subst hi0; exact h3
      · have := List.pairwise_iff_getElem.1 hs k (k + i) (by omega) (by omega) (by omega); omega
    · obtain ⟨i, hi, rfl⟩ := List.mem_iff_getElem.1 hx
      simp at hi
      rw [List.getElem_take]
      have h3 := h1 i (by omega)
      rw [g (by omega)] at h3
      simp at hy
      rcases hy with rfl | hy
      · omega
      · obtain ⟨j, hj, rfl⟩ := List.mem_iff_getElem.1 hy
        simp at hj
        rw [List.getElem_drop]
        exact List.pairwise_iff_getElem.1 hs i (k + j) (by omega) (by omega) (by omega)
  · refine List.Perm.trans ?_ (isort_perm _).symm
    have h4 : (b.take k ++ [c] ++ b.drop k).Perm (b.take k ++ (b.drop k ++ [c])) := by
      rw [List.append_assoc]
      exact (List.perm_append_left_iff _).2 (List.perm_append_comm)
    refine h4.trans ?_
    rw [← List.append_assoc, List.take_append_drop]
theorem brk_len {w h : Int} {b : List Int} (hm : meshOk w h b) : b.length ≤ 64 := by
  obtain ⟨_, h2, h3⟩ := (meshOk_iff w h b).1 hm
  have hc := cnt_range w h
  refine asc_length h3 (fun c hc' => ?_)
  have := (h2 c hc').1
  omega
theorem sHasChannel_c (w h : Int) (v : Value) (b : List Int) (c : Int) (hI : IsI H v b) (hl : b.length ≤ 1073741824) :
   vcall C frz 73 [.agg #[.int .i64 w, .int .i64 h, v], .int .i64 c] H = some (.bool (decide (meshOk w h b ∧ has w h b c)), H) := by
  rw [vcall_go (fn := Tryz.f73) Tryz.func73 rfl (by kernel_rfl) rfl]
  simp [hI.one', hI.cells, sMeshOk_c _ _ _ _ (hI.app _) hl]
  refine gd_dec _ _ ?_ ?_ <;> intro h1 <;> simp [h1, hI.one', hI.cells, l03Has_c _ _ _ _ _ (hI.app _) hl, -Bool.decide_and]
theorem sWithBroken_w (w h : Int) (v : Value) (b : List Int) (c : Int) (hO : Ow Fl.int 3 H v b) (hl : b.length ≤ 1073741824) :
   wp (vcall C frz 43 [.agg #[.int .i64 w, .int .i64 h, v], .int .i64 c] H) (Made2 dMesh H (w, h, withBroken w h b c) (decide (breakOk w h b c))) := by
  rw [vcall_go (fn := Tryz.f43) Tryz.func43 rfl (by kernel_rfl) rfl]
  have hI := hO.rd.isI
  have one := And.intro hI.one' hI.cells
  simp [one]
  refine wp_thn (l15Mesh_w w h v b (hI.app _) hl) ?_
  rintro _ H1 ⟨u, rfl, o1, c1, n1, d1⟩
  have cH : Chg H H1 [] := (Chg.app []).trans c1
  have l0 := cH.1
  have b0 : H1[H.length]? = some ⟨[.int .i64 w, .int .i64 h, v], 0, 28⟩ := box_chg (by simp) c1 (by simp)
  have b1 : H1[H.length + 1]? = some ⟨[.int .i64 0, .int .i64 0, .slice none 0 0], 0, 28⟩ := box_chg (by simp) c1 (by simp)
  have l1 := box_lt b1
  have hI1 := ((hI.rd).chg cH (by simp)).isI
  have ob : Ow Fl.int 3 H1 u b := o1.1
  have one1 := And.intro ob.rd.one' ob.rd.cells
  have n1' : ∀ i ∈ VM.ids u, H.length + 2 ≤ i := fun i hi => by have := n1 i hi; simp at this; omega
  have lu := o1.1.lt
  simp [dMesh_val, one, one1, VM.look, b0, b1, get_app' b0, get_app' b1, sHasChannel_c _ _ _ _ _ (hI1.app _) hl, -Bool.decide_and]
  by_cases hok : breakOk w h b c
  · have hok' : meshOk w h b ∧ has w h b c := hok
    simp [hok', one, one1, VM.look, b0, b1, get_app' b0, get_app' b1, l0, Nat.le_add_right_of_le l0]
    have hlb : b.length ≤ 1000 := by have := brk_len hok.1; omega
    have pw := ((meshOk_iff w h b).1 hok.1).2.2
    clear hI1 o1
    refine wp_joino (F := ?F) (k := ?k) (o := ?o) (Q := ?Q) (fun t H' => ∃ (i : Nat) (u : Value), i ≤ b.length ∧ (∀ j, j < i → b.getD j 0 < c) ∧ (i < b.length → c ≤ b.getD i 0) ∧ t 1 = .int .i64 c ∧ t 2 = .pointer (some ⟨H.length, 0, some 0⟩) ∧ t 4 = .pointer (some ⟨H.length + 1, 0, some 0⟩) ∧ t 6 = .pointer (some ⟨H1.length, 0, some 0⟩) ∧ t 7 = .int .i64 i ∧
        H'[H.length]? = some ⟨[.int .i64 w, .int .i64 h, v], 0, 28⟩ ∧ H'[H.length + 1]? = some ⟨[.int .i64 0, .int .i64 0, .slice none 0 0], 0, 28⟩ ∧ H'[H1.length]? = some ⟨[.int .i64 w, .int .i64 h, u], 0, 28⟩ ∧
        Ow Fl.int 3 H' u (b.take i) ∧ (∀ i ∈ VM.ids u, i ≠ H1.length ∧ H.length + 2 ≤ i) ∧ Chg H H' []) ?main ?rest
    case main =>
     intro rest
     refine wp_inv (fun n t H' => ∃ (i : Nat) (u : Value), n = b.length - i ∧ i ≤ b.length ∧ (∀ j, j < i → b.getD j 0 < c) ∧ t 1 = .int .i64 c ∧ t 2 = .pointer (some ⟨H.length, 0, some 0⟩) ∧ t 4 = .pointer (some ⟨H.length + 1, 0, some 0⟩) ∧ t 6 = .pointer (some ⟨H1.length, 0, some 0⟩) ∧ t 7 = .int .i64 i ∧
         H'[H.length]? = some ⟨[.int .i64 w, .int .i64 h, v], 0, 28⟩ ∧ H'[H.length + 1]? = some ⟨[.int .i64 0, .int .i64 0, .slice none 0 0], 0, 28⟩ ∧ H'[H1.length]? = some ⟨[.int .i64 w, .int .i64 h, u], 0, 28⟩ ∧
         Ow Fl.int 3 H' u (b.take i) ∧ (∀ i ∈ VM.ids u, i ≠ H1.length ∧ H.length + 2 ≤ i) ∧ Chg H H' []) ?_ (n := b.length)
       ⟨0, .slice (some ⟨H1.length + 1, 0, some 0⟩) 0 0, rfl, by omega, fun j hj => by omega, by simp, by simp, by simp, by simp, by simp, get_app' b0 _, get_app' b1 _, by simp, by simpa using Ow.new (D := Fl.int) (e := 3) (xs := []) (H := H1) (L := [⟨[.int .i64 w, .int .i64 h, .slice (some ⟨H1.length + 1, 0, some 0⟩) 0 0], 0, 28⟩, ⟨[], 0, 3⟩]) (k := 1) (by simp) rfl rfl rfl,
         fun i hi => by simp at hi; omega, cH.trans (Chg.app [])⟩
     rintro n t H' ⟨i, u, rfl, hi, hlow, t1, t2, t4, t6, t7, b0, b1, b2, o, nu, ch⟩ ih
     have hI1 := ((hI.rd).chg ch (by simp)).isI
     have one1 := And.intro o.rd.one' o.rd.cells
     have lu := o.lt
     have k2 := box_lt b2
     have l0' := ch.1
     simp [t1, t2, t4, t6, t7, VM.look, b0, hI1.len]
     refine wpg_dec ?_ ?_ <;> intro g1
     · have q1 := hI1.idx (P := Tryz.prog) (ty := 26) (e := 3) (by simp) (i := (i : Int)) (by omega) (by omega)
       have r1 := hI1.load (P := Tryz.prog) (e := 3) (by simp) g1
       simp only [Int.toNat_natCast] at q1
       have r1' : vload Tryz.prog H' 3 (elp v i) = some (.int .i64 (G b i)) := r1
       simp [t1, t2, t4, t6, t7, VM.look, b0, hI1.len, g1, q1, r1']
       refine wp_dec ?_ ?_ <;> intro g2
       · simp [t1, t2, t4, t6, t7]
         rw [go_draw (h := by kernel_rfl)]
         obtain ⟨u', H2, hap, o2, c2, n2⟩ := o.push (P := Tryz.prog) (frz := H.length) (ty := 26) (a := G b i) (by simp) rfl (by simp; omega) (fun i hi => by have := nu i hi; omega)
         simp only [Fl.int_f] at hap
         have p1 : H2[H1.length]? = some ⟨[.int .i64 w, .int .i64 h, u], 0, 28⟩ := box_chg b2 c2 (fun hh => (nu _ hh).1 rfl)
         have p2 := set_get (r' := ⟨[.int .i64 w, .int .i64 h, u'], 0, 28⟩) p1
         have nu' : ∀ i ∈ VM.ids u', i ≠ H1.length ∧ H.length + 2 ≤ i := fun i hi => by
           rcases n2 i hi with h1 | h1
           · exact nu i h1
           · omega
         have one2 := And.intro o2.rd.one' o2.rd.cells
         have l2 := c2.1
         have ne1 : H1.length ≠ H.length := by omega
         have ne2 : H1.length ≠ H.length + 1 := by omega
         simp [t1, t2, t4, t6, t7, VM.look, b0, b2, q1, r1', one1, hI1.one', hI1.cells, hap, p1, one2, l0]
         refine ih (b.length - (i + 1)) _ _ ⟨i + 1, u', rfl, by omega, fun j hj => ?_, by simp [t1], by simp [t2], by simp [t4], by simp [t6], ?_, ?_, ?_, p2, ?_, nu', ?_⟩ (by omega)
         · by_cases hji : j = i
           · subst hji; exact g2
           · exact hlow j (by omega)
         · simp; rw [w64 (by omega) (by omega)]
         · exact box_chg (box_chg b0 c2 (fun hh => by have := nu _ hh; omega)) (chg_set _ _) (by simp; omega)
         · exact box_chg (box_chg b1 c2 (fun hh => by have := nu _ hh; omega)) (chg_set _ _) (by simp; omega)
         · have := o2.chg (chg_set H1.length ⟨[.int .i64 w, .int .i64 h, u'], 0, 28⟩) (fun i hi hh => (nu' i hi).1 (List.mem_singleton.1 hh))
           rw [List.take_succ_eq_append_getElem g1, ← G_get g1]; exact this
         · exact (ch.trans' c2 (fun i hi => .inr (by have := nu i hi; omega))).trans' (chg_set _ _) (fun i hi => .inr (by simp at hi; omega))
       · simp [t1, t2, t4, t6, t7, -go_exit_blk]
         refine rest _ _ ?_
         exact ⟨i, u, hi, hlow, fun _ => by have : ¬ b.getD i 0 < c := g2; omega, by simp [t1], by simp [t2], by simp [t4], by simp [t6], by simp [t7], b0, b1, b2, o, nu, ch⟩
     · simp [t1, t2, t4, t6, t7, g1, -go_exit_blk]
       refine rest _ _ ?_
       exact ⟨i, u, hi, hlow, fun hh => absurd hh g1, by simp [t1], by simp [t2], by simp [t4], by simp [t6], by simp [t7], b0, b1, b2, o, nu, ch⟩
    case rest =>
     rintro t H' ⟨i, u, hi, hlow, hhi, t1, t2, t4, t6, t7, b0, b1, b2, o, nu, ch⟩
     have hI1 := ((hI.rd).chg ch (by simp)).isI
     have one1 := And.intro o.rd.one' o.rd.cells
     have hlt : (b.take i).length = i := by simp; omega
     have l0' := ch.1
     have hmin : min i b.length = i := Nat.min_eq_left hi
     have k2 := box_lt b2
     obtain ⟨u', H2, hap, o2, c2, n2⟩ := o.push (P := Tryz.prog) (frz := H.length) (ty := 26) (a := c) (by simp) rfl (by simp; omega) (fun i hi => by have := nu i hi; omega)
     simp only [Fl.int_f] at hap
     have p0 : H2[H.length]? = some ⟨[.int .i64 w, .int .i64 h, v], 0, 28⟩ := box_chg b0 c2 (fun hh => by have := nu _ hh; omega)
     have p1 : H2[H1.length]? = some ⟨[.int .i64 w, .int .i64 h, u], 0, 28⟩ := box_chg b2 c2 (fun hh => (nu _ hh).1 rfl)
     have p3 : H2[H.length + 1]? = some ⟨[.int .i64 0, .int .i64 0, .slice none 0 0], 0, 28⟩ := box_chg b1 c2 (fun hh => by have := nu _ hh; omega)
     have p2 := set_get (r' := ⟨[.int .i64 w, .int .i64 h, u'], 0, 28⟩) p1
     have p4 : (H2.set H1.length ⟨[.int .i64 w, .int .i64 h, u'], 0, 28⟩)[H.length]? = _ := box_chg p0 (chg_set _ _) (by simp; omega)
     have p5 : (H2.set H1.length ⟨[.int .i64 w, .int .i64 h, u'], 0, 28⟩)[H.length + 1]? = _ := box_chg p3 (chg_set _ _) (by simp; omega)
     have nu' : ∀ i ∈ VM.ids u', i ≠ H1.length ∧ H.length + 2 ≤ i := fun i hi => by
       rcases n2 i hi with h1 | h1
       · exact nu i h1
       · omega
     have one2 := And.intro o2.rd.one' o2.rd.cells
     have c4 : Chg H2 (H2.set H1.length ⟨[.int .i64 w, .int .i64 h, u'], 0, 28⟩) [H1.length] := chg_set _ _
     have ch3 := (ch.trans' c2 (fun i hi => .inr (by have := nu i hi; omega))).trans' c4 (fun i hi => .inr (by simp at hi; omega))
     have o3 := o2.chg c4 (fun i hi hh => (nu' i hi).1 (List.mem_singleton.1 hh))
     simp [t1, t2, t4, t6, t7, VM.look, b2, one1, o.rd.len, hmin, hap, p1, one2, l0]
     rw [go_draw (h := by kernel_rfl)]
     generalize H2.set H1.length ⟨[.int .i64 w, .int .i64 h, u'], 0, 28⟩ = H3 at *
     have hI3 := ((hI.rd).chg ch3 (by simp)).isI
     obtain ⟨z, hz, oz, nz⟩ := (hO.chg ch3 (by simp)).slice (P := Tryz.prog) (ty := 26) (lo := some (.int .i64 (i : Int))) (hi := none) (l := i) (u := b.length) (by simp) rfl rfl hi (Nat.le_refl _)
     have hbi : (b.drop i).take (b.length - i) = b.drop i := List.take_of_length_le (by simp)
     rw [hbi] at oz
     obtain ⟨u2, H5, hap2, o5, c5, n5⟩ := o3.append (P := Tryz.prog) (frz := H.length) (ty := 26) oz.rd (by simp) (ones_ints _) (by simp; omega) (fun i hi => by have := nu' i hi; omega)
     have s1 : H5[H1.length]? = some ⟨[.int .i64 w, .int .i64 h, u'], 0, 28⟩ := box_chg p2 c5 (fun hh => (nu' _ hh).1 rfl)
     have s2 : H5[H.length + 1]? = some ⟨[.int .i64 0, .int .i64 0, .slice none 0 0], 0, 28⟩ := box_chg p5 c5 (fun hh => by have := nu' _ hh; omega)
     have s3 := set_get (r' := ⟨[.int .i64 w, .int .i64 h, u2], 0, 28⟩) s1
     have s4 : (H5.set H1.length ⟨[.int .i64 w, .int .i64 h, u2], 0, 28⟩)[H.length + 1]? = _ := box_chg s2 (chg_set _ _) (by simp; omega)
     have k3 := box_lt p2
     have nu2 : ∀ i ∈ VM.ids u2, i ≠ H1.length ∧ H.length + 2 ≤ i := fun i hi => by
       rcases n5 i hi with h1 | h1
       · exact nu' i h1
       · have := box_lt p5; omega
     have one5 := And.intro o5.rd.one' o5.rd.cells
     have c6 : Chg H5 (H5.set H1.length ⟨[.int .i64 w, .int .i64 h, u2], 0, 28⟩) [H1.length] := chg_set _ _
     have ch6 := (ch3.trans' c5 (fun i hi => .inr (by have := nu' i hi; omega))).trans' c6 (fun i hi => .inr (by simp at hi; omega))
     have o6 := o5.chg c6 (fun i hi hh => (nu2 i hi).1 (List.mem_singleton.1 hh))
     have s5 := set_get (r' := ⟨[.int .i64 w, .int .i64 h, u2], 0, 28⟩) s4
     simp [t1, t2, t4, t6, t7, VM.look, one, one2, p2, p4, p5, l0, hz, hap2, s1, s2, s3, s4, one5]
     generalize H5.set H1.length ⟨[.int .i64 w, .int .i64 h, u2], 0, 28⟩ = H6 at *
     simp [VM.look, s4, s5]
     have heq : b.take i ++ [c] ++ b.drop i = broke b c := broke_eq pw hi hlow hhi
     rw [heq] at o6
     refine ⟨.agg #[.int .i64 w, .int .i64 h, u2], by simp [hok], u2, by simp [withBroken, hok, dMesh_val], ⟨?_, by simp [withBroken, hok, broke, isort_len]; omega⟩, ch6.trans' (chg_set _ _) (fun i hi => .inr (by simp at hi; omega)), fun i hi => by have := nu2 i hi; omega, ids_nodup u2⟩
     have := o6.chg (chg_set (H.length + 1) ⟨[.int .i64 w, .int .i64 h, u2], 0, 28⟩) (fun i hi hh => by have := nu2 i hi; have := List.mem_singleton.1 hh; omega)
     simpa [withBroken, hok] using this
  · have hok' : ¬ (meshOk w h b ∧ has w h b c) := hok
    have g := set_get (r' := ⟨[.int .i64 w, .int .i64 h, u], 0, 28⟩) (get_app' b1 [⟨[.int .i64 w, .int .i64 h, u], 0, 28⟩])
    simp [hok', one, one1, VM.look, b0, b1, get_app' b0, get_app' b1, l0, Nat.le_add_right_of_le l0, g]
    refine ⟨.agg #[.int .i64 w, .int .i64 h, u], by simp [hok], u, by simp [withBroken, hok, dMesh_val], ⟨by simpa [withBroken, hok] using ob.app.chg (chg_set _ _) (fun i hi hh => by have := n1' i hi; simp at hh; omega), by simpa [withBroken, hok] using hl⟩, (cH.trans (Chg.app [])).trans' (chg_set _ _) (fun i hi => .inr (by simp at hi; omega)), fun i hi => by have := n1' i hi; omega, ids_nodup u⟩
theorem sWithBroken_d {v : Value} {w h : Int} {b : List Int} {c : Int} (o : dMesh.Ow H v (w, h, b)) : wp (vcall C frz 43 [dMesh.val v (w, h, b), .int .i64 c] H) (Made2 dMesh H (w, h, withBroken w h b c) (decide (breakOk w h b c))) := sWithBroken_w w h v b c o.1 o.2
end Go.Proofs.YtlbbalmeaedbdaaGreat.V
/-! Channels of a mesh. -/
set_option linter.all false
namespace Go.Proofs.YtlbbalmeaedbdaaGreat.V
open Go Go.VM Go.Proofs
set_option maxRecDepth 10000
variable {frz : Nat} {H : Heap}
theorem ow_ix0 {v : Value} {xs : List Int} {e : TypeId} (o : Ow Fl.int e H v xs) {i : Nat} (h1 : i < xs.length) : vindexAddr Tryz.prog H 26 v (.int .i64 (i : Nat)) = some (elp v i) ∧ vload Tryz.prog H 3 (elp v i) = some (.int .i64 xs[i]) := by
  have h2 := o.rd.isI.idx (P := Tryz.prog) (ty := 26) (e := 3) (by simp) (i := (i : Int)) (by omega) (by omega)
  have h3 := (o.rd.isI.load (P := Tryz.prog) (e := 3) (by simp) h1).trans (by rw [getD_get _ _ h1])
  exact ⟨by simpa using h2, h3⟩
def chN (w h : Int) (b : List Int) (m : Nat) : List Int := ((List.range m).filter (fun c : Nat => decide (has w h b (c : Int)))).map (fun c : Nat => (c : Int))
theorem chN_succ (w h : Int) (b : List Int) (m : Nat) : chN w h b (m + 1) = if has w h b (m : Int) then chN w h b m ++ [(m : Int)] else chN w h b m := by
  unfold chN
  rw [List.range_succ, List.filter_append, List.map_append]
  by_cases hh : has w h b (m : Int)
  · rw [if_pos hh]; simp [hh]
  · rw [if_neg hh]; simp [hh]
theorem chN_len (w h : Int) (b : List Int) : ∀ m, (chN w h b m).length ≤ m
  | 0 => Nat.le_refl _
  | m + 1 => by
    rw [chN_succ]
    have := chN_len w h b m
    split <;> simp <;> omega
theorem chN_mem {w h : Int} {b : List Int} {m : Nat} {x : Int} (hx : x ∈ chN w h b m) : has w h b x := by
  unfold chN at hx
  obtain ⟨c, hc, rfl⟩ := List.mem_map.1 hx
  simpa using (List.mem_filter.1 hc).2
def chans (w h : Int) (b : List Int) : List Int := if meshOk w h b then chN w h b (4 * (cnt w h).toNat) else []
/-! plain: one channel more is broken -/
theorem broke_mem {b : List Int} {c x : Int} : x ∈ broke b c ↔ x ∈ b ∨ x = c := by
  unfold broke
  rw [(isort_perm _).mem_iff]; simp
theorem has_broke {w h : Int} {b : List Int} {c x : Int} : has w h (broke b c) x ↔ has w h b x ∧ x ≠ c := by
  unfold has
  rw [broke_mem]
  constructor
  · rintro ⟨h1, h2⟩; exact ⟨⟨h1, fun hh => h2 (.inl hh)⟩, fun hh => h2 (.inr hh)⟩
  · rintro ⟨⟨h1, h2⟩, h3⟩; exact ⟨h1, fun hh => hh.elim h2 h3⟩
theorem meshOk_broke {w h : Int} {b : List Int} {c : Int} (hok : breakOk w h b c) : meshOk w h (broke b c) := by
  obtain ⟨hm, hl, hn⟩ := hok
  obtain ⟨m1, m2, m3⟩ := (meshOk_iff w h b).1 hm
  refine (meshOk_iff w h _).2 ⟨m1, fun x hx => ?_, ?_⟩
  · rcases broke_mem.1 hx with h1 | h1
    · exact m2 x h1
    · rw [h1]; exact hl
  · have hs := isort_sorted (b ++ [c])
    have hnd : (b ++ [c]).Nodup := by
      rw [List.nodup_append]
      refine ⟨m3.imp (fun h => by omega), by simp, fun x hx y hy => ?_⟩
      rw [List.mem_singleton.1 hy]
      intro e; subst e; exact hn hx
    have hnd2 : (isort (b ++ [c])).Nodup := (isort_perm _).nodup_iff.2 hnd
    have := List.pairwise_and_iff.2 ⟨hs, hnd2⟩
    exact this.imp (fun h => by obtain ⟨h1, h2⟩ := h; omega)
theorem chN_broke {w h : Int} {b : List Int} {k : Nat} (hk : has w h b (k : Int)) : ∀ m, (chN w h (broke b k) m).length + (if k < m then 1 else 0) = (chN w h b m).length
  | 0 => by simp [chN]
  | m + 1 => by
    have ih := chN_broke hk m
    rw [chN_succ, chN_succ]
    by_cases hm : has w h b (m : Int)
    · rw [if_pos hm]
      by_cases hkm : k = m
      · subst hkm
        rw [if_neg (fun hh => (has_broke.1 hh).2 rfl), if_pos (by omega)]
        rw [if_neg (by omega)] at ih
        simp; omega
      · rw [if_pos (has_broke.2 ⟨hm, by omega⟩)]
        simp
        by_cases h1 : k < m
        · rw [if_pos h1] at ih; rw [if_pos (by omega)]; omega
        · rw [if_neg h1] at ih; rw [if_neg (by omega)]; omega
    · rw [if_neg hm, if_neg (fun hh => hm (has_broke.1 hh).1)]
      have : k ≠ m := fun e => by subst e; exact hm hk
      by_cases h1 : k < m
      · rw [if_pos h1] at ih; rw [if_pos (by omega)]; omega
      · rw [if_neg h1] at ih; rw [if_neg (by omega)]; omega
theorem chans_broke {w h : Int} {b : List Int} {c : Int} (hok : breakOk w h b c) : (chans w h (broke b c)).length + 1 = (chans w h b).length ∧ c ∉ chans w h (broke b c) := by
  have hl := hok.2.1.1
  have hc := cnt_range w h
  obtain ⟨k, rfl⟩ := Int.eq_ofNat_of_zero_le hl.1
  unfold chans
  rw [if_pos (meshOk_broke hok), if_pos hok.1]
  have := chN_broke hok.2 (4 * (cnt w h).toNat)
  rw [if_pos (by omega)] at this
  exact ⟨this, fun hh => (has_broke.1 (chN_mem hh)).2 rfl⟩
theorem chans_has {w h : Int} {b : List Int} {x : Int} (hx : x ∈ chans w h b) : breakOk w h b x := by
  unfold chans at hx
  by_cases hm : meshOk w h b
  · rw [if_pos hm] at hx; exact ⟨hm, chN_mem hx⟩
  · rw [if_neg hm] at hx; cases hx
theorem chans_len (w h : Int) (b : List Int) : (chans w h b).length ≤ 64 := by
  have hc := cnt_range w h
  unfold chans
  split
  · have := chN_len w h b (4 * (cnt w h).toNat); omega
  · simp
end Go.Proofs.YtlbbalmeaedbdaaGreat.V
/-! Values whose rows are there. -/
set_option linter.all false
namespace Go.Proofs.YtlbbalmeaedbdaaGreat.V
open Go Go.VM Go.Proofs
set_option maxRecDepth 10000
variable {frz : Nat} {H : Heap}
theorem isI_live {u : Value} {l : List Int} (h : IsI H u l) : VM.live1 H u := by
  rcases h with ⟨rfl, _⟩ | ⟨id, off, r, rfl, h2, _⟩
  · trivial
  · show VM.look H ⟨id, off, some r.gen⟩ ≠ none
    simp [VM.look, h2]
theorem mesh_live {u : Value} {l : List Int} (w h : Int) (hu : IsI H u l) : VM.live H (.agg #[.int .i64 w, .int .i64 h, u]) := fun c hc => by
  simp only [List.mem_cons, List.not_mem_nil, or_false] at hc
  rcases hc with rfl | rfl | rfl <;> first | trivial | exact isI_live hu
theorem tab_live {u : Value} {l : List Int} (hu : IsI H u l) : VM.live H (.agg #[u]) := fun c hc => by
  simp only [List.mem_cons, List.not_mem_nil, or_false] at hc
  rw [hc]; exact isI_live hu
end Go.Proofs.YtlbbalmeaedbdaaGreat.V
/-! Draws of grids with two nodes, and of damaged meshes. -/
set_option linter.all false
namespace Go.Proofs.YtlbbalmeaedbdaaGreat.V
open Go Go.VM Go.Proofs
set_option maxRecDepth 10000
variable {frz : Nat} {H : Heap} {r : Nat} {vb : Value} {code : List Int}
theorem Cur.set {J : Heap} {id : Nat} {x : Row} (c : Cur J r vb code) (h1 : r ≠ id) (h2 : ∀ i ∈ ids vb, i ≠ id) : Cur (J.set id x) r vb code :=
  c.chg (chg_set _ _) (by simpa using h1) (fun i hi => by simpa using h2 i hi)
theorem l14Grid_w (c : Cur H r vb code) (hf : frz ≤ r) : wp (vcall C frz 42 [.pointer (some ⟨r, 0, some 0⟩)] H) (fun u H' => (∃ w h, u = .agg #[.int .i64 w, .int .i64 h] ∧ okG w h ∧ 2 ≤ cnt w h) ∧ Chg H H' [r] ∧ Cur H' r vb code) := by
  have lt := c.lt
  have vlt := c.vlt
  rw [vcall_go (fn := Tryz.f42) Tryz.func42 rfl (by kernel_rfl) rfl]
  simp
  refine wp_thn (l02Grid_w (c.app _) hf) ?_
  rintro _ K ⟨⟨w, h, rfl, hg⟩, c1, d1⟩
  have cH : Chg H K [r] := (Chg.app [r]).trans c1
  have l0 := cH.1
  have b0 : K[H.length]? = some ⟨[.int .i64 0, .int .i64 0], 0, 25⟩ := box_chg (by simp) c1 (by simp; omega)
  have lK := box_lt b0
  have hF : frz ≤ H.length := by omega
  have hFK : frz ≤ K.length := by omega
  have nc := fun F H => sNodeCount_c (frz := F) (H := H) w h
  simp [hFK, VM.look, nc]
  refine wp_dec ?_ ?_ <;> intro g
  · have b1 := get_app' b0 [⟨[.int .i64 2, .int .i64 h], 0, 25⟩]
    have g3 := set_get (r' := ⟨[.int .i64 2, .int .i64 h], 0, 25⟩) b1
    have ltr := d1.lt
    have h2 : okG 2 h ∧ 2 ≤ cnt 2 h := by
      have e : okG 2 h := ⟨by omega, hg.2⟩
      refine ⟨e, ?_⟩
      unfold cnt; rw [if_pos e]; have := hg.2; omega
    simp [VM.look, b1, g3, hFK, hF]
    exact ⟨⟨2, h, ⟨rfl, rfl⟩, h2⟩, (cH.trans (Chg.app _)).trans' (chg_set _ _) (fun i hi => .inr (by simp at hi; omega)), (d1.app _).set (by omega) (fun i hi => by have := vlt i hi; omega)⟩
  · have b1 := get_app' b0 [⟨[.int .i64 w, .int .i64 h], 0, 25⟩]
    have g3 := set_get (r' := ⟨[.int .i64 w, .int .i64 h], 0, 25⟩) b1
    have ltr := d1.lt
    simp [VM.look, b1, g3, hF]
    exact ⟨⟨w, h, ⟨rfl, rfl⟩, hg, by omega⟩, (cH.trans (Chg.app _)).trans' (chg_set _ _) (fun i hi => .inr (by simp at hi; omega)), (d1.app _).set (by omega) (fun i hi => by have := vlt i hi; omega)⟩
theorem withBroken_ok {w h : Int} {b : List Int} (hm : meshOk w h b) (c : Int) : meshOk w h (withBroken w h b c) := by
  unfold withBroken
  split
  · rename_i hok; exact meshOk_broke hok
  · exact hm
theorem l33Mesh_w (c : Cur H r vb code) (hf : frz ≤ r) : wp (vcall C frz 19 [.pointer (some ⟨r, 0, some 0⟩)] H) (fun u H' => MeshD' H [r] u H' ∧ Cur H' r vb code) := by
  have lt := c.lt
  have hF : frz ≤ H.length := by omega
  rw [vcall_go (fn := Tryz.f19) Tryz.func19 rfl (by kernel_rfl) rfl]
  simp
  refine wp_thn (l14Grid_w (c.app _) hf) ?_
  rintro _ H1 ⟨⟨w, h, rfl, hg, hn2⟩, c1, d1⟩
  have cH : Chg H H1 [r] := (Chg.app [r]).trans c1
  have l0 := cH.1
  have lt1 := d1.lt
  have b0 : H1[H.length]? = some ⟨[.int .i64 0, .int .i64 0, .slice none 0 0], 0, 28⟩ := box_chg (by simp) c1 (by simp; omega)
  have l1 := box_lt b0
  simp [VM.look, hF, Nat.le_trans hF l0]
  have vlt := c.vlt
  have hne : H1.length ≠ H.length := by omega
  obtain ⟨N, hN⟩ : ∃ N : Nat, cnt w h = N := ⟨(cnt w h).toNat, by have := cnt_range w h; omega⟩
  have hp4 : 0 < 4 * N := by omega
  have hN2 : N ≤ 16 := by have := cnt_range w h; omega
  have nc := fun F L => (sNodeCount_c (frz := F) (H := L) w h).trans (by rw [hN])
  have e4 : ∀ [Inhabited Unit], IntKind.i64.wrap (4 * (N : Int)) = ((4 * N : Nat) : Int) := by intro _; rw [w64 (by omega) (by omega)]; omega
  refine wp_joino (F := ?F) (k := ?k) (o := ?o) (Q := ?Q) (fun t H' => t 2 = .pointer (some ⟨H.length, 0, some 0⟩) ∧ t 3 = .pointer (some ⟨H1.length, 0, some 0⟩) ∧ ∃ v b, H'[H.length]? = some ⟨[.int .i64 0, .int .i64 0, .slice none 0 0], 0, 28⟩ ∧
     H'[H1.length]? = some ⟨[.int .i64 w, .int .i64 h, v], 0, 28⟩ ∧ Cur H' r vb code ∧ Ow Fl.int 3 H' v b ∧ (∀ i ∈ ids v, H.length + 1 ≤ i ∧ i ≠ H1.length) ∧ Chg H H' [r] ∧ meshOk w h b) ?main ?rest
  case main =>
    intro rest
    refine wp_inv (fun n t H' => ∃ (i : Nat) (v : Value) (b : List Int), n = 5 - i ∧ t 0 = .pointer (some ⟨r, 0, some 0⟩) ∧ t 2 = .pointer (some ⟨H.length, 0, some 0⟩) ∧ t 3 = .pointer (some ⟨H1.length, 0, some 0⟩) ∧ t 4 = .int .i64 i ∧
       H'[H.length]? = some ⟨[.int .i64 0, .int .i64 0, .slice none 0 0], 0, 28⟩ ∧
       H'[H1.length]? = some ⟨[.int .i64 w, .int .i64 h, v], 0, 28⟩ ∧ Cur H' r vb code ∧ Ow Fl.int 3 H' v b ∧ (∀ i ∈ ids v, H.length + 1 ≤ i ∧ i ≠ H1.length) ∧ Chg H H' [r] ∧ meshOk w h b) ?_ (n := 5)
      ⟨0, .slice none 0 0, [], rfl, by simp, by simp, by simp, by simp, box_chg b0 (Chg.app []) (by simp), by simp, d1.app _, .inl ⟨rfl, rfl⟩, by simp, cH.trans (Chg.app _), ⟨by simp, hg⟩⟩
    rintro n t H' ⟨i, v, b, rfl, t0, t2, t3, t4, b2, b3, d2, o, nv, ch, hm⟩ ih
    have one := And.intro o.rd.one' o.rd.cells
    have lb30 := box_lt b3
    have lch := ch.1
    simp [t0, t2, t3, t4]
    refine wp_thn (l01Below_w (frz := frz) d2 hf 5 (by decide) (by decide)) ?_
    rintro _ H2 ⟨⟨x, rfl, hx⟩, c2, d2⟩
    have b2 := box_chg b2 c2 (by simp; omega)
    have b3 := box_chg b3 c2 (by simp; omega)
    have o := o.chg c2 (fun j hj hh => by have := nv j hj; simp at hh; omega)
    have ch := ch.trans c2
    simp [t0, t2, t3, t4]
    refine wp_dec ?_ ?_ <;> intro g2
    · simp [t0, t2, t3, t4]
      rw [go_drawP (fl := ([0, 4], [12])) (pl := [0, 1, 2, 3, 11, 4, 5, 6, 7, 8, 9, 10, 12, 13]) (h := ⟨by kernel_rfl, by kernel_rfl, by kernel_rfl, by kernel_rfl, by kernel_rfl, by kernel_rfl⟩)]
      have lm2 := mesh_live w h o.rd.isI
      have lm3 := mesh_live w h (o.rd.isI.app [⟨[.int .i64 0, .int .i64 0, .slice none 0 0], 0, 28⟩])
      have b3a := get_app' b3 [⟨[.int .i64 0, .int .i64 0, .slice none 0 0], 0, 28⟩]
      simp [permA, renO, emps, empOp, empB, -vappend_nil, -vappend_mk, t0, t2, t3, t4, VM.look, b3, b3a, lm2, lm3, one, nc, e4]
      obtain ⟨K2, hK2⟩ : ∃ K2, K2 = H2 ++ [⟨[.int .i64 0, .int .i64 0, .slice none 0 0], 0, 28⟩] := ⟨_, rfl⟩
      have cK2 : Chg H2 K2 [] := by rw [hK2]; exact Chg.app _
      have b5 : K2[H2.length]? = some ⟨[.int .i64 0, .int .i64 0, .slice none 0 0], 0, 28⟩ := by rw [hK2]; simp
      have lb5 := box_lt b5
      have b2 := box_chg b2 cK2 (by simp)
      have lb3 := box_lt b3
      have lc2 := c2.1
      have b3 := box_chg b3 cK2 (by simp)
      have o0 := o
      have o := o.chg cK2 (by simp)
      have ch := ch.trans (cK2.mono (by simp))
      have d2 := d2.chg cK2 (by simp) (fun j hj hh => by simp at hh)
      have ltd2 := d2.lt
      rw [← hK2]
      clear hK2 b3a lm3
      have bl := l01Below_w (frz := frz) d2 hf (4 * N) hp4 (by omega)
      have bl := (show wp (vcall C frz 21 [.pointer (some ⟨r, 0, some 0⟩), .int .i64 (4 * (N : Int))] K2) _ by simpa using bl)
      refine wp_thnW bl ?_
      rintro _ H3 ⟨⟨y, rfl, hy⟩, c3, d3⟩
      have hne5 : H2.length ≠ r := by omega
      have b5 := box_chg b5 c3 (by simp; omega)
      have b2 := box_chg b2 c3 (by simp; omega)
      have b3 := box_chg b3 c3 (by simp; omega)
      have o := o.chg c3 (fun j hj hh => by have := nv j hj; simp at hh; omega)
      have ch := ch.trans c3
      have hlb := brk_len hm
      have lm4 := mesh_live w h o.rd.isI
      refine ⟨by simp [VM.look, b5, b3, one, lm4], ?_⟩
      simp [permA, renO, emps, empOp, empB, -vappend_nil, -vappend_mk, t0, t2, t3, t4, VM.look, b3, b5, lm4, one]
      refine wp_thnW (sWithBroken_w w h v b y o (by omega)) ?_
      rintro _ H4 ⟨u, rfl, x4, rfl, ox, c4, n4, _⟩
      have hm' := withBroken_ok hm (y : Int)
      have hlb' := brk_len hm'
      generalize withBroken w h b y = b' at *
      have ox : Ow Fl.int 3 H4 x4 b' := ox.1
      have n4 : ∀ i ∈ ids x4, H3.length ≤ i := n4
      have b5 := box_chg b5 c4 (by simp)
      have b2 := box_chg b2 c4 (by simp)
      have b3 := box_chg b3 c4 (by simp)
      have o := o.chg c4 (by simp)
      have ch := ch.trans (c4.mono (by simp))
      have d4 := d3.chg c4 (by simp) (fun j hj hh => by simp at hh)
      have onex := And.intro ox.rd.one' ox.rd.cells
      have lm5 := mesh_live w h o.rd.isI
      refine ⟨by simp [VM.look, b5, b3, one, lm5], ?_⟩
      have nx0 : ∀ j ∈ ids x4, H2.length < j := fun j hj => by have := n4 j hj; have := c3.1; omega
      have l3 := c3.1
      have l4 := ch.1
      have fr5 : frz ≤ H2.length := by omega
      obtain ⟨K, hK⟩ : ∃ K, K = H4.set H2.length ⟨[.int .i64 w, .int .i64 h, x4], 0, 28⟩ := ⟨_, rfl⟩
      have cK : Chg H4 K [H2.length] := by rw [hK]; exact chg_set _ _
      have b5' : K[H2.length]? = some ⟨[.int .i64 w, .int .i64 h, x4], 0, 28⟩ := by rw [hK]; exact set_get b5
      have b2 := box_chg b2 cK (by simp; omega)
      have b3 := box_chg b3 cK (by simp; omega)
      have nvl : ∀ j ∈ ids v, j < H2.length := fun j hj => o0.lt j hj
      have o := o.chg cK (fun j hj hh => by have := nvl j hj; simp at hh; omega)
      have ox := ox.chg cK (fun j hj hh => by have := nx0 j hj; simp at hh; omega)
      have ch := ch.trans' cK (fun j hj => .inr (by simp at hj; omega))
      have d4 := d4.chg cK (by simp; omega) (fun j hj hh => by have := vlt j hj; simp at hh; omega)
      have ll4 := c4.1
      have w1 : ∀ [Inhabited Unit], IntKind.i64.wrap ((i : Int) + 1) = ((i + 1 : Nat) : Int) := by intro _; rw [w64 (by omega) (by omega)]; omega
      have ic := fun F => sIsConnected_c (frz := F) (H := K) w h x4 b' ox.rd.isI (by omega)
      simp [permA, renO, emps, empOp, empB, -vappend_nil, -vappend_mk, dMesh_val, t0, t2, t3, t4, onex, VM.look, b5, fr5]
      rw [← hK]
      clear hK
      simp [VM.look, b5', ic, onex, t0, t2, t3, t4]
      have ltd := d4.lt
      have nx : ∀ j ∈ ids x4, H.length + 1 ≤ j ∧ j ≠ H1.length := fun j hj => by have := n4 j hj; have := c2.1; have := c3.1; omega
      have go1 : i < 5 := by omega
      -- the new mesh is taken
      have yes := fun (t' : Env) (H5 : Heap) (c5 : Chg K H5 [r]) (d5 : Cur H5 r vb code) (y0 : t' 0 = .pointer (some ⟨r, 0, some 0⟩)) (y2 : t' 2 = .pointer (some ⟨H.length, 0, some 0⟩)) (y3 : t' 3 = .pointer (some ⟨H1.length, 0, some 0⟩)) (y4 : t' 4 = .int .i64 (i + 1 : Nat)) =>
        ih (5 - (i + 1)) t' (H5.set H1.length ⟨[.int .i64 w, .int .i64 h, x4], 0, 28⟩) ⟨i + 1, x4, b', rfl, y0, y2, y3, y4, box_chg (box_chg b2 c5 (by simp; omega)) (chg_set _ _) (by simp; omega), set_get (box_chg b3 c5 (by simp; omega)), d5.chg (chg_set _ _) (by simp; omega) (fun j hj hh => by have := vlt j hj; simp at hh; omega),
          (ox.chg c5 (fun j hj hh => by have := nx j hj; simp at hh; omega)).chg (chg_set _ _) (fun j hj hh => by have := nx j hj; simp at hh; omega), nx, (ch.trans c5).trans' (chg_set _ _) (fun j hj => .inr (by simp at hj; omega)), hm'⟩ (by omega)
      have no := fun (t' : Env) (H5 : Heap) (c5 : Chg K H5 [r]) (d5 : Cur H5 r vb code) (y0 : t' 0 = .pointer (some ⟨r, 0, some 0⟩)) (y2 : t' 2 = .pointer (some ⟨H.length, 0, some 0⟩)) (y3 : t' 3 = .pointer (some ⟨H1.length, 0, some 0⟩)) (y4 : t' 4 = .int .i64 (i + 1 : Nat)) =>
        ih (5 - (i + 1)) t' H5 ⟨i + 1, v, b, rfl, y0, y2, y3, y4, box_chg b2 c5 (by simp; omega), box_chg b3 c5 (by simp; omega), d5, o.chg c5 (fun j hj hh => by have := nv j hj; simp at hh; omega), nv, ch.trans c5, hm⟩ (by omega)
      refine wpg_dec ?_ ?_ <;> intro g3
      · simp [t0, t2, t3, t4, VM.look, b5', b3, onex, Nat.le_trans hF l0, w1, g3]
        refine yes _ K (Chg.refl _) d4 ?_ ?_ ?_ ?_ <;> simp [t0, t2, t3]
      · simp [t0, t2, t3, t4, g3]
        refine wp_thn (l01Once_w d4 hf 8 (by decide) (by decide)) ?_
        rintro _ H5 ⟨⟨b9, rfl⟩, c5, d5⟩
        have b55 := box_chg b5' c5 (by simp; omega)
        have b35 := box_chg b3 c5 (by simp; omega)
        simp
        refine wp_bool ?_ ?_ <;> intro g4
        · simp [t0, t2, t3, t4, VM.look, b55, b35, onex, Nat.le_trans hF l0, w1]
          refine yes _ H5 c5 d5 ?_ ?_ ?_ ?_ <;> simp [t0, t2, t3]
        · simp [t0, t2, t3, t4, w1]
          refine no _ H5 c5 d5 ?_ ?_ ?_ ?_ <;> simp [t0, t2, t3]
    · simp [t0, t2, t3, t4, -go_exit_blk]
      refine rest _ _ ?_
      exact ⟨by simp [t2], by simp [t3], v, b, b2, b3, d2, o, nv, ch, hm⟩
  case rest =>
    rintro t H' ⟨t2, t3, v, b, b2, b3, d2, o, nv, ch, hm⟩
    have g2 := set_get (r' := ⟨[.int .i64 w, .int .i64 h, v], 0, 28⟩) b2
    have one := And.intro o.rd.one' o.rd.cells
    simp [t2, t3, VM.look, b3, b2, g2, hF, one]
    refine ⟨⟨v, w, h, b, rfl, hm, o.chg (chg_set _ _) (fun i hi hh => by have := nv i hi; simp at hh; omega), fun i hi => by have := nv i hi; omega, ch.trans' (chg_set _ _) (fun i hi => .inr (by simp at hi; omega))⟩, ?_⟩
    exact d2.chg (chg_set _ _) (by simp; omega) (fun i hi hh => by have := vlt i hi; simp at hh; omega)
theorem drawDamaged_w (vb : Value) (code : List Int) (hb : Rd Fl.u8 H vb code) (hl : code.length ≤ 1073741824) : wp (vcall C frz 6 [vb] H) (fun u H' => MeshD' H [] u H') := by
  rw [vcall_go (fn := Tryz.f6) Tryz.func6 rfl (by kernel_rfl) rfl]
  simp
  refine wp_thn (l01New_w vb code hb.app hl) ?_
  rintro _ H1 ⟨r, rfl, hr, c1, ch1⟩
  have cH : Chg H H1 [] := (Chg.app []).trans ch1
  have b1 : H1[H.length]? = some ⟨[.int .i64 0, .int .i64 0, .slice none 0 0], 0, 28⟩ := box_chg (by simp) ch1 (by simp)
  simp at hr
  simp
  refine wp_thn (l33Mesh_w c1 (by omega)) ?_
  rintro _ H2 ⟨⟨v, w, h, b, rfl, hm, o, nv, c2⟩, d2⟩
  have b2 := box_chg b1 c2 (by simp; omega)
  have g2 := set_get (r' := ⟨[.int .i64 w, .int .i64 h, v], 0, 28⟩) b2
  have one := And.intro o.rd.one' o.rd.cells
  have l1 := cH.1
  have k1 := box_lt b1
  simp [VM.look, b2, g2, one]
  exact ⟨v, w, h, b, rfl, hm, o.chg (chg_set _ _) (fun i hi hh => by have := nv i hi; simp at hh; omega), fun i hi => by have := nv i hi; omega, (cH.trans' c2 (fun i hi => .inr (by simp at hi; omega))).trans' (chg_set _ _) (fun i hi => .inr (by simp at hi; omega))⟩
end Go.Proofs.YtlbbalmeaedbdaaGreat.V
/-! Lists of dependencies as numbers (1024 * From + To): ascending, each once. -/
set_option linter.all false
namespace Go.Proofs.YtlbbalmeaedbdaaGreat.V
open Go Go.VM Go.Proofs
set_option maxRecDepth 10000
/-- ascending lists with the same members are one -/
theorem strict_ext {l m : List Int} (hl : l.Pairwise (· < ·)) (hm : m.Pairwise (· < ·)) (h : ∀ x, x ∈ l ↔ x ∈ m) : l = m := by
  induction l generalizing m with
  | nil =>
    cases m with
    | nil => rfl
    | cons b m => have := (h b).2 (List.mem_cons_self ..); simp at this
  | cons a l ih =>
    cases m with
    | nil => have := (h a).1 (List.mem_cons_self ..); simp at this
    | cons b m =>
      obtain ⟨l1, l2⟩ := List.pairwise_cons.1 hl
      obtain ⟨m1, m2⟩ := List.pairwise_cons.1 hm
      have e : a = b := by
        rcases List.mem_cons.1 ((h a).1 (List.mem_cons_self ..)) with e | e
        · exact e
        · rcases List.mem_cons.1 ((h b).2 (List.mem_cons_self ..)) with e' | e'
          · exact e'.symm
          · have := m1 a e; have := l1 b e'; omega
      subst e
      congr 1
      refine ih l2 m2 fun x => ⟨fun hx => ?_, fun hx => ?_⟩
      · rcases List.mem_cons.1 ((h x).1 (List.mem_cons_of_mem _ hx)) with e | e
        · subst e; have := l1 x hx; omega
        · exact e
      · rcases List.mem_cons.1 ((h x).2 (List.mem_cons_of_mem _ hx)) with e | e
        · subst e; have := m1 x hx; omega
        · exact e
/-- one more, unless it is there -/
def insK (k : Int) : List Int → List Int
  | [] => [k]
  | a :: l => if k < a then k :: a :: l else if k = a then a :: l else a :: insK k l
theorem mem_insK (k x : Int) : ∀ l, x ∈ insK k l ↔ x = k ∨ x ∈ l
  | [] => by simp [insK]
  | a :: l => by
    unfold insK
    split
    · simp
    · split
      · rename_i e; subst e; simp
      · rw [List.mem_cons, mem_insK k x l, List.mem_cons]
        constructor
        · rintro (h | h | h)
          · exact .inr (.inl h)
          · exact .inl h
          · exact .inr (.inr h)
        · rintro (h | h | h)
          · exact .inr (.inl h)
          · exact .inl h
          · exact .inr (.inr h)
theorem insK_asc (k : Int) : ∀ l : List Int, l.Pairwise (· < ·) → (insK k l).Pairwise (· < ·)
  | [], _ => by simp [insK]
  | a :: l, h => by
    obtain ⟨h1, h2⟩ := List.pairwise_cons.1 h
    unfold insK
    split
    · rename_i g
      refine List.pairwise_cons.2 ⟨fun x hx => ?_, h⟩
      rcases List.mem_cons.1 hx with rfl | hx
      · exact g
      · have := h1 x hx; omega
    · split
      · exact h
      · refine List.pairwise_cons.2 ⟨fun x hx => ?_, insK_asc k l h2⟩
        rcases (mem_insK k x l).1 hx with rfl | hx
        · omega
        · exact h1 x hx
/-- equal neighbours once -/
def ded : List Int → List Int
  | [] => []
  | [a] => [a]
  | a :: b :: l => if a = b then ded (b :: l) else a :: ded (b :: l)
theorem mem_ded (x : Int) : ∀ l, x ∈ ded l ↔ x ∈ l
  | [] => by simp [ded]
  | [a] => by simp [ded]
  | a :: b :: l => by
    unfold ded
    have ih := mem_ded x (b :: l)
    split
    · rename_i e; subst e; rw [ih]; simp
    · rw [List.mem_cons, ih]; simp
theorem ded_asc : ∀ l : List Int, l.Pairwise (· ≤ ·) → (ded l).Pairwise (· < ·)
  | [], _ => by simp [ded]
  | [a], _ => by simp [ded]
  | a :: b :: l, h => by
    obtain ⟨h1, h2⟩ := List.pairwise_cons.1 h
    have ih := ded_asc (b :: l) h2
    unfold ded
    split
    · exact ih
    · rename_i e
      refine List.pairwise_cons.2 ⟨fun x hx => ?_, ih⟩
      have hx := (mem_ded x (b :: l)).1 hx
      have hb := h1 b (List.mem_cons_self ..)
      rcases List.mem_cons.1 hx with rfl | hx
      · omega
      · have := (List.pairwise_cons.1 h2).1 x hx; omega
/-- a list arranged -/
noncomputable def arrK (l : List Int) : List Int := l.foldl (fun s k => insK k s) []
theorem fold_asc : ∀ (l s : List Int), s.Pairwise (· < ·) → (l.foldl (fun s k => insK k s) s).Pairwise (· < ·) ∧ ∀ x, x ∈ l.foldl (fun s k => insK k s) s ↔ x ∈ s ∨ x ∈ l
  | [], s, h => ⟨h, fun x => by simp⟩
  | k :: l, s, h => by
    obtain ⟨i1, i2⟩ := fold_asc l (insK k s) (insK_asc k s h)
    refine ⟨i1, fun x => ?_⟩
    rw [List.foldl_cons, i2, mem_insK, List.mem_cons]
    constructor
    · rintro ((h | h) | h)
      · exact .inr (.inl h)
      · exact .inl h
      · exact .inr (.inr h)
    · rintro (h | h | h)
      · exact .inl (.inr h)
      · exact .inl (.inl h)
      · exact .inr h
theorem arrK_asc (l : List Int) : (arrK l).Pairwise (· < ·) := (fold_asc l [] List.Pairwise.nil).1
theorem mem_arrK (l : List Int) (x : Int) : x ∈ arrK l ↔ x ∈ l := by
  have := (fold_asc l [] List.Pairwise.nil).2 x
  unfold arrK
  rw [this]; simp
/-- sorted and without equal neighbours: the same -/
theorem ded_sorted {l m : List Int} (h : m.Pairwise (· ≤ ·)) (hp : m.Perm l) : ded m = arrK l :=
  strict_ext (ded_asc m h) (arrK_asc l) fun x => by rw [mem_ded, mem_arrK, hp.mem_iff]
theorem fold_insK {l s : List Int} (hs : s.Pairwise (· < ·)) : l.foldl (fun s k => insK k s) s = arrK (s ++ l) :=
  strict_ext (fold_asc l s hs).1 (arrK_asc _) fun x => by rw [(fold_asc l s hs).2 x, mem_arrK, List.mem_append]
end Go.Proofs.YtlbbalmeaedbdaaGreat.V
/-! Lists of dependencies, read as numbers (1024 * From + To). -/
set_option linter.all false
namespace Go.Proofs.YtlbbalmeaedbdaaGreat.V
open Go Go.VM Go.Proofs
set_option maxRecDepth 10000
variable {frz : Nat} {H : Heap} {v : Value} {xs : List Int} {e : TypeId} {f : Value}
def Fl.dep : Fl Int := ⟨2, fun k => [.int .i64 (k / 1024), .int .i64 (k % 1024)], fun _ => rfl⟩
@[simp] theorem Fl.dep_n : Fl.dep.n = 2 := rfl
theorem Fl.dep_f (k : Int) : Fl.dep.f k = [.int .i64 (k / 1024), .int .i64 (k % 1024)] := rfl
def dv (k : Int) : Value := .agg #[.int .i64 (k / 1024), .int .i64 (k % 1024)]
theorem dv_agg (k : Int) : Value.agg (Fl.dep.f k).toArray = dv k := rfl
def KB (k : Int) : Prop := 0 ≤ k ∧ k < 1099511627776
def Bd (xs : List Int) : Prop := ∀ x ∈ xs, KB x
theorem Bd.G (h : Bd xs) (i : Nat) : KB (G xs i) := by
  by_cases hi : i < xs.length
  · rw [G_get hi]; exact h _ (List.getElem_mem hi)
  · have : V.G xs i = 0 := by simp [V.G, List.getD_eq_getElem?_getD, hi]
    rw [this]; exact ⟨by decide, by decide⟩
theorem Bd.swp (h : Bd xs) (i j : Nat) : Bd (swp xs i j) := fun x hx => by
  unfold V.swp at hx
  rcases List.mem_or_eq_of_mem_set hx with hx | rfl
  · rcases List.mem_or_eq_of_mem_set hx with hx | rfl
    · exact h x hx
    · exact h.G j
  · exact h.G i
def OwE (e : TypeId) (H : Heap) (v : Value) (xs : List Int) : Prop := Ow Fl.dep e H v xs ∧ Bd xs
theorem OwE.rd (h : OwE e H v xs) : Rd Fl.dep H v xs := h.1.rd
theorem OwE.lt (h : OwE e H v xs) : ∀ i ∈ ids v, i < H.length := h.1.lt
theorem OwE.app {L : Heap} (h : OwE e H v xs) : OwE e (H ++ L) v xs := ⟨h.1.app, h.2⟩
theorem OwE.chg {H' : Heap} {is : List Nat} (h : OwE e H v xs) (k : Chg H H' is) (k' : ∀ i ∈ ids v, i ∉ is) : OwE e H' v xs := ⟨h.1.chg k k', h.2⟩
theorem dw_ix (o : OwE e H v xs) {i : Nat} (h1 : i < xs.length) : vindexAddr Tryz.prog H 63 v (.int .i64 i) = some (elp v (i * 2)) := by
  have := o.rd.idx (P := Tryz.prog) (ty := 63) (e := 88) (by simp) (i := (i : Int)) (by omega) (by omega)
  simpa using this
theorem dw_ld (o : OwE e H v xs) {i : Nat} (h1 : i < xs.length) : vload Tryz.prog H 88 (elp v (i * 2)) = some (dv (G xs i)) := by
  have := o.rd.load (P := Tryz.prog) (e := 88) (by simp) h1
  rw [G_get h1, ← dv_agg]
  exact this
theorem dw_swap (o : OwE e H v xs) {i j : Nat} (hi : i < xs.length) (hj : j < xs.length) (hf : ∀ i ∈ ids v, frz ≤ i) :
    ∃ H1 H2, vstore Tryz.prog frz H 88 (dv (G xs j)) (elp v (i * 2)) = some H1 ∧ (∀ k : Nat, k < xs.length → vindexAddr Tryz.prog H1 63 v (.int .i64 k) = some (elp v (k * 2))) ∧
      vstore Tryz.prog frz H1 88 (dv (G xs i)) (elp v (j * 2)) = some H2 ∧ OwE e H2 v (swp xs i j) ∧ Chg H H2 (ids v) ∧ H2.length = H.length := by
  obtain ⟨H1, s1, o1, c1, l1⟩ := o.1.store (P := Tryz.prog) (frz := frz) (et := 88) (ag := true) (by simp) hi (x := dv (G xs j)) (y := G xs j) rfl rfl hf
  obtain ⟨H2, s2, o2, c2, l2⟩ := o1.store (P := Tryz.prog) (frz := frz) (et := 88) (ag := true) (by simp) (j := j) (by simpa using hj) (x := dv (G xs i)) (y := G xs i) rfl rfl hf
  have b1 : Bd (xs.set i (G xs j)) := fun x hx => by
    rcases List.mem_or_eq_of_mem_set hx with hx | rfl
    · exact o.2 x hx
    · exact o.2.G j
  exact ⟨H1, H2, s1, fun k hk => dw_ix ⟨o1, b1⟩ (by simpa using hk), s2, ⟨o2, o.2.swp i j⟩, c1.trans c2, by omega⟩
def SwdE (H : Heap) (v : Value) (xs : List Int) (e : TypeId) (a b : Nat) (K : List Int → Prop) (H' : Heap) : Prop :=
  ∃ ys, Sw a b xs ys ∧ K ys ∧ OwE e H' v ys ∧ Chg H H' (ids v) ∧ H'.length = H.length
/-- how two dependencies compare -/
def cmpZ (x y : Int) : Int := if x / 1024 = y / 1024 then x % 1024 - y % 1024 else x / 1024 - y / 1024
@[simp] theorem cmpZ_lt (x y : Int) : cmpZ x y < 0 ↔ x < y := by unfold cmpZ; split <;> omega
def CmpK (f : Value) : Prop := ∀ F K x y, KB x → KB y → vclos (vcall C F) f [dv x, dv y] K = some (.int .i64 (cmpZ x y), K)
theorem dlt (hc : CmpK f) (o : OwE e H v xs) (F : Nat) (K : Heap) (i j : Nat) : vclos (vcall C F) f [dv (G xs i), dv (G xs j)] K = some (.int .i64 (cmpZ (G xs i) (G xs j)), K) := hc F K _ _ (o.2.G i) (o.2.G j)
theorem iand_leE (a : Int) (b : Nat) (hb : b < 18446744073709551616) : 0 ≤ iand .u64 a b ∧ iand .u64 a b ≤ b := by
  unfold iand
  have h1 : (BitVec.ofInt IntKind.u64.bits a &&& BitVec.ofInt IntKind.u64.bits (b : Int)).toNat ≤ b := by
    rw [BitVec.toNat_and]
    refine Nat.le_trans Nat.and_le_right ?_
    rw [BitVec.toNat_ofInt]
    have : IntKind.u64.bits = 64 := rfl
    rw [this]; omega
  rw [w64u (by omega) (by omega)]
  omega
def BoxE (H : Heap) (r : Nat) : Prop := ∃ s, H[r]? = some ⟨[.int .i64 s], 0, 3⟩
end Go.Proofs.YtlbbalmeaedbdaaGreat.V
/-! Sorting dependencies (sorte.py, of VS1). -/
set_option linter.all false
namespace Go.Proofs.YtlbbalmeaedbdaaGreat.V
open Go Go.VM Go.Proofs
set_option maxRecDepth 10000
variable {frz : Nat} {H : Heap} {v : Value} {xs : List Int} {e : TypeId} {cf : Value} (hK : CmpK cf)
include hK
theorem insSort_e (v : Value) (xs : List Int) (e : TypeId) (a b : Nat) (h : OwE e H v xs) (hab : a ≤ b) (hb : b ≤ xs.length) (hl : xs.length ≤ 1073741824) (hf : ∀ i ∈ ids v, frz ≤ i) :
   wp (vcall C frz 109 [v, .int .i64 a, .int .i64 b, cf] H) (fun _ H' => SwdE H v xs e a b (fun ys => Srt ys a b) H') := by
  rw [vcall_go (fn := Tryz.f109) Tryz.func109 rfl (by kernel_rfl) rfl]
  simp
  refine wp_inv (fun n t H' => ∃ i : Nat, n = b - i ∧ (t 0 = v ∧ t 3 = cf) ∧ t 1 = .int .i64 a ∧ t 2 = .int .i64 b ∧ t 8 = .int .i64 i ∧ a + 1 ≤ i ∧ i ≤ max (a + 1) b ∧ SwdE H v xs e a b (fun ys => Srt ys a i) H') ?_ (n := b - (a + 1))
    ⟨a + 1, by simp, by simp, by simp, by simp, by simp; exact w64 (by omega) (by omega), by omega, by omega, xs, .refl, Srt.short (by omega), h, Chg.refl _, rfl⟩
  rintro n t H' ⟨i, rfl, h0, h1, h2, h6, ha, hi, ys, sw, sr, o, c, l⟩ ih
  simp [h0, h1, h2, h6]
  refine wp_dec ?_ ?_ <;> intro hib
  · simp [h0, h1, h2, h6]
    refine wp_inv (fun n t H' => ∃ j : Nat, n = j ∧ (t 0 = v ∧ t 3 = cf) ∧ t 1 = .int .i64 a ∧ t 2 = .int .i64 b ∧ t 8 = .int .i64 i ∧ t 9 = .int .i64 j ∧ a ≤ j ∧ j ≤ i ∧ SwdE H v xs e a b (fun ys => Ins ys a i j) H') ?_ (n := i)
      ⟨i, rfl, by simp [h0], by simp [h1], by simp [h2], by simp [h6], by simp, by omega, by omega, ys, sw, Ins.start sr, o, c, l⟩
    rintro j t H' ⟨_, rfl, h0, h1, h2, h6, h7, haj, hji, ys, sw, ins, o, c, l⟩ ih2
    have len := sw.len
    simp [h0, h1, h2, h6, h7]
    rw [go_draw (h := by kernel_rfl)]
    simp [h0, h1, h2, h6, h7]
    refine wpg_dec ?_ ?_ <;> intro hja
    · have e1 : IntKind.i64.wrap ((j : Int) - 1) = ((j - 1 : Nat) : Int) := by rw [w64 (by omega) (by omega)]; omega
      have p1 : j < ys.length := by omega
      have p2 : j - 1 < ys.length := by omega
      simp [h0, h1, h2, h6, h7, hja, e1, dw_ix o p1, dw_ix o p2, dw_ld o p1, dw_ld o p2, dlt hK o]
      have out : ∀ t' : Env, (t' 0 = v ∧ t' 3 = cf) → t' 1 = .int .i64 a → t' 2 = .int .i64 b → t' 8 = .int .i64 (IntKind.i64.wrap ((i : Int) + 1)) → (j = a ∨ (a < j ∧ G ys (j - 1) ≤ G ys j)) →
          ∃ i' : Nat, b - (i + 1) = b - i' ∧ (t' 0 = v ∧ t' 3 = cf) ∧ t' 1 = .int .i64 a ∧ t' 2 = .int .i64 b ∧ t' 8 = .int .i64 i' ∧ a + 1 ≤ i' ∧ i' ≤ max (a + 1) b ∧ SwdE H v xs e a b (fun ys => Srt ys a i') H' := by
        intro t' g0 g1 g2 g6 hj
        exact ⟨i + 1, rfl, g0, g1, g2, by rw [g6, w64 (by omega) (by omega)]; simp, by omega, by omega, ys, sw, ins.done hj, o, c, l⟩
      refine wp_dec ?_ ?_ <;> intro hlt
      · simp [h0, h1, h2, h6, h7]
        rw [go_draw (h := by kernel_rfl)]
        obtain ⟨H1, H2, s1, ix, s2, o2, c2, l2⟩ := dw_swap o p1 p2 hf
        simp [h0, h1, h2, h6, h7, e1, dw_ix o p1, dw_ix o p2, dw_ld o p1, dw_ld o p2, s1, ix _ p1, ix _ p2, s2]
        refine ih2 (j - 1) _ _ ⟨j - 1, rfl, by simp [h0], by simp [h1], by simp [h2], by simp [h6], by simp [e1], by omega, by omega, _, sw.step j (j - 1) (by omega) (by omega), ?_, o2, c.trans c2, by omega⟩ (by omega)
        exact ins.step (by omega) hja hji hlt
      · simp [h0, h1, h2, h6, h7]
        refine ih (b - (i + 1)) _ _ (out _ ?_ ?_ ?_ ?_ (.inr ⟨hja, by omega⟩)) (by omega) <;> simp [h0, h1, h2]
    · simp [h0, h1, h2, h6, h7, hja]
      refine ih (b - (i + 1)) _ _ ⟨i + 1, rfl, by simp [h0], by simp [h1], by simp [h2], ?_, by omega, by omega, ys, sw, ins.done (.inl (by omega)), o, c, l⟩ (by omega)
      simp; exact w64 (by omega) (by omega)
  · have : i = max (a + 1) b := by omega
    simp
    exact ⟨ys, sw, fun p q h1 h2 h3 => sr p q h1 h2 (by omega), o, c, l⟩
theorem siftDown_e (v : Value) (xs : List Int) (e : TypeId) (lo n f : Nat) (h : OwE e H v xs) (hp : Hp xs f (lo + 1) n) (hlo : lo ≤ n) (hn : f + n ≤ xs.length) (hl : xs.length ≤ 1073741824) (hf : ∀ i ∈ ids v, frz ≤ i) :
   wp (vcall C frz 119 [v, .int .i64 lo, .int .i64 n, .int .i64 f, cf] H) (fun _ H' => SwdE H v xs e (f + lo) (f + n) (fun ys => Hp ys f lo n) H') := by
  rw [vcall_go (fn := Tryz.f119) Tryz.func119 rfl (by kernel_rfl) rfl]
  simp
  refine wp_inv (fun m t H' => ∃ r : Nat, m = n - r ∧ (t 0 = v ∧ t 4 = cf) ∧ t 2 = .int .i64 n ∧ t 3 = .int .i64 f ∧ t 10 = .int .i64 r ∧ lo ≤ r ∧ r ≤ n ∧ SwdE H v xs e (f + lo) (f + n) (fun ys => HpB ys f lo n r) H') ?_ (n := n - lo)
    ⟨lo, rfl, by simp, by simp, by simp, by simp, by omega, by omega, xs, .refl, HpB.start hp, h, Chg.refl _, rfl⟩
  rintro m t H' ⟨r, rfl, h0, h2, h3, h8, hlr, hrn, ys, sw, hb, o, c, l⟩ ih
  have len := sw.len
  obtain ⟨c1, hc1⟩ : ∃ c1, c1 = 2 * r + 1 := ⟨_, rfl⟩
  obtain ⟨c2, hc2⟩ : ∃ c2, c2 = 2 * r + 2 := ⟨_, rfl⟩
  obtain ⟨d0, hd0⟩ : ∃ d0, d0 = f + r := ⟨_, rfl⟩
  obtain ⟨d1, hd1⟩ : ∃ d1, d1 = f + c1 := ⟨_, rfl⟩
  obtain ⟨d2, hd2⟩ : ∃ d2, d2 = f + c2 := ⟨_, rfl⟩
  have e1 : IntKind.i64.wrap (IntKind.i64.wrap (2 * (r : Int)) + 1) = (c1 : Int) := by rw [w64 (x := 2 * (r : Int)) (by omega) (by omega), w64 (by omega) (by omega)]; omega
  simp [h0, h2, h3, h8, e1]
  refine wp_dec ?_ ?_ <;> intro hc
  · simp
    exact ⟨ys, sw, hb.done (fun q h1 h2 => by omega), o, c, l⟩
  · have e2 : IntKind.i64.wrap ((c1 : Int) + 1) = (c2 : Int) := by rw [w64 (by omega) (by omega)]; omega
    have e3 : IntKind.i64.wrap ((f : Int) + (c1 : Int)) = (d1 : Int) := by rw [w64 (by omega) (by omega)]; omega
    have e4 : IntKind.i64.wrap ((d1 : Int) + 1) = (d2 : Int) := by rw [w64 (by omega) (by omega)]; omega
    have e5 : IntKind.i64.wrap ((f : Int) + (r : Int)) = (d0 : Int) := by rw [w64 (by omega) (by omega)]; omega
    have p0 : d0 < ys.length := by omega
    have p1 : d1 < ys.length := by omega
    refine (fun (rest : ∀ (q : Nat) (t' : Env), (q = 2 * r + 1 ∨ q = 2 * r + 2) → q < n → (∀ p, (p = 2 * r + 1 ∨ p = 2 * r + 2) → p < n → G ys (f + p) ≤ G ys (f + q)) →
       (t' 0 = v ∧ t' 4 = cf) → t' 2 = .int .i64 n → t' 3 = .int .i64 f → t' 10 = .int .i64 r → t' 11 = .int .i64 q → wp (go ?F ?k .normal t' H') ?Q) => ?main) ?rest
    case main =>
      simp [h0, h2, h3, h8, hc, e2]
      rw [go_draw (h := by kernel_rfl)]
      simp [h0, h2, h3, h8, e2]
      refine wpg_dec ?_ ?_ <;> intro g1
      · have p2 : d2 < ys.length := by omega
        simp [h0, h2, h3, h8, e2, g1, e3, e4, dw_ix o p1, dw_ix o p2, dw_ld o p1, dw_ld o p2, dlt hK o]
        refine wp_dec ?_ ?_ <;> intro g2 <;> simp [e2]
        · refine rest c2 _ (.inr hc2) g1 (fun p g3 g4 => ?_) ?_ ?_ ?_ ?_ ?_ <;> try simp [h0, h2, h3, h8]
          rw [← hd2]
          rcases g3 with g3 | g3
          · rw [g3, ← hc1, ← hd1]; omega
          · rw [g3, ← hc2, ← hd2]; omega
        · refine rest c1 _ (.inl hc1) (by omega) (fun p g3 g4 => ?_) ?_ ?_ ?_ ?_ ?_ <;> try simp [h0, h2, h3, h8]
          rw [← hd1]
          rcases g3 with g3 | g3
          · rw [g3, ← hc1, ← hd1]; omega
          · rw [g3, ← hc2, ← hd2]; omega
      · simp [h0, h2, h3, h8, e2, g1]
        refine rest c1 _ (.inl hc1) (by omega) (fun p g3 g4 => ?_) ?_ ?_ ?_ ?_ ?_ <;> try simp [h0, h2, h3, h8]
        have : p = c1 := by omega
        rw [this]; omega
    case rest =>
      intro q t hq hqn hbig h0 h2 h3 h8 h9
      obtain ⟨dq, hdq⟩ : ∃ dq, dq = f + q := ⟨_, rfl⟩
      have e6 : IntKind.i64.wrap ((f : Int) + (q : Int)) = (dq : Int) := by rw [w64 (by omega) (by omega)]; omega
      have pq : dq < ys.length := by omega
      rw [← hdq] at hbig
      rw [go_draw (h := by kernel_rfl)]
      simp [h0, h2, h3, h8, h9, e5, e6, dw_ix o p0, dw_ix o pq, dw_ld o p0, dw_ld o pq, dlt hK o]
      refine wp_dec ?_ ?_ <;> intro g1
      · simp [h0, h2, h3, h8, h9]
        rw [go_draw (h := by kernel_rfl)]
        obtain ⟨H1, H2, s1, ix, s2, o2, c3, l2⟩ := dw_swap o p0 pq hf
        simp [h0, h2, h3, h8, h9, e5, e6, dw_ix o p0, dw_ix o pq, dw_ld o p0, dw_ld o pq, s1, ix _ p0, ix _ pq, s2]
        refine ih (n - q) _ _ ⟨q, rfl, by simp [h0], by simp [h2], by simp [h3], by simp, by omega, by omega, _, sw.step d0 dq (by omega) (by omega), ?_, o2, c.trans c3, by omega⟩ (by omega)
        subst hd0 hdq
        exact hb.step (by omega) hlr hq hqn g1 hbig
      · simp
        subst hd0 hdq
        exact ⟨ys, sw, hb.done (fun p g3 g4 => by have := hbig p g3 g4; omega), o, c, l⟩
theorem heapSort_e (v : Value) (xs : List Int) (e : TypeId) (a b : Nat) (h : OwE e H v xs) (hab : a < b) (hb : b ≤ xs.length) (hl : xs.length ≤ 1073741824) (hf : ∀ i ∈ ids v, frz ≤ i) :
   wp (vcall C frz 110 [v, .int .i64 a, .int .i64 b, cf] H) (fun _ H' => SwdE H v xs e a b (fun ys => Srt ys a b) H') := by
  rw [vcall_go (fn := Tryz.f110) Tryz.func110 rfl (by kernel_rfl) rfl]
  obtain ⟨n, hn⟩ : ∃ n, n = b - a := ⟨_, rfl⟩
  have e1 : IntKind.i64.wrap ((b : Int) - a) = (n : Int) := by rw [w64 (by omega) (by omega)]; omega
  have e2 : IntKind.i64.wrap ((n : Int) - 1) = ((n - 1 : Nat) : Int) := by rw [w64 (by omega) (by omega)]; omega
  have e3 : IntKind.i64.wrap (((n - 1 : Nat) : Int) / 2) = (((n - 1) / 2 + 1 : Nat) : Int) - 1 := by rw [w64 (by omega) (by omega)]; omega
  have e4 : ((n : Int) - 1) = ((n - 1 : Nat) : Int) := by omega
  have hbn : a + n = b := by omega
  simp [e1, e2, e3]
  refine wp_inv (fun m t H' => ∃ k : Nat, m = k ∧ (t 0 = v ∧ t 3 = cf) ∧ t 8 = .int .i64 a ∧ t 9 = .int .i64 0 ∧ t 10 = .int .i64 n ∧ t 11 = .int .i64 ((k : Int) - 1) ∧ k ≤ n ∧ SwdE H v xs e a b (fun ys => Hp ys a k n) H') ?_ (n := (n - 1) / 2 + 1)
    ⟨(n - 1) / 2 + 1, rfl, by simp, by simp, by simp, by simp, by simp, by omega, xs, .refl, fun r c h1 h2 h3 => by omega, h, Chg.refl _, rfl⟩
  rintro k t H' ⟨_, rfl, h0, h6, h7, h8, h9, hkn, ys, sw, hp, o, c, l⟩ ih
  have len := sw.len
  simp [h0, h6, h7, h8, h9]
  refine wp_dec ?_ ?_ <;> intro hk
  · obtain ⟨k, rfl⟩ : ∃ k', k = k' + 1 := ⟨k - 1, by omega⟩
    have e5 : ((k + 1 : Nat) : Int) - 1 = (k : Int) := by omega
    rw [e5] at h9
    simp [h0, h6, h7, h8, h9]
    refine wp_thn (siftDown_e hK v ys e k n a o hp (by omega) (by omega) (by omega) hf) ?_
    rintro _ H1 ⟨zs, sw1, hp1, o1, c1, l1⟩
    simp [h0, h6, h7, h8, h9]
    refine ih k _ _ ⟨k, rfl, by simp [h0], by simp [h6], by simp [h7], by simp [h8], ?_, by omega, zs, sw.trans (sw1.mono (by omega) (by omega)), hp1, o1, c.trans c1, by omega⟩ (by omega)
    simp; rw [w64 (by omega) (by omega)]
  · obtain rfl : k = 0 := by omega
    simp [h0, h6, h7, h8, h9, e2]
    refine wp_inv (fun m t H' => ∃ k : Nat, m = k ∧ (t 0 = v ∧ t 3 = cf) ∧ t 8 = .int .i64 a ∧ t 9 = .int .i64 0 ∧ t 12 = .int .i64 ((k : Int) - 1) ∧ k ≤ n ∧
        SwdE H v xs e a b (fun ys => Hp ys a 0 k ∧ Srt ys (a + k) b ∧ ∀ p q, a ≤ p → p < a + k → a + k ≤ q → q < b → G ys p ≤ G ys q) H') ?_ (n := n)
      ⟨n, rfl, by simp [h0], by simp [h6], by simp [h7], by simp [e4], by omega, ys, sw, ⟨hp, Srt.short (by omega), fun p q h1 h2 h3 h4 => by omega⟩, o, c, l⟩
    clear ih h0 h6 h7 h8 h9 o c l hp sw len
    rintro k t H' ⟨_, rfl, h0, h6, h7, h10, hkn, ys, sw, ⟨hp, hs, hle⟩, o, c, l⟩ ih
    have len := sw.len
    simp [h0, h6, h7, h10]
    refine wp_dec ?_ ?_ <;> intro hk
    · obtain ⟨k, rfl⟩ : ∃ k', k = k' + 1 := ⟨k - 1, by omega⟩
      have e5 : ((k + 1 : Nat) : Int) - 1 = (k : Int) := by omega
      rw [e5] at h10
      obtain ⟨d, hd⟩ : ∃ d, d = a + k := ⟨_, rfl⟩
      have e6 : IntKind.i64.wrap ((a : Int) + (k : Int)) = (d : Int) := by rw [w64 (by omega) (by omega)]; omega
      have p0 : a < ys.length := by omega
      have p1 : d < ys.length := by omega
      obtain ⟨H1, H2, s1, ix, s2, o2, c2, l2⟩ := dw_swap o p0 p1 hf
      simp [h0, h6, h7, h10]
      rw [go_draw (h := by kernel_rfl)]
      simp [h0, h6, h7, h10, e6, dw_ix o p0, dw_ix o p1, dw_ld o p0, dw_ld o p1, s1, ix _ p0, ix _ p1, s2]
      have gs := fun q => G_swp (xs := ys) p0 p1 q
      refine wp_thn (siftDown_e hK v _ e 0 k a o2 (fun r q h1 h2 h3 => ?_) (by omega) (by simp; omega) (by simp; omega) hf) ?_
      · rw [gs, gs, if_neg (by omega), if_neg (by omega), if_neg (by omega), if_neg (by omega)]
        exact hp r q (by omega) h2 (by omega)
      · rintro _ H3 ⟨zs, sw1, hp1, o3, c3, l3⟩
        simp only [Nat.add_zero] at sw1
        have hlz : a + k ≤ (swp ys a d).length := by simp; omega
        have top := hp.top
        have hz : ∀ q, q < a ∨ a + k ≤ q → G zs q = G (swp ys a d) q := fun q hq => sw1.out hlz hq
        have zd : G zs d = G ys a := by rw [hz d (by omega), gs, if_pos rfl]
        have zo : ∀ q, d < q → q < b → G zs q = G ys q := fun q h1 h2 => by rw [hz q (by omega), gs, if_neg (by omega), if_neg (by omega)]
        have zlo : ∀ p, a ≤ p → p < a + k → G zs p ≤ G ys a ∧ ∀ q, d < q → q < b → G zs p ≤ G ys q := sw1.all (p := fun x => x ≤ G ys a ∧ ∀ q, d < q → q < b → x ≤ G ys q) hlz (fun p h1 h2 => by
          rw [gs, if_neg (by omega)]
          split
          · have := top k (by omega); rw [← hd] at this
            exact ⟨this, fun q g1 g2 => hle d q (by omega) (by omega) (by omega) g2⟩
          · have := top (p - a) (by omega); rw [show a + (p - a) = p by omega] at this
            exact ⟨this, fun q g1 g2 => hle p q (by omega) (by omega) (by omega) g2⟩)
        simp [h0, h6, h7, h10]
        refine ih k _ _ ⟨k, rfl, by simp [h0], by simp [h6], by simp [h7], ?_, by omega, zs, (sw.step a d (by omega) (by omega)).trans (sw1.mono (by omega) (by omega)), ⟨hp1, fun p q h1 h2 h3 => ?_, fun p q h1 h2 h3 h4 => ?_⟩, o3, c.trans (c2.trans c3), by omega⟩ (by omega)
        · simp; rw [w64 (by omega) (by omega)]
        · rw [zo q (by omega) h3]
          by_cases hpd : p = d
          · rw [hpd, zd]; exact hle a q (by omega) (by omega) (by omega) h3
          · rw [zo p (by omega) (by omega)]; exact hs p q (by omega) h2 h3
        · by_cases hq : q = d
          · rw [hq, zd]; exact (zlo p h1 h2).1
          · rw [zo q (by omega) h4]; exact (zlo p h1 h2).2 q (by omega) h4
    · obtain rfl : k = 0 := by omega
      simp
      exact ⟨ys, sw, hs, o, c, l⟩
end Go.Proofs.YtlbbalmeaedbdaaGreat.V
/-! Sorting dependencies (sorte.py, of VS2). -/
set_option linter.all false
namespace Go.Proofs.YtlbbalmeaedbdaaGreat.V
open Go Go.VM Go.Proofs
set_option maxRecDepth 10000
variable {frz : Nat} {H : Heap} {v : Value} {xs : List Int} {e : TypeId} {cf : Value} (hK : CmpK cf)
include hK
theorem revRange_e (v : Value) (xs : List Int) (e : TypeId) (a b : Nat) (h : OwE e H v xs) (hab : a < b) (hb : b ≤ xs.length) (hl : xs.length ≤ 1073741824) (hf : ∀ i ∈ ids v, frz ≤ i) :
   wp (vcall C frz 113 [v, .int .i64 a, .int .i64 b, cf] H) (fun _ H' => SwdE H v xs e a b (fun ys => True) H') := by
  rw [vcall_go (fn := Tryz.f113) Tryz.func113 rfl (by kernel_rfl) rfl]
  have e1 : IntKind.i64.wrap ((b : Int) - 1) = ((b - 1 : Nat) : Int) := by rw [w64 (by omega) (by omega)]; omega
  simp [e1]
  refine wp_inv (fun m t H' => ∃ i j : Nat, m = j - i ∧ (t 0 = v ∧ t 3 = cf) ∧ t 8 = .int .i64 i ∧ t 9 = .int .i64 j ∧ a ≤ i ∧ j < b ∧ i ≤ j + 1 ∧ SwdE H v xs e a b (fun ys => True) H') ?_ (n := b - 1 - a)
    ⟨a, b - 1, rfl, by simp, by simp, by simp, by omega, by omega, by omega, xs, .refl, trivial, h, Chg.refl _, rfl⟩
  rintro m t H' ⟨i, j, rfl, h0, h6, h7, hi, hj, hij, ys, sw, _, o, c, l⟩ ih
  have len := sw.len
  simp [h0, h6, h7]
  refine wp_dec ?_ ?_ <;> intro hk
  · have p0 : i < ys.length := by omega
    have p1 : j < ys.length := by omega
    obtain ⟨H1, H2, s1, ix, s2, o2, c2, l2⟩ := dw_swap o p0 p1 hf
    simp [h0, h6, h7]
    rw [go_draw (h := by kernel_rfl)]
    simp [h0, h6, h7, dw_ix o p0, dw_ix o p1, dw_ld o p0, dw_ld o p1, s1, ix _ p0, ix _ p1, s2]
    refine ih (j - 1 - (i + 1)) _ _ ⟨i + 1, j - 1, rfl, by simp [h0], ?_, ?_, by omega, by omega, by omega, _, sw.step i j (by omega) (by omega), trivial, o2, c.trans c2, by omega⟩ (by omega)
    · simp; rw [w64 (by omega) (by omega)]
    · simp; rw [w64 (by omega) (by omega)]; omega
  · simp
    exact ⟨ys, sw, trivial, o, c, l⟩
theorem order2_e (v : Value) (xs : List Int) (e : TypeId) (a b r : Nat) (h : OwE e H v xs) (ha : a < xs.length) (hb : b < xs.length) (hr : BoxE H r) (hf : frz ≤ r) :
   wp (vcall C frz 124 [v, .int .i64 a, .int .i64 b, .pointer (some ⟨r, 0, some 0⟩), cf] H)
    (fun u H' => (∃ a' b' : Nat, u = .tuple #[.int .i64 a', .int .i64 b'] ∧ ((a' = a ∧ b' = b) ∨ (a' = b ∧ b' = a))) ∧ Chg H H' [r] ∧ BoxE H' r) := by
  obtain ⟨s, hs⟩ := hr
  rw [vcall_go (fn := Tryz.f124) Tryz.func124 rfl (by kernel_rfl) rfl]
  simp
  rw [go_draw (h := by kernel_rfl)]
  simp [dw_ix h ha, dw_ix h hb, dw_ld h ha, dw_ld h hb, dlt hK h]
  refine wp_dec ?_ ?_ <;> intro g1
  · simp [vnil, VM.look, hs, hf]
    exact ⟨⟨b, a, ⟨rfl, rfl⟩, .inr ⟨rfl, rfl⟩⟩, chg_set _ _, _, set_get hs⟩
  · simp
    exact ⟨⟨a, b, ⟨rfl, rfl⟩, .inl ⟨rfl, rfl⟩⟩, Chg.refl _, _, hs⟩
theorem median_e (v : Value) (xs : List Int) (e : TypeId) (a b c r : Nat) (h : OwE e H v xs) (ha : a < xs.length) (hb : b < xs.length) (hc : c < xs.length) (hr : BoxE H r) (hf : frz ≤ r) (hn : r ∉ ids v) :
   wp (vcall C frz 123 [v, .int .i64 a, .int .i64 b, .int .i64 c, .pointer (some ⟨r, 0, some 0⟩), cf] H)
    (fun u H' => (∃ m : Nat, u = .int .i64 m ∧ (m = a ∨ m = b ∨ m = c)) ∧ Chg H H' [r] ∧ BoxE H' r) := by
  rw [vcall_go (fn := Tryz.f123) Tryz.func123 rfl (by kernel_rfl) rfl]
  simp
  refine wp_thn (order2_e hK v xs e a b r h ha hb hr hf) ?_
  rintro _ H1 ⟨⟨a1, b1, rfl, h1⟩, c1, r1⟩
  have o1 := h.chg c1 (fun i hi hh => by simp at hh; subst hh; exact hn hi)
  simp
  refine wp_thn (order2_e hK v xs e b1 c r o1 (by omega) hc r1 hf) ?_
  rintro _ H2 ⟨⟨b2, c2, rfl, h2⟩, c2', r2⟩
  have o2 := o1.chg c2' (fun i hi hh => by simp at hh; subst hh; exact hn hi)
  simp
  refine wp_thn (order2_e hK v xs e a1 b2 r o2 (by omega) (by omega) r2 hf) ?_
  rintro _ H3 ⟨⟨a3, b3, rfl, h3⟩, c3, r3⟩
  simp
  exact ⟨⟨b3, rfl, by omega⟩, c1.trans (c2'.trans c3), r3⟩
theorem medianAdj_e (v : Value) (xs : List Int) (e : TypeId) (a r : Nat) (h : OwE e H v xs) (h0 : 0 < a) (ha : a + 1 < xs.length) (hl : xs.length ≤ 1073741824) (hr : BoxE H r) (hf : frz ≤ r) (hn : r ∉ ids v) :
   wp (vcall C frz 122 [v, .int .i64 a, .pointer (some ⟨r, 0, some 0⟩), cf] H)
    (fun u H' => (∃ m : Nat, u = .int .i64 m ∧ (m + 1 = a ∨ m = a ∨ m = a + 1)) ∧ Chg H H' [r] ∧ BoxE H' r) := by
  rw [vcall_go (fn := Tryz.f122) Tryz.func122 rfl (by kernel_rfl) rfl]
  have e1 : IntKind.i64.wrap ((a : Int) - 1) = ((a - 1 : Nat) : Int) := by rw [w64 (by omega) (by omega)]; omega
  have e2 : IntKind.i64.wrap ((a : Int) + 1) = ((a + 1 : Nat) : Int) := by rw [w64 (by omega) (by omega)]; omega
  simp [e1]
  rw [e2]
  refine wp_thn (median_e hK v xs e (a - 1) a (a + 1) r h (by omega) (by omega) ha hr hf hn) ?_
  rintro _ H1 ⟨⟨m, rfl, hm⟩, c1, r1⟩
  simp
  exact ⟨⟨m, rfl, by omega⟩, c1, r1⟩
theorem choosePivot_e (v : Value) (xs : List Int) (e : TypeId) (a b : Nat) (h : OwE e H v xs) (hab : a + 8 ≤ b) (hb : b ≤ xs.length) (hl : xs.length ≤ 1073741824) (hf : frz ≤ H.length) :
   wp (vcall C frz 112 [v, .int .i64 a, .int .i64 b, cf] H)
    (fun u H' => (∃ (m : Nat) (k : Int), u = .tuple #[.int .i64 m, .int .i64 k] ∧ a ≤ m ∧ m < b) ∧ Chg H H' []) := by
  rw [vcall_go (fn := Tryz.f112) Tryz.func112 rfl (by kernel_rfl) rfl]
  obtain ⟨n, hn⟩ : ∃ n, n = b - a := ⟨_, rfl⟩
  have e1 : ∀ [Inhabited Unit], IntKind.i64.wrap ((b : Int) - a) = (n : Int) := by intro _; rw [w64 (by omega) (by omega)]; omega
  obtain ⟨q, hq⟩ : ∃ q, q = n / 4 := ⟨_, rfl⟩
  have e2 : ∀ [Inhabited Unit], IntKind.i64.wrap ((n : Int) / 4) = (q : Int) := by intro _; rw [w64 (by omega) (by omega)]; omega
  obtain ⟨q2, hq2⟩ : ∃ q2, q2 = q * 2 := ⟨_, rfl⟩
  obtain ⟨q3, hq3⟩ : ∃ q3, q3 = q * 3 := ⟨_, rfl⟩
  obtain ⟨i0, hi0⟩ : ∃ i0, i0 = a + q := ⟨_, rfl⟩
  obtain ⟨i1, hi1⟩ : ∃ i1, i1 = a + q2 := ⟨_, rfl⟩
  obtain ⟨i2, hi2⟩ : ∃ i2, i2 = a + q3 := ⟨_, rfl⟩
  have e3 : ∀ [Inhabited Unit], IntKind.i64.wrap (q : Int) = (q : Int) := by intro _; rw [w64 (by omega) (by omega)]
  have e4 : ∀ [Inhabited Unit], IntKind.i64.wrap ((q : Int) * 2) = (q2 : Int) := by intro _; rw [w64 (by omega) (by omega)]; omega
  have e5 : ∀ [Inhabited Unit], IntKind.i64.wrap ((q : Int) * 3) = (q3 : Int) := by intro _; rw [w64 (by omega) (by omega)]; omega
  have e6 : ∀ [Inhabited Unit], IntKind.i64.wrap ((a : Int) + q) = (i0 : Int) := by intro _; rw [w64 (by omega) (by omega)]; omega
  have e7 : ∀ [Inhabited Unit], IntKind.i64.wrap ((a : Int) + q2) = (i1 : Int) := by intro _; rw [w64 (by omega) (by omega)]; omega
  have e8 : ∀ [Inhabited Unit], IntKind.i64.wrap ((a : Int) + q3) = (i2 : Int) := by intro _; rw [w64 (by omega) (by omega)]; omega
  have g8 : (8 : Int) ≤ n := by omega
  have lt := h.lt
  have nin : H.length ∉ ids v := fun hh => by have := lt _ hh; omega
  simp [e1, e2, e3, e4, e5, e6, e7, e8, g8]
  have b0 : BoxE (H ++ [⟨[.int .i64 0], 0, 3⟩]) H.length := ⟨0, by simp⟩
  have o0 : OwE e (H ++ [⟨[.int .i64 0], 0, 3⟩]) v xs := h.app
  refine wp_joinc (F := ?F) (k := ?k) (d := ?d) (Q := ?Q) (fun r t => ∃ (i0 i1 i2 : Nat) (H1 : Heap), r = vcall C frz 123 [v, .int .i64 i0, .int .i64 i1, .int .i64 i2, .pointer (some ⟨H.length, 0, some 0⟩), cf] H1 ∧
     (a ≤ i0 ∧ i0 < b) ∧ (a ≤ i1 ∧ i1 < b) ∧ (a ≤ i2 ∧ i2 < b) ∧ t 11 = .pointer (some ⟨H.length, 0, some 0⟩) ∧
     Chg (H ++ [⟨[.int .i64 0], 0, 3⟩]) H1 [H.length] ∧ BoxE H1 H.length) ?main ?rest
  case main =>
    intro rest
    refine wp_dec ?_ ?_ <;> intro g1
    · simp [e6, e7, e8]
      refine wp_thn (medianAdj_e hK v xs e i0 H.length o0 (by omega) (by omega) hl b0 hf nin) ?_
      rintro _ H1 ⟨⟨j0, rfl, hj0⟩, c1, r1⟩
      have o1 := o0.chg c1 (fun i hi hh => by simp at hh; subst hh; exact nin hi)
      simp [e6, e7, e8]
      refine wp_thn (medianAdj_e hK v xs e i1 H.length o1 (by omega) (by omega) hl r1 hf nin) ?_
      rintro _ H2 ⟨⟨j1, rfl, hj1⟩, c2, r2⟩
      have o2 := o1.chg c2 (fun i hi hh => by simp at hh; subst hh; exact nin hi)
      simp [e6, e7, e8]
      refine wp_thn (medianAdj_e hK v xs e i2 H.length o2 (by omega) (by omega) hl r2 hf nin) ?_
      rintro _ H3 ⟨⟨j2, rfl, hj2⟩, c3, r3⟩
      simp [e6, e7, e8]
      refine rest _ _ ?_
      exact ⟨j0, j1, j2, H3, rfl, by omega, by omega, by omega, by simp, c1.trans (c2.trans c3), r3⟩
    · simp [e6, e7, e8]
      refine rest _ _ ?_
      exact ⟨i0, i1, i2, _, rfl, by omega, by omega, by omega, by simp, Chg.refl _, b0⟩
  case rest =>
    rintro _ t ⟨i0, i1, i2, H1, rfl, h0, h1, h2, t9, c1, r1⟩
    have o1 := o0.chg c1 (fun i hi hh => by simp at hh; subst hh; exact nin hi)
    refine wp_thn (median_e hK v xs e i0 i1 i2 H.length o1 (by omega) (by omega) (by omega) r1 hf nin) ?_
    rintro _ H2 ⟨⟨m, rfl, hm⟩, c2, s, hs⟩
    have cc : Chg H H2 [] := (Chg.app (L := [⟨[.int .i64 0], 0, 3⟩]) []).trans' (c1.trans c2) (fun i hi => by simp at hi; subst hi; right; simp)
    simp [t9, VM.look, hs]
    refine wp_dec ?_ ?_ <;> intro g2 <;> simp
    · exact ⟨⟨m, rfl, by omega⟩, cc⟩
    · refine wp_dec ?_ ?_ <;> intro g3 <;> simp
      · exact ⟨⟨m, rfl, by omega⟩, cc⟩
      · exact ⟨⟨m, rfl, by omega⟩, cc⟩
end Go.Proofs.YtlbbalmeaedbdaaGreat.V
/-! Sorting dependencies (sorte.py, of VS3). -/
set_option linter.all false
namespace Go.Proofs.YtlbbalmeaedbdaaGreat.V
open Go Go.VM Go.Proofs
set_option maxRecDepth 10000
variable {frz : Nat} {H : Heap} {v : Value} {xs : List Int} {e : TypeId} {cf : Value} (hK : CmpK cf)
include hK
theorem breakPat_e (v : Value) (xs : List Int) (e : TypeId) (a b : Nat) (h : OwE e H v xs) (hab : a ≤ b) (hb : b ≤ xs.length) (hl : xs.length ≤ 1073741824) (hf : ∀ i ∈ ids v, frz ≤ i) (hF : frz ≤ H.length) :
   wp (vcall C frz 111 [v, .int .i64 a, .int .i64 b, cf] H) (fun _ H' => ∃ ys, Sw a b xs ys ∧ OwE e H' v ys ∧ Chg H H' (ids v)) := by
  rw [vcall_go (fn := Tryz.f111) Tryz.func111 rfl (by kernel_rfl) rfl]
  obtain ⟨n, hn⟩ : ∃ n, n = b - a := ⟨_, rfl⟩
  have e1 : ∀ [Inhabited Unit], IntKind.i64.wrap ((b : Int) - a) = (n : Int) := by intro _; rw [w64 (by omega) (by omega)]; omega
  simp [e1]
  refine wp_dec ?_ ?_ <;> intro g1
  · have lt := h.lt
    have nin : H.length ∉ ids v := fun hh => by have := lt _ hh; omega
    have e2 : ∀ [Inhabited Unit], IntKind.u64.wrap (n : Int) = (n : Int) := by intro _; exact w64u (by omega) (by omega)
    have e3 : ∀ [Inhabited Unit], IntKind.i64.wrap (n : Int) = (n : Int) := by intro _; exact w64 (by omega) (by omega)
    simp [e1, e2, VM.look, hF]
    refine wp_thn (pow2_w n (by omega)) ?_
    rintro _ _ ⟨rfl, m, rfl, m1, m2, m3⟩
    obtain ⟨q, hq⟩ : ∃ q, q = n / 4 := ⟨_, rfl⟩
    obtain ⟨q2, hq2⟩ : ∃ q2, q2 = q * 2 := ⟨_, rfl⟩
    obtain ⟨s, hs⟩ : ∃ s, s = a + q2 := ⟨_, rfl⟩
    have e4 : ∀ [Inhabited Unit], IntKind.i64.wrap ((n : Int) / 4) = (q : Int) := by intro _; rw [w64 (by omega) (by omega)]; omega
    have e5 : ∀ [Inhabited Unit], IntKind.i64.wrap ((q : Int) * 2) = (q2 : Int) := by intro _; rw [w64 (by omega) (by omega)]; omega
    have e6 : ∀ [Inhabited Unit], IntKind.i64.wrap ((a : Int) + q2) = (s : Int) := by intro _; rw [w64 (by omega) (by omega)]; omega
    have e7 : ∀ [Inhabited Unit], IntKind.i64.wrap ((s : Int) - 1) = ((s - 1 : Nat) : Int) := by intro _; rw [w64 (by omega) (by omega)]; omega
    have e8 : ∀ [Inhabited Unit], IntKind.i64.wrap ((s : Int) + 1) = ((s + 1 : Nat) : Int) := by intro _; rw [w64 (by omega) (by omega)]; omega
    have e9 : ∀ [Inhabited Unit], IntKind.u64.wrap ((m : Int) - 1) = ((m - 1 : Nat) : Int) := by intro _; rw [w64u (by omega) (by omega)]; omega
    simp [e1, e2, e3, e4, e5, e6, e7]
    refine wp_inv (fun c t H' => ∃ i : Nat, c = s + 2 - i ∧ s ≤ i + 1 ∧ i ≤ s + 2 ∧ (t 0 = v ∧ t 3 = cf) ∧ t 1 = .int .i64 a ∧ t 8 = .int .i64 n ∧ t 9 = .pointer (some ⟨H.length, 0, some 0⟩) ∧ t 10 = .int .u64 m ∧ t 11 = .int .i64 i ∧
        BoxX H' H.length ∧ Chg (H ++ [⟨[.int .u64 n], 0, 130⟩]) H' (H.length :: ids v) ∧ ∃ ys, Sw a b xs ys ∧ OwE e H' v ys) ?_ (n := s + 2 - (s - 1))
      ⟨s - 1, rfl, by omega, by omega, by simp, by simp, by simp, by simp, by simp, by simp, ⟨n, by simp⟩, Chg.refl _, xs, .refl, h.app⟩
    rintro c t H1 ⟨i, rfl, hi1, hi2, t0, t1, t6, t7, t8, t9, bx, ch, ys, sw, o⟩ ih
    have len := sw.len
    simp [t0, t1, t6, t7, t8, t9, e4, e5, e6, e8]
    refine wp_dec ?_ ?_ <;> intro g2
    · have p0 : i < ys.length := by omega
      simp [t0, t1, t6, t7, t8, t9]
      refine wp_thn (xnext_w H.length bx hF) ?_
      rintro _ H2 ⟨⟨z, rfl⟩, c2, bx2⟩
      have o2 := o.chg c2 (fun i hi hh => by simp at hh; subst hh; exact nin hi)
      obtain ⟨k, hk⟩ : ∃ k : Nat, iand .u64 z ((m - 1 : Nat) : Int) = k := ⟨_, (Int.toNat_of_nonneg (iand_leE z (m - 1) (by omega)).1).symm⟩
      have hk2 := (iand_leE z (m - 1) (by omega)).2
      rw [hk] at hk2
      have e10 : ∀ [Inhabited Unit], IntKind.i64.wrap (k : Int) = (k : Int) := by intro _; exact w64 (by omega) (by omega)
      have hk' : ∀ [Inhabited Unit], iand .u64 z ((m - 1 : Nat) : Int) = k := by intro _; exact hk
      clear hk
      simp [t0, t1, t6, t7, t8, t9, e9, hk', e10]
      refine wp_join (F := ?F) (k := ?k) (Q := ?Q) (fun t H' => ∃ d : Nat, d < n ∧ H' = H2 ∧ (t 0 = v ∧ t 3 = cf) ∧ t 1 = .int .i64 a ∧ t 8 = .int .i64 n ∧ t 9 = .pointer (some ⟨H.length, 0, some 0⟩) ∧ t 10 = .int .u64 m ∧ t 11 = .int .i64 i ∧ t 12 = .int .i64 d) ?main ?rest
      case main =>
        intro rest
        refine wp_dec ?_ ?_ <;> intro g3
        · have e11 : ∀ [Inhabited Unit], IntKind.i64.wrap ((k : Int) - n) = ((k - n : Nat) : Int) := by intro _; rw [w64 (by omega) (by omega)]; omega
          simp [t0, t1, t6, t7, t8, t9, e9, hk', e10, e11]
          refine rest _ _ ?_
          exact ⟨k - n, by omega, rfl, by simp [t0], by simp [t1], by simp [t6], by simp [t7], by simp [t8], by simp [t9], by simp⟩
        · simp
          refine rest _ _ ?_
          exact ⟨k, by omega, rfl, by simp [t0], by simp [t1], by simp [t6], by simp [t7], by simp [t8], by simp [t9], by simp⟩
      case rest =>
        rintro t _ ⟨d, hd, rfl, t0, t1, t6, t7, t8, t9, t10⟩
        obtain ⟨j, hj⟩ : ∃ j, j = a + d := ⟨_, rfl⟩
        have e12 : ∀ [Inhabited Unit], IntKind.i64.wrap ((a : Int) + d) = (j : Int) := by intro _; rw [w64 (by omega) (by omega)]; omega
        have p1 : j < ys.length := by omega
        obtain ⟨H3, H4, s1, ix, s2, o4, c4, l4⟩ := dw_swap o2 p0 p1 hf
        rw [go_draw (h := by kernel_rfl)]
        simp [t0, t1, t6, t7, t8, t9, t10, e12, dw_ix o2 p0, dw_ix o2 p1, dw_ld o2 p0, dw_ld o2 p1, s1, ix _ p0, ix _ p1, s2]
        obtain ⟨sx, hsx⟩ := bx2
        have bx4 : BoxX H4 H.length := ⟨sx, box_chg hsx c4 nin⟩
        refine ih (s + 2 - (i + 1)) _ _ ⟨i + 1, rfl, by omega, by omega, by simp [t0], by simp [t1], by simp [t6], by simp [t7], by simp [t8], ?_, bx4, ?_, _, sw.step i j (by omega) (by omega), o4⟩ (by omega)
        · simp; rw [w64 (by omega) (by omega)]
        · exact ch.trans ((c2.mono (by simp)).trans (c4.mono (fun q hq => by simp [hq])))
    · simp
      exact ⟨ys, sw, o, (Chg.app (ids v)).trans' ch (fun q hq => by
        rcases List.mem_cons.1 hq with hq | hq
        · right; simp [hq]
        · exact .inl hq)⟩
  · simp
    exact ⟨xs, .refl, h, Chg.refl _⟩
end Go.Proofs.YtlbbalmeaedbdaaGreat.V
/-! Sorting dependencies (sorte.py, of VS4). -/
set_option linter.all false
namespace Go.Proofs.YtlbbalmeaedbdaaGreat.V
open Go Go.VM Go.Proofs
set_option maxRecDepth 10000
variable {frz : Nat} {H : Heap} {v : Value} {xs : List Int} {e : TypeId} {cf : Value} (hK : CmpK cf)
include hK
theorem partEq_e (v : Value) (xs : List Int) (e : TypeId) (a b p : Nat) (h : OwE e H v xs) (hp : a ≤ p ∧ p < b) (hb : b ≤ xs.length) (hl : xs.length ≤ 1073741824) (hf : ∀ i ∈ ids v, frz ≤ i) :
   wp (vcall C frz 115 [v, .int .i64 a, .int .i64 b, .int .i64 p, cf] H) (fun r H' => ∃ m : Nat, r = .int .i64 m ∧ a < m ∧ m ≤ b ∧
     SwdE H v xs e a b (fun ys => (∀ k, a ≤ k → k < m → ¬ G xs p < G ys k) ∧ ∀ k, m ≤ k → k < b → G xs p < G ys k) H') := by
  rw [vcall_go (fn := Tryz.f115) Tryz.func115 rfl (by kernel_rfl) rfl]
  obtain ⟨x, hx⟩ : ∃ x, x = G xs p := ⟨_, rfl⟩
  obtain ⟨i0, hi0⟩ : ∃ i0, i0 = a + 1 := ⟨_, rfl⟩
  obtain ⟨j0, hj0⟩ : ∃ j0, j0 = b - 1 := ⟨_, rfl⟩
  have e2 : ∀ [Inhabited Unit], IntKind.i64.wrap ((a : Int) + 1) = (i0 : Int) := by intro _; rw [w64 (by omega) (by omega)]; omega
  have e3 : ∀ [Inhabited Unit], IntKind.i64.wrap ((b : Int) - 1) = (j0 : Int) := by intro _; rw [w64 (by omega) (by omega)]; omega
  have p0 : a < xs.length := by omega
  have p1 : p < xs.length := by omega
  simp
  rw [go_draw (h := by kernel_rfl)]
  obtain ⟨H1, H2, s1, ix, s2, o2, c2, l2⟩ := dw_swap h p0 p1 hf
  simp [dw_ix h p0, dw_ix h p1, dw_ld h p0, dw_ld h p1, s1, ix _ p0, ix _ p1, s2, e2, e3]
  have pt0 : Pt (swp xs a p) a b x (fun y => ¬ x < y) i0 j0 := by
    refine ⟨?_, fun k h1 h2 => by omega, fun k h1 h2 => by omega⟩
    rw [G_swp p0 p1, hx]
    split
    · rename_i e; rw [e]
    · rw [if_pos rfl]
  have sw0 : Sw a b xs (swp xs a p) := Sw.refl.step a p (by omega) (by omega)
  refine wp_inv (fun c t H' => ∃ i j : Nat, c = j + 1 - i ∧ (t 0 = v ∧ t 4 = cf) ∧ t 1 = .int .i64 a ∧ t 11 = .int .i64 i ∧ t 12 = .int .i64 j ∧ a < i ∧ i ≤ j + 1 ∧ j < b ∧ SwdE H v xs e a b (fun ys => Pt ys a b x (fun y => ¬ x < y) i j) H') ?_ (n := j0 + 1 - i0)
    ⟨i0, j0, rfl, by simp, by simp, by simp, by simp, by omega, by omega, by omega, _, sw0, pt0, o2, c2, l2⟩
  rw [← hx]
  clear pt0 sw0 o2 s1 s2 ix c2 l2 p0 p1
  rintro c t H' ⟨i, j, rfl, h0, h1, hi, hj, hai, hij, hjb, ys, sw, pt, o, c, l⟩ ih
  have len := sw.len
  have p0 : a < ys.length := by omega
  simp [h0, h1, hi, hj]
  obtain ⟨il, hil⟩ : ∃ il, il = i := ⟨_, rfl⟩
  have hai' : il ≤ i ∧ a < i := ⟨by omega, hai⟩
  refine wp_join (F := ?F1) (k := ?k1) (Q := ?Q1) (fun t H1 => ∃ i : Nat, (t 0 = v ∧ t 4 = cf) ∧ t 1 = .int .i64 a ∧ t 11 = .int .i64 i ∧ t 12 = .int .i64 j ∧ (il ≤ i ∧ a < i) ∧ i ≤ j + 1 ∧ (i = j + 1 ∨ (i ≤ j ∧ ¬ (fun y => ¬ x < y) (G ys i))) ∧ H' = H1 ∧ Pt ys a b x (fun y => ¬ x < y) i j) ?main1 ?rest1
  case main1 =>
    intro rest
    refine wp_inv (fun c t H1 => ∃ i : Nat, c = j + 1 - i ∧ (t 0 = v ∧ t 4 = cf) ∧ t 1 = .int .i64 a ∧ t 11 = .int .i64 i ∧ t 12 = .int .i64 j ∧ (il ≤ i ∧ a < i) ∧ i ≤ j + 1 ∧ H' = H1 ∧ Pt ys a b x (fun y => ¬ x < y) i j) ?_ (n := j + 1 - i)
      ⟨i, rfl, by simp [h0], by simp [h1], by simp [hi], by simp [hj], hai', hij, rfl, pt⟩
    rintro c t _ ⟨i, rfl, h0, h1, hi, hj, hai', hij, rfl, pt⟩ ih2
    have hai := hai'.2
    simp [h0, h1, hi, hj]
    rw [go_draw (h := by kernel_rfl)]
    simp [h0, h1, hi, hj]
    refine wpg_dec ?_ ?_ <;> intro g1
    · have p1 : i < ys.length := by omega
      simp [h0, h1, hi, hj, g1, dw_ix o p0, dw_ix o p1, dw_ld o p0, dw_ld o p1, dlt hK o]
      refine wp_dec ?_ ?_ <;> intro g2
      · simp [h0, h1, hi, hj]
        refine rest _ _ ?_
        exact ⟨i, by simp [h0], by simp [h1], by simp [hi], by simp [hj], hai', by omega, .inr ⟨by omega, by have := pt.1; show ¬ (¬ x < G ys i); omega⟩, rfl, pt⟩
      · simp [h0, h1, hi, hj]
        refine ih2 (j + 1 - (i + 1)) _ _ ⟨i + 1, rfl, by simp [h0], by simp [h1], ?_, by simp [hj], by omega, by omega, rfl, pt.incr hai (by have := pt.1; show ¬ x < G ys i; omega)⟩ (by omega)
        simp; rw [w64 (by omega) (by omega)]
    · simp [h0, h1, hi, hj, g1]
      refine rest _ _ ?_
      exact ⟨i, by simp [h0], by simp [h1], by simp [hi], by simp [hj], hai', hij, .inl (by omega), rfl, pt⟩
  case rest1 =>
    rintro t _ ⟨i, h0, h1, hi, hj, hai', hij, hex, rfl, pt⟩
    have hai := hai'.2
    refine wp_inv (fun c t H1 => ∃ j' : Nat, c = j' + 1 - i ∧ (t 0 = v ∧ t 4 = cf) ∧ t 1 = .int .i64 a ∧ t 11 = .int .i64 i ∧ t 12 = .int .i64 j' ∧ j' ≤ j ∧ i ≤ j' + 1 ∧ H' = H1 ∧ Pt ys a b x (fun y => ¬ x < y) i j') ?_ (n := j + 1 - i)
      ⟨j, rfl, by simp [h0], by simp [h1], by simp [hi], by simp [hj], Nat.le_refl _, hij, rfl, pt⟩
    have hex' : i < j + 1 → ¬ (fun y => ¬ x < y) (G ys i) := fun hh => by rcases hex with hex | hex; omega; exact hex.2
    have hjb0 := hjb
    rintro c t _ ⟨j', rfl, h0, h1, hi, hj, hjj', hij, rfl, pt⟩ ih2
    have hjb : j' < b := by omega
    simp [h0, h1, hi, hj]
    rw [go_draw (h := by kernel_rfl)]
    simp [h0, h1, hi, hj]
    refine wpg_dec ?_ ?_ <;> intro g1
    · have p1 : j' < ys.length := by omega
      simp [h0, h1, hi, hj, g1, dw_ix o p0, dw_ix o p1, dw_ld o p0, dw_ld o p1, dlt hK o]
      refine wp_dec ?_ ?_ <;> intro g2
      · simp [h0, h1, hi, hj]
        refine ih2 (j' - 1 + 1 - i) _ _ ⟨j' - 1, rfl, by simp [h0], by simp [h1], by simp [hi], ?_, by omega, by omega, rfl, pt.decr (by omega) (by have := pt.1; show ¬ (¬ x < G ys j'); omega)⟩ (by omega)
        simp; rw [w64 (by omega) (by omega)]; omega
      · simp [h0, h1, hi, hj]
        have hnj : ¬ j' < i := by omega
        simp [hnj]
        have p2 : i < ys.length := by omega
        have hlo : (fun y => ¬ x < y) (G ys j') := by have := pt.1; show ¬ x < G ys j'; omega
        rw [go_draw (h := by kernel_rfl)]
        obtain ⟨H3, H4, s3, ix3, s4, o4, c4, l4⟩ := dw_swap o p2 p1 hf
        simp [h0, h1, hi, hj, dw_ix o p2, dw_ix o p1, dw_ld o p2, dw_ld o p1, s3, ix3 _ p2, ix3 _ p1, s4]
        have hlt : i < j' := by
          rcases Nat.lt_or_ge i j' with q | q
          · exact q
          · have q2 : i = j' := by omega
            exact absurd (q2 ▸ hlo) (hex' (by omega))
        refine ih (j' - 1 + 1 - (i + 1)) _ _ ⟨i + 1, j' - 1, rfl, by simp [h0], by simp [h1], ?_, ?_, by omega, by omega, by omega, _, sw.step i j' (by omega) (by omega), pt.swap hai hlt hjb (by omega) (hex' (by omega)) hlo, o4, c.trans c4, by omega⟩ (by omega)
        · simp; rw [w64 (by omega) (by omega)]
        · simp; rw [w64 (by omega) (by omega)]; omega
    · have hij' : i = j' + 1 := by omega
      have hji : j' < i := by omega
      simp [h0, h1, hi, hj, g1, hji]
      refine ⟨i, rfl, by omega, by omega, ys, sw, ⟨fun k k1 k2 => ?_, fun k k1 k2 => ?_⟩, o, c, l⟩
      · by_cases hk : k = a
        · have := pt.1; rw [hk]; omega
        · have q : ¬ x < G ys k := pt.2.1 k (by omega) k2
          omega
      · have q : ¬ ¬ x < G ys k := pt.2.2 k (by omega) k2
        omega
theorem part_e (v : Value) (xs : List Int) (e : TypeId) (a b p : Nat) (h : OwE e H v xs) (hp : a ≤ p ∧ p < b) (hb : b ≤ xs.length) (hl : xs.length ≤ 1073741824) (hf : ∀ i ∈ ids v, frz ≤ i) :
   wp (vcall C frz 116 [v, .int .i64 a, .int .i64 b, .int .i64 p, cf] H) (fun r H' => ∃ (m : Nat) (d : Bool), r = .tuple #[.int .i64 m, .bool d] ∧ a ≤ m ∧ m < b ∧
     SwdE H v xs e a b (fun ys => (∀ k, a ≤ k → k < m → G ys k < G ys m) ∧ ∀ k, m < k → k < b → G ys m ≤ G ys k) H') := by
  rw [vcall_go (fn := Tryz.f116) Tryz.func116 rfl (by kernel_rfl) rfl]
  obtain ⟨x, hx⟩ : ∃ x, x = G xs p := ⟨_, rfl⟩
  obtain ⟨i0, hi0⟩ : ∃ i0, i0 = a + 1 := ⟨_, rfl⟩
  obtain ⟨j0, hj0⟩ : ∃ j0, j0 = b - 1 := ⟨_, rfl⟩
  have e2 : ∀ [Inhabited Unit], IntKind.i64.wrap ((a : Int) + 1) = (i0 : Int) := by intro _; rw [w64 (by omega) (by omega)]; omega
  have e3 : ∀ [Inhabited Unit], IntKind.i64.wrap ((b : Int) - 1) = (j0 : Int) := by intro _; rw [w64 (by omega) (by omega)]; omega
  have p0 : a < xs.length := by omega
  have p1 : p < xs.length := by omega
  simp
  rw [go_draw (h := by kernel_rfl)]
  obtain ⟨H1, H2, s1, ix, s2, o2, c2, l2⟩ := dw_swap h p0 p1 hf
  simp [dw_ix h p0, dw_ix h p1, dw_ld h p0, dw_ld h p1, s1, ix _ p0, ix _ p1, s2, e2, e3]
  have pt0 : Pt (swp xs a p) a b x (fun y => y < x) i0 j0 := by
    refine ⟨?_, fun k h1 h2 => by omega, fun k h1 h2 => by omega⟩
    rw [G_swp p0 p1, hx]
    split
    · rename_i e; rw [e]
    · rw [if_pos rfl]
  have sw0 : Sw a b xs (swp xs a p) := Sw.refl.step a p (by omega) (by omega)
  obtain ⟨ys, sw, o, c, l, pt⟩ : ∃ ys, Sw a b xs ys ∧ OwE e H2 v ys ∧ Chg H H2 (ids v) ∧ H2.length = H.length ∧ Pt ys a b x (fun y => y < x) i0 j0 := ⟨_, sw0, o2, c2, l2, pt0⟩
  obtain ⟨i, hii⟩ : ∃ i, i0 = i := ⟨_, rfl⟩
  obtain ⟨j, hjj⟩ : ∃ j, j0 = j := ⟨_, rfl⟩
  rw [hii] at pt ⊢
  rw [hjj] at pt ⊢
  have hai : a < i := by omega
  have hij : i ≤ j + 1 := by omega
  have hjb : j < b := by omega
  clear pt0 sw0 o2 s1 s2 ix c2 l2 p0 p1
  have len := sw.len
  have p0 : a < ys.length := by omega
  refine wp_join (F := ?F) (k := ?k) (Q := ?Q) (fun t H1 => H2 = H1 ∧ (t 0 = v ∧ t 4 = cf) ∧ t 1 = .int .i64 a ∧ t 12 = .int .i64 i ∧ t 13 = .int .i64 j) ?main ?rest
  case main => intro rest; refine rest _ _ ?_; exact ⟨rfl, by simp, by simp, by simp, by simp⟩
  case rest =>
   rintro t H' ⟨rfl, h0, h1, hi, hj⟩
   obtain ⟨H', hH⟩ : ∃ H', H' = H2 := ⟨_, rfl⟩
   subst hH
   obtain ⟨il, hil⟩ : ∃ il, il = i := ⟨_, rfl⟩
   have hai' : il ≤ i ∧ a < i := ⟨by omega, hai⟩
   refine wp_join (F := ?F3) (k := ?k3) (Q := ?Q3) (fun t H1 => ∃ i : Nat, (t 0 = v ∧ t 4 = cf) ∧ t 1 = .int .i64 a ∧ t 12 = .int .i64 i ∧ t 13 = .int .i64 j ∧ (il ≤ i ∧ a < i) ∧ i ≤ j + 1 ∧ (i = j + 1 ∨ (i ≤ j ∧ ¬ (fun y => y < x) (G ys i))) ∧ H' = H1 ∧ Pt ys a b x (fun y => y < x) i j) ?main3 ?rest3
   case main3 =>
     intro rest
     refine wp_inv (fun c t H1 => ∃ i : Nat, c = j + 1 - i ∧ (t 0 = v ∧ t 4 = cf) ∧ t 1 = .int .i64 a ∧ t 12 = .int .i64 i ∧ t 13 = .int .i64 j ∧ (il ≤ i ∧ a < i) ∧ i ≤ j + 1 ∧ H' = H1 ∧ Pt ys a b x (fun y => y < x) i j) ?_ (n := j + 1 - i)
       ⟨i, rfl, by simp [h0], by simp [h1], by simp [hi], by simp [hj], hai', hij, rfl, pt⟩
     rintro c t _ ⟨i, rfl, h0, h1, hi, hj, hai', hij, rfl, pt⟩ ih2
     have hai := hai'.2
     simp [h0, h1, hi, hj]
     rw [go_draw (h := by kernel_rfl)]
     simp [h0, h1, hi, hj]
     refine wpg_dec ?_ ?_ <;> intro g1
     · have p1 : i < ys.length := by omega
       simp [h0, h1, hi, hj, g1, dw_ix o p0, dw_ix o p1, dw_ld o p0, dw_ld o p1, dlt hK o]
       refine wp_dec ?_ ?_ <;> intro g2
       · simp [h0, h1, hi, hj]
         refine ih2 (j + 1 - (i + 1)) _ _ ⟨i + 1, rfl, by simp [h0], by simp [h1], ?_, by simp [hj], by omega, by omega, rfl, pt.incr hai (by have := pt.1; show G ys i < x; omega)⟩ (by omega)
         simp; rw [w64 (by omega) (by omega)]
       · simp [h0, h1, hi, hj]
         refine rest _ _ ?_
         exact ⟨i, by simp [h0], by simp [h1], by simp [hi], by simp [hj], hai', by omega, .inr ⟨by omega, by have := pt.1; show ¬ (G ys i < x); omega⟩, rfl, pt⟩
     · simp [h0, h1, hi, hj, g1]
       refine rest _ _ ?_
       exact ⟨i, by simp [h0], by simp [h1], by simp [hi], by simp [hj], hai', hij, .inl (by omega), rfl, pt⟩
   case rest3 =>
     rintro t _ ⟨i, h0, h1, hi, hj, hai', hij, hex, rfl, pt⟩
     have hai := hai'.2
     refine wp_inv (fun c t H1 => ∃ j' : Nat, c = j' + 1 - i ∧ (t 0 = v ∧ t 4 = cf) ∧ t 1 = .int .i64 a ∧ t 12 = .int .i64 i ∧ t 13 = .int .i64 j' ∧ j' ≤ j ∧ i ≤ j' + 1 ∧ H' = H1 ∧ Pt ys a b x (fun y => y < x) i j') ?_ (n := j + 1 - i)
       ⟨j, rfl, by simp [h0], by simp [h1], by simp [hi], by simp [hj], Nat.le_refl _, hij, rfl, pt⟩
     have hex' : i < j + 1 → ¬ (fun y => y < x) (G ys i) := fun hh => by rcases hex with hex | hex; omega; exact hex.2
     have hjb0 := hjb
     rintro c t _ ⟨j', rfl, h0, h1, hi, hj, hjj', hij, rfl, pt⟩ ih2
     have hjb : j' < b := by omega
     simp [h0, h1, hi, hj]
     rw [go_draw (h := by kernel_rfl)]
     simp [h0, h1, hi, hj]
     refine wpg_dec ?_ ?_ <;> intro g1
     · have p1 : j' < ys.length := by omega
       simp [h0, h1, hi, hj, g1, dw_ix o p0, dw_ix o p1, dw_ld o p0, dw_ld o p1, dlt hK o]
       refine wp_dec ?_ ?_ <;> intro g2
       · simp [h0, h1, hi, hj]
         have hnj : ¬ j' < i := by omega
         simp [hnj]
         have p2 : i < ys.length := by omega
         have hlo : (fun y => y < x) (G ys j') := by have := pt.1; show G ys j' < x; omega
         rw [go_draw (h := by kernel_rfl)]
         obtain ⟨H3, H4, s3, ix3, s4, o4, c4, l4⟩ := dw_swap o p2 p1 hf
         simp [h0, h1, hi, hj, dw_ix o p2, dw_ix o p1, dw_ld o p2, dw_ld o p1, s3, ix3 _ p2, ix3 _ p1, s4]
         have hlt : i < j' := by
           rcases Nat.lt_or_ge i j' with q | q
           · exact q
           · have q2 : i = j' := by omega
             exact absurd (q2 ▸ hlo) (hex' (by omega))
         refine wp_inv (fun c t H' => ∃ i j : Nat, c = j + 1 - i ∧ (t 0 = v ∧ t 4 = cf) ∧ t 1 = .int .i64 a ∧ t 12 = .int .i64 i ∧ t 13 = .int .i64 j ∧ a < i ∧ i ≤ j + 1 ∧ j < b ∧ SwdE H v xs e a b (fun ys => Pt ys a b x (fun y => y < x) i j) H') ?_ (n := j' - 1 + 1 - (i + 1))
           ⟨i + 1, j' - 1, rfl, by simp [h0], by simp [h1], by simp; rw [w64 (by omega) (by omega)], by simp; rw [w64 (by omega) (by omega)]; omega, by omega, by omega, by omega, _, sw.step i j' (by omega) (by omega), pt.swap hai hlt hjb (by omega) (hex' (by omega)) hlo, o4, c.trans c4, by omega⟩
         rintro c t H' ⟨i, j, rfl, h0, h1, hi, hj, hai, hij, hjb, ys, sw, pt, o, c, l⟩ ih
         have len := sw.len
         have p0 : a < ys.length := by omega
         simp [h0, h1, hi, hj]
         obtain ⟨il, hil⟩ : ∃ il, il = i := ⟨_, rfl⟩
         have hai' : il ≤ i ∧ a < i := ⟨by omega, hai⟩
         refine wp_join (F := ?F32) (k := ?k2) (Q := ?Q32) (fun t H1 => ∃ i : Nat, (t 0 = v ∧ t 4 = cf) ∧ t 1 = .int .i64 a ∧ t 12 = .int .i64 i ∧ t 13 = .int .i64 j ∧ (il ≤ i ∧ a < i) ∧ i ≤ j + 1 ∧ (i = j + 1 ∨ (i ≤ j ∧ ¬ (fun y => y < x) (G ys i))) ∧ H' = H1 ∧ Pt ys a b x (fun y => y < x) i j) ?main32 ?rest32
         case main32 =>
           intro rest
           refine wp_inv (fun c t H1 => ∃ i : Nat, c = j + 1 - i ∧ (t 0 = v ∧ t 4 = cf) ∧ t 1 = .int .i64 a ∧ t 12 = .int .i64 i ∧ t 13 = .int .i64 j ∧ (il ≤ i ∧ a < i) ∧ i ≤ j + 1 ∧ H' = H1 ∧ Pt ys a b x (fun y => y < x) i j) ?_ (n := j + 1 - i)
             ⟨i, rfl, by simp [h0], by simp [h1], by simp [hi], by simp [hj], hai', hij, rfl, pt⟩
           rintro c t _ ⟨i, rfl, h0, h1, hi, hj, hai', hij, rfl, pt⟩ ih2
           have hai := hai'.2
           simp [h0, h1, hi, hj]
           rw [go_draw (h := by kernel_rfl)]
           simp [h0, h1, hi, hj]
           refine wpg_dec ?_ ?_ <;> intro g1
           · have p1 : i < ys.length := by omega
             simp [h0, h1, hi, hj, g1, dw_ix o p0, dw_ix o p1, dw_ld o p0, dw_ld o p1, dlt hK o]
             refine wp_dec ?_ ?_ <;> intro g2
             · simp [h0, h1, hi, hj]
               refine ih2 (j + 1 - (i + 1)) _ _ ⟨i + 1, rfl, by simp [h0], by simp [h1], ?_, by simp [hj], by omega, by omega, rfl, pt.incr hai (by have := pt.1; show G ys i < x; omega)⟩ (by omega)
               simp; rw [w64 (by omega) (by omega)]
             · simp [h0, h1, hi, hj]
               refine rest _ _ ?_
               exact ⟨i, by simp [h0], by simp [h1], by simp [hi], by simp [hj], hai', by omega, .inr ⟨by omega, by have := pt.1; show ¬ (G ys i < x); omega⟩, rfl, pt⟩
           · simp [h0, h1, hi, hj, g1]
             refine rest _ _ ?_
             exact ⟨i, by simp [h0], by simp [h1], by simp [hi], by simp [hj], hai', hij, .inl (by omega), rfl, pt⟩
         case rest32 =>
           rintro t _ ⟨i, h0, h1, hi, hj, hai', hij, hex, rfl, pt⟩
           have hai := hai'.2
           refine wp_inv (fun c t H1 => ∃ j' : Nat, c = j' + 1 - i ∧ (t 0 = v ∧ t 4 = cf) ∧ t 1 = .int .i64 a ∧ t 12 = .int .i64 i ∧ t 13 = .int .i64 j' ∧ j' ≤ j ∧ i ≤ j' + 1 ∧ H' = H1 ∧ Pt ys a b x (fun y => y < x) i j') ?_ (n := j + 1 - i)
             ⟨j, rfl, by simp [h0], by simp [h1], by simp [hi], by simp [hj], Nat.le_refl _, hij, rfl, pt⟩
           have hex' : i < j + 1 → ¬ (fun y => y < x) (G ys i) := fun hh => by rcases hex with hex | hex; omega; exact hex.2
           have hjb0 := hjb
           rintro c t _ ⟨j', rfl, h0, h1, hi, hj, hjj', hij, rfl, pt⟩ ih2
           have hjb : j' < b := by omega
           simp [h0, h1, hi, hj]
           rw [go_draw (h := by kernel_rfl)]
           simp [h0, h1, hi, hj]
           refine wpg_dec ?_ ?_ <;> intro g1
           · have p1 : j' < ys.length := by omega
             simp [h0, h1, hi, hj, g1, dw_ix o p0, dw_ix o p1, dw_ld o p0, dw_ld o p1, dlt hK o]
             refine wp_dec ?_ ?_ <;> intro g2
             · simp [h0, h1, hi, hj]
               have hnj : ¬ j' < i := by omega
               simp [hnj]
               have p2 : i < ys.length := by omega
               have hlo : (fun y => y < x) (G ys j') := by have := pt.1; show G ys j' < x; omega
               rw [go_draw (h := by kernel_rfl)]
               obtain ⟨H3, H4, s3, ix3, s4, o4, c4, l4⟩ := dw_swap o p2 p1 hf
               simp [h0, h1, hi, hj, dw_ix o p2, dw_ix o p1, dw_ld o p2, dw_ld o p1, s3, ix3 _ p2, ix3 _ p1, s4]
               have hlt : i < j' := by
                 rcases Nat.lt_or_ge i j' with q | q
                 · exact q
                 · have q2 : i = j' := by omega
                   exact absurd (q2 ▸ hlo) (hex' (by omega))
               refine ih (j' - 1 + 1 - (i + 1)) _ _ ⟨i + 1, j' - 1, rfl, by simp [h0], by simp [h1], ?_, ?_, by omega, by omega, by omega, _, sw.step i j' (by omega) (by omega), pt.swap hai hlt hjb (by omega) (hex' (by omega)) hlo, o4, c.trans c4, by omega⟩ (by omega)
               · simp; rw [w64 (by omega) (by omega)]
               · simp; rw [w64 (by omega) (by omega)]; omega
             · simp [h0, h1, hi, hj]
               refine ih2 (j' - 1 + 1 - i) _ _ ⟨j' - 1, rfl, by simp [h0], by simp [h1], by simp [hi], ?_, by omega, by omega, rfl, pt.decr (by omega) (by have := pt.1; show ¬ (G ys j' < x); omega)⟩ (by omega)
               simp; rw [w64 (by omega) (by omega)]; omega
           · have hij' : i = j' + 1 := by omega
             have hji : j' < i := by omega
             simp [h0, h1, hi, hj, g1, hji]
             have p3 : j' < ys.length := by omega
             rw [go_draw (h := by kernel_rfl)]
             obtain ⟨H3, H4, s3, ix3, s4, o4, c4, l4⟩ := dw_swap o p3 p0 hf
             simp [h0, h1, hi, hj, dw_ix o p3, dw_ix o p0, dw_ld o p3, dw_ld o p0, s3, ix3 _ p3, ix3 _ p0, s4]
             obtain ⟨f1, f2, f3⟩ := pt.fin hij' hai hjb (by omega)
             exact ⟨j', rfl, by omega, by omega, _, sw.step j' a (by omega) (by omega), ⟨fun k k1 k2 => by have := f2 k k1 k2; rw [f1]; exact this, fun k k1 k2 => by have := f3 k k1 k2; rw [f1]; omega⟩, o4, c.trans c4, by omega⟩
       · simp [h0, h1, hi, hj]
         refine ih2 (j' - 1 + 1 - i) _ _ ⟨j' - 1, rfl, by simp [h0], by simp [h1], by simp [hi], ?_, by omega, by omega, rfl, pt.decr (by omega) (by have := pt.1; show ¬ (G ys j' < x); omega)⟩ (by omega)
         simp; rw [w64 (by omega) (by omega)]; omega
     · have hij' : i = j' + 1 := by omega
       have hji : j' < i := by omega
       simp [h0, h1, hi, hj, g1, hji]
       have p3 : j' < ys.length := by omega
       rw [go_draw (h := by kernel_rfl)]
       obtain ⟨H3, H4, s3, ix3, s4, o4, c4, l4⟩ := dw_swap o p3 p0 hf
       simp [h0, h1, hi, hj, dw_ix o p3, dw_ix o p0, dw_ld o p3, dw_ld o p0, s3, ix3 _ p3, ix3 _ p0, s4]
       obtain ⟨f1, f2, f3⟩ := pt.fin hij' hai hjb (by omega)
       exact ⟨j', rfl, by omega, by omega, _, sw.step j' a (by omega) (by omega), ⟨fun k k1 k2 => by have := f2 k k1 k2; rw [f1]; exact this, fun k k1 k2 => by have := f3 k k1 k2; rw [f1]; omega⟩, o4, c.trans c4, by omega⟩
end Go.Proofs.YtlbbalmeaedbdaaGreat.V
/-! Sorting dependencies (sorte.py, of VS5). -/
set_option linter.all false
namespace Go.Proofs.YtlbbalmeaedbdaaGreat.V
open Go Go.VM Go.Proofs
set_option maxRecDepth 10000
variable {frz : Nat} {H : Heap} {v : Value} {xs : List Int} {e : TypeId} {cf : Value} (hK : CmpK cf)
include hK
theorem partIns_e (v : Value) (xs : List Int) (e : TypeId) (a b : Nat) (h : OwE e H v xs) (hab : a < b) (hb : b ≤ xs.length) (hl : xs.length ≤ 1073741824) (hlo : 0 < a → ∀ k, a ≤ k → k < b → G xs (a - 1) ≤ G xs k) (hf : ∀ i ∈ ids v, frz ≤ i) :
   wp (vcall C frz 114 [v, .int .i64 a, .int .i64 b, cf] H) (fun r H' => ∃ d : Bool, r = .bool d ∧ SwdE H v xs e a b (fun ys => d = true → Srt ys a b) H') := by
  rw [vcall_go (fn := Tryz.f114) Tryz.func114 rfl (by kernel_rfl) rfl]
  obtain ⟨i0, hi0⟩ : ∃ i0, i0 = a + 1 := ⟨_, rfl⟩
  have e2 : ∀ [Inhabited Unit], IntKind.i64.wrap ((a : Int) + 1) = (i0 : Int) := by intro _; rw [w64 (by omega) (by omega)]; omega
  simp [e2]
  refine wp_inv (fun c t H' => ∃ i s : Nat, c = 5 - s ∧ s ≤ 5 ∧ (t 0 = v ∧ t 3 = cf) ∧ t 1 = .int .i64 a ∧ t 2 = .int .i64 b ∧ t 9 = .int .i64 i ∧ t 10 = .int .i64 s ∧ a < i ∧ i ≤ b ∧ SwdE H v xs e a b (fun ys => Srt ys a i) H') ?_ (n := 5)
    ⟨i0, 0, rfl, by omega, by simp, by simp, by simp, by simp, by simp, by omega, by omega, xs, .refl, Srt.short (by omega), h, Chg.refl _, rfl⟩
  rintro c t H' ⟨i, s, rfl, hs, h0, h1, h2, h7, h8, hai, hib, ys, sw, sr, o, c, l⟩ ih
  have len := sw.len
  simp [h0, h1, h2, h7, h8]
  refine wp_dec ?_ ?_ <;> intro g0
  · simp [h0, h1, h2, h7, h8]
    refine wp_joinb (F := ?F) (k1 := ?k1) (k2 := ?k2) (Q := ?Q) (fun c t H1 => ∃ i : Nat, c = .bool (decide ((i : Int) = b)) ∧ H' = H1 ∧ (t 0 = v ∧ t 3 = cf) ∧ t 1 = .int .i64 a ∧ t 2 = .int .i64 b ∧ t 9 = .int .i64 i ∧ t 10 = .int .i64 s ∧ a < i ∧ i ≤ b ∧ Srt ys a i) ?main ?rest
    case main =>
      intro rest
      refine wp_inv (fun c t H1 => ∃ i : Nat, c = b - i ∧ H' = H1 ∧ (t 0 = v ∧ t 3 = cf) ∧ t 1 = .int .i64 a ∧ t 2 = .int .i64 b ∧ t 9 = .int .i64 i ∧ t 10 = .int .i64 s ∧ a < i ∧ i ≤ b ∧ Srt ys a i) ?_ (n := b - i)
        ⟨i, rfl, rfl, by simp [h0], by simp [h1], by simp [h2], by simp [h7], by simp [h8], hai, hib, sr⟩
      rintro c t _ ⟨i, rfl, rfl, h0, h1, h2, h7, h8, hai, hib, sr⟩ ih2
      have e3 : ∀ [Inhabited Unit], IntKind.i64.wrap ((i : Int) - 1) = ((i - 1 : Nat) : Int) := by intro _; rw [w64 (by omega) (by omega)]; omega
      simp [h0, h1, h2, h7, h8]
      rw [go_draw (h := by kernel_rfl)]
      simp [h0, h1, h2, h7, h8]
      refine wpg_dec ?_ ?_ <;> intro g1
      · have p1 : i < ys.length := by omega
        have p2 : i - 1 < ys.length := by omega
        simp [h0, h1, h2, h7, h8, g1, e3, dw_ix o p1, dw_ix o p2, dw_ld o p1, dw_ld o p2, dlt hK o]
        refine wp_dec ?_ ?_ <;> intro g2
        · simp [h0, h1, h2, h7, h8]
          refine rest _ _ _ ?_
          exact ⟨i, rfl, rfl, by simp [h0], by simp [h1], by simp [h2], by simp [h7], by simp [h8], hai, hib, sr⟩
        · simp [h0, h1, h2, h7, h8]
          refine ih2 (b - (i + 1)) _ _ ⟨i + 1, rfl, rfl, by simp [h0], by simp [h1], by simp [h2], ?_, by simp [h8], by omega, by omega, sr.snoc (fun _ => by omega)⟩ (by omega)
          simp; rw [w64 (by omega) (by omega)]
      · simp [h0, h1, h2, h7, h8, g1]
        refine rest _ _ _ ?_
        exact ⟨i, rfl, rfl, by simp [h0], by simp [h1], by simp [h2], by simp [h7], by simp [h8], hai, hib, sr⟩
    case rest =>
      rintro _ t _ ⟨i, rfl, rfl, h0, h1, h2, h7, h8, hai, hib, sr⟩
      obtain ⟨n, hn⟩ : ∃ n, n = b - a := ⟨_, rfl⟩
      obtain ⟨m, hm⟩ : ∃ m, m = i - a := ⟨_, rfl⟩
      obtain ⟨r, hr⟩ : ∃ r, r = b - i := ⟨_, rfl⟩
      have e4 : ∀ [Inhabited Unit], IntKind.i64.wrap ((b : Int) - a) = (n : Int) := by intro _; rw [w64 (by omega) (by omega)]; omega
      have e5 : ∀ [Inhabited Unit], IntKind.i64.wrap ((i : Int) - a) = (m : Int) := by intro _; rw [w64 (by omega) (by omega)]; omega
      have e6 : ∀ [Inhabited Unit], IntKind.i64.wrap ((b : Int) - i) = (r : Int) := by intro _; rw [w64 (by omega) (by omega)]; omega
      have e3 : ∀ [Inhabited Unit], IntKind.i64.wrap ((i : Int) - 1) = ((i - 1 : Nat) : Int) := by intro _; rw [w64 (by omega) (by omega)]; omega
      refine wp_dec ?_ ?_ <;> intro g1
      · simp
        have hib : i = b := by omega
        exact ⟨ys, sw, hib ▸ sr, o, c, l⟩
      · simp [h0, h1, h2, h7, h8, e4]
        refine wp_dec ?_ ?_ <;> intro g2
        · simp
          exact ⟨ys, sw, trivial, o, c, l⟩
        · have p1 : i < ys.length := by omega
          have p2 : i - 1 < ys.length := by omega
          simp [h0, h1, h2, h7, h8]
          rw [go_draw (h := by kernel_rfl)]
          obtain ⟨H3, H4, s3, ix3, s4, o4, c4, l4⟩ := dw_swap o p1 p2 hf
          simp [h0, h1, h2, h7, h8, e3, e5, dw_ix o p1, dw_ix o p2, dw_ld o p1, dw_ld o p2, s3, ix3 _ p1, ix3 _ p2, s4]
          have sw4 := sw.step i (i - 1) (by omega) (by omega)
          have sr4 : Srt (swp ys i (i - 1)) a (i - 1) := Srt.frame (fun p q q1 q2 q3 => sr p q q1 q2 (by omega)) (fun k k1 k2 => by rw [G_swp p1 p2, if_neg (by omega), if_neg (by omega)])
          have c5 := c.trans c4
          have l5 : H4.length = H.length := by omega
          generalize swp ys i (i - 1) = zs at *
          refine wp_joinb (F := ?F2) (k1 := ?k12) (k2 := ?k22) (Q := ?Q2) (fun c t H1 => c = .bool (decide (2 ≤ (r : Int))) ∧ (t 0 = v ∧ t 3 = cf) ∧ t 1 = .int .i64 a ∧ t 2 = .int .i64 b ∧ t 9 = .int .i64 i ∧ t 10 = .int .i64 s ∧ SwdE H v xs e a b (fun ys => Srt ys a i) H1) ?main2 ?rest2
          case main2 =>
            intro rest2
            refine wp_dec ?_ ?_ <;> intro g3
            · simp [h0, h1, h2, h7, h8, e3]
              refine wp_inv (fun c t H1 => ∃ j : Nat, c = j ∧ (t 0 = v ∧ t 3 = cf) ∧ t 1 = .int .i64 a ∧ t 2 = .int .i64 b ∧ t 9 = .int .i64 i ∧ t 10 = .int .i64 s ∧ t 11 = .int .i64 j ∧ a ≤ j ∧ j ≤ i - 1 ∧ SwdE H v xs e a b (fun ys => Ins ys a (i - 1) j) H1) ?_ (n := i - 1)
                ⟨i - 1, rfl, by simp [h0], by simp [h1], by simp [h2], by simp [h7], by simp [h8], by simp, by omega, by omega, zs, sw4, Ins.start sr4, o4, c5, l5⟩
              rintro j t H1 ⟨_, rfl, h0, h1, h2, h7, h8, h9, haj, hji, ws, sw, ins, o, c, l⟩ ih2
              have len := sw.len
              have e7 : ∀ [Inhabited Unit], IntKind.i64.wrap ((j : Int) - 1) = ((j - 1 : Nat) : Int) ∨ j = 0 := by
                intro _
                by_cases hj : j = 0
                · exact .inr hj
                · left; rw [w64 (by omega) (by omega)]; omega
              simp [h0, h1, h2, h7, h8, h9]
              refine wp_dec ?_ ?_ <;> intro g4
              · have e7 : ∀ [Inhabited Unit], IntKind.i64.wrap ((j : Int) - 1) = ((j - 1 : Nat) : Int) := by intro _; rw [w64 (by omega) (by omega)]; omega
                have p3 : j < ws.length := by omega
                have p4 : j - 1 < ws.length := by omega
                simp [h0, h1, h2, h7, h8, h9]
                rw [go_draw (h := by kernel_rfl)]
                simp [h0, h1, h2, h7, h8, h9, e7, dw_ix o p3, dw_ix o p4, dw_ld o p3, dw_ld o p4, dlt hK o]
                have low : j = a → G ws (j - 1) ≤ G ws j := by
                  intro hja
                  have := sw.all hb (p := fun y => G xs (a - 1) ≤ y) (fun k k1 k2 => hlo (by omega) k k1 k2) j haj (by omega)
                  rw [hja] at this ⊢
                  rw [sw.out hb (k := a - 1) (by omega)]; exact this
                refine wp_dec ?_ ?_ <;> intro g5
                · have haj2 : a < j := by
                    rcases Nat.lt_or_ge a j with q | q
                    · exact q
                    · have := low (by omega); omega
                  simp [h0, h1, h2, h7, h8, h9]
                  rw [go_draw (h := by kernel_rfl)]
                  obtain ⟨H5, H6, s5, ix5, s6, o6, c6, l6⟩ := dw_swap o p3 p4 hf
                  simp [h0, h1, h2, h7, h8, h9, e7, dw_ix o p3, dw_ix o p4, dw_ld o p3, dw_ld o p4, s5, ix5 _ p3, ix5 _ p4, s6]
                  refine ih2 (j - 1) _ _ ⟨j - 1, rfl, by simp [h0], by simp [h1], by simp [h2], by simp [h7], by simp [h8], by simp [e7], by omega, by omega, _, sw.step j (j - 1) (by omega) (by omega), ins.step (by omega) haj2 hji g5, o6, c.trans c6, by omega⟩ (by omega)
                · have sr6 : Srt ws a (i - 1 + 1) := ins.done (by
                    rcases Nat.lt_or_ge a j with q | q
                    · exact .inr ⟨q, by omega⟩
                    · exact .inl (by omega))
                  rw [show i - 1 + 1 = i by omega] at sr6
                  simp [h0, h1, h2, h7, h8, h9, e6]
                  refine rest2 _ _ _ ?_
                  exact ⟨rfl, by simp [h0], by simp [h1], by simp [h2], by simp [h7], by simp [h8], ws, sw, sr6, o, c, l⟩
              · have sr6 : Srt ws a (i - 1 + 1) := ins.done (.inl (by omega))
                rw [show i - 1 + 1 = i by omega] at sr6
                simp [h0, h1, h2, h7, h8, h9, e6]
                refine rest2 _ _ _ ?_
                exact ⟨rfl, by simp [h0], by simp [h1], by simp [h2], by simp [h7], by simp [h8], ws, sw, sr6, o, c, l⟩
            · simp [h0, h1, h2, h7, h8, e6]
              refine rest2 _ _ _ ?_
              exact ⟨rfl, by simp [h0], by simp [h1], by simp [h2], by simp [h7], by simp [h8], zs, sw4, Srt.short (by omega), o4, c5, l5⟩
          case rest2 =>
            clear sw4 sr4 o4 c5 l5 s3 s4 ix3 c4 p1 p2
            rintro _ t H1 ⟨rfl, h0, h1, h2, h7, h8, ws, sw, sr, o, c, l⟩
            have fin : ∀ (t : Env) (H1 : Heap), (t 0 = v ∧ t 3 = cf) → t 1 = .int .i64 a → t 2 = .int .i64 b → t 9 = .int .i64 i → t 10 = .int .i64 (IntKind.i64.wrap ((s : Int) + 1)) → SwdE H v xs e a b (fun ys => Srt ys a i) H1 →
                ∃ i s' : Nat, 5 - (s + 1) = 5 - s' ∧ s' ≤ 5 ∧ (t 0 = v ∧ t 3 = cf) ∧ t 1 = .int .i64 a ∧ t 2 = .int .i64 b ∧ t 9 = .int .i64 i ∧ t 10 = .int .i64 s' ∧ a < i ∧ i ≤ b ∧ SwdE H v xs e a b (fun ys => Srt ys a i) H1 :=
              fun t H1 g0 g1 g2 g7 g8 gs => ⟨i, s + 1, rfl, by omega, g0, g1, g2, g7, by rw [g8, w64 (by omega) (by omega)]; simp, hai, hib, gs⟩
            refine wp_dec ?_ ?_ <;> intro g3
            · have e8 : ∀ [Inhabited Unit], IntKind.i64.wrap ((i : Int) + 1) = ((i + 1 : Nat) : Int) := by intro _; rw [w64 (by omega) (by omega)]; omega
              obtain ⟨j0, hj0⟩ : ∃ j0, j0 = i + 1 := ⟨_, rfl⟩
              rw [← hj0] at e8
              simp [h0, h1, h2, h7, h8, e8]
              refine wp_inv (fun c t H1 => ∃ j : Nat, c = b - j ∧ (t 0 = v ∧ t 3 = cf) ∧ t 1 = .int .i64 a ∧ t 2 = .int .i64 b ∧ t 9 = .int .i64 i ∧ t 10 = .int .i64 s ∧ t 12 = .int .i64 j ∧ i < j ∧ j ≤ b ∧ SwdE H v xs e a b (fun ys => Srt ys a i) H1) ?_ (n := b - j0)
                ⟨j0, rfl, by simp [h0], by simp [h1], by simp [h2], by simp [h7], by simp [h8], by simp, by omega, by omega, ws, sw, sr, o, c, l⟩
              rintro _ t H1 ⟨j, rfl, h0, h1, h2, h7, h8, h10, hij, hjb, ws, sw, sr, o, c, l⟩ ih2
              have len := sw.len
              simp [h0, h1, h2, h7, h8, h10]
              refine wp_dec ?_ ?_ <;> intro g4
              · have e7 : ∀ [Inhabited Unit], IntKind.i64.wrap ((j : Int) - 1) = ((j - 1 : Nat) : Int) := by intro _; rw [w64 (by omega) (by omega)]; omega
                have p3 : j < ws.length := by omega
                have p4 : j - 1 < ws.length := by omega
                simp [h0, h1, h2, h7, h8, h10]
                rw [go_draw (h := by kernel_rfl)]
                simp [h0, h1, h2, h7, h8, h10, e7, dw_ix o p3, dw_ix o p4, dw_ld o p3, dw_ld o p4, dlt hK o]
                refine wp_dec ?_ ?_ <;> intro g5
                · simp [h0, h1, h2, h7, h8, h10]
                  rw [go_draw (h := by kernel_rfl)]
                  obtain ⟨H5, H6, s5, ix5, s6, o6, c6, l6⟩ := dw_swap o p3 p4 hf
                  simp [h0, h1, h2, h7, h8, h10, e7, dw_ix o p3, dw_ix o p4, dw_ld o p3, dw_ld o p4, s5, ix5 _ p3, ix5 _ p4, s6]
                  refine ih2 (b - (j + 1)) _ _ ⟨j + 1, rfl, by simp [h0], by simp [h1], by simp [h2], by simp [h7], by simp [h8], ?_, by omega, by omega, _, sw.step j (j - 1) (by omega) (by omega), Srt.frame sr (fun k k1 k2 => by rw [G_swp p3 p4, if_neg (by omega), if_neg (by omega)]), o6, c.trans c6, by omega⟩ (by omega)
                  simp; rw [w64 (by omega) (by omega)]
                · simp [h0, h1, h2, h7, h8, h10]
                  refine ih (5 - (s + 1)) _ _ (fin _ _ ?_ ?_ ?_ ?_ ?_ ⟨ws, sw, sr, o, c, l⟩) (by omega) <;> simp [h0, h1, h2, h7, h8]
              · simp [h0, h1, h2, h7, h8, h10]
                refine ih (5 - (s + 1)) _ _ (fin _ _ ?_ ?_ ?_ ?_ ?_ ⟨ws, sw, sr, o, c, l⟩) (by omega) <;> simp [h0, h1, h2, h7, h8]
            · simp [h0, h1, h2, h7, h8]
              refine ih (5 - (s + 1)) _ _ (fin _ _ ?_ ?_ ?_ ?_ ?_ ⟨ws, sw, sr, o, c, l⟩) (by omega) <;> simp [h0, h1, h2, h7, h8]
  · simp
    exact ⟨ys, sw, trivial, o, c, l⟩
end Go.Proofs.YtlbbalmeaedbdaaGreat.V
/-! Sorting dependencies (sorte.py, of VS6). -/
set_option linter.all false
namespace Go.Proofs.YtlbbalmeaedbdaaGreat.V
open Go Go.VM Go.Proofs
set_option maxRecDepth 10000
variable {frz : Nat} {H : Heap} {v : Value} {xs : List Int} {e : TypeId} {cf : Value} (hK : CmpK cf)
include hK
theorem pdq_e : ∀ (n : Nat) (H : Heap) (v : Value) (xs : List Int) (e : TypeId) (A B : Nat) (L : Int) (h : OwE e H v xs) (hn : B - A ≤ n) (hab : A ≤ B) (hb : B ≤ xs.length) (hl : xs.length ≤ 1073741824)
    (hlo : 0 < A → ∀ k, A ≤ k → k < B → G xs (A - 1) ≤ G xs k) (hf : ∀ i ∈ ids v, frz ≤ i) (hF : frz ≤ H.length),
   wp (vcall C frz 105 [v, .int .i64 A, .int .i64 B, .int .i64 L, cf] H) (fun _ H' => ∃ ys, Sw A B xs ys ∧ Srt ys A B ∧ OwE e H' v ys ∧ Chg H H' (ids v)) := by
  intro n
  induction n using Nat.strongRecOn with
  | _ n IH =>
  intro H v xs e A B L h hn hab hb hl hlo hf hF
  rw [vcall_go (fn := Tryz.f105) Tryz.func105 rfl (by kernel_rfl) rfl]
  simp
  refine wp_inv (fun c t H' => ∃ (a b : Nat) (L : Int) (w1 w2 : Bool), c = b - a ∧ (t 0 = v ∧ t 4 = cf) ∧ t 1 = .int .i64 a ∧ t 2 = .int .i64 b ∧ t 3 = .int .i64 L ∧ t 10 = .bool w1 ∧ t 11 = .bool w2 ∧
      ∃ ys, Sw A B xs ys ∧ Pq ys A B a b ∧ OwE e H' v ys ∧ Chg H H' (ids v)) ?_ (n := B - A)
    ⟨A, B, L, true, true, rfl, by simp, by simp, by simp, by simp, by simp, by simp, xs, .refl, ⟨by omega, Srt.short (by omega), Srt.short (by omega), fun p q h1 h2 h3 h4 => by omega, fun p q h1 h2 h3 h4 => by omega, hlo⟩, h, Chg.refl _⟩
  rintro c t H' ⟨a, b, L, w1, w2, rfl, h0, h1, h2, h3, h8, h9, ys, sw, pq, o, c⟩ ih
  have len := sw.len
  obtain ⟨l1, l2, l3⟩ := pq.le
  obtain ⟨n1, hn1⟩ : ∃ n1, n1 = b - a := ⟨_, rfl⟩
  have e1 : ∀ [Inhabited Unit], IntKind.i64.wrap ((b : Int) - a) = (n1 : Int) := by intro _; rw [w64 (by omega) (by omega)]; omega
  simp [h0, h1, h2, h3, h8, h9, e1]
  refine wp_dec ?_ ?_ <;> intro g1
  · simp [h0, h1, h2, h3, h8, h9]
    refine wp_thn (insSort_e hK v ys e a b o l2 (by omega) (by omega) hf) ?_
    rintro _ H1 ⟨zs, sw1, sr1, o1, c1, k1⟩
    simp
    exact ⟨zs, sw.trans (sw1.mono l1 l3), (pq.sw sw1 (by omega)).done sr1, o1, c.trans c1⟩
  · simp [h0, h1, h2, h3, h8, h9]
    refine wp_dec ?_ ?_ <;> intro g2
    · simp [h0, h1, h2, h3, h8, h9]
      refine wp_thn (heapSort_e hK v ys e a b o (by omega) (by omega) (by omega) hf) ?_
      rintro _ H1 ⟨zs, sw1, sr1, o1, c1, k1⟩
      simp
      exact ⟨zs, sw.trans (sw1.mono l1 l3), (pq.sw sw1 (by omega)).done sr1, o1, c.trans c1⟩
    · simp [h0, h1, h2, h3, h8, h9]
      refine wp_joinc (F := ?F1) (k := ?k1) (d := ?d1) (Q := ?Q1) (fun r t => ∃ (L : Int) (zs : List Int) (H1 : Heap), r = vcall C frz 112 [v, .int .i64 a, .int .i64 b, cf] H1 ∧ (t 0 = v ∧ t 4 = cf) ∧ t 1 = .int .i64 a ∧ t 2 = .int .i64 b ∧ t 3 = .int .i64 L ∧ t 12 = .int .i64 n1 ∧ t 10 = .bool w1 ∧ t 11 = .bool w2 ∧
        Sw A B xs zs ∧ Pq zs A B a b ∧ OwE e H1 v zs ∧ Chg H H1 (ids v)) ?main1 ?rest1
      case main1 =>
        intro rest
        have h10 := True.intro
        refine wp_bool ?_ ?_ <;> intro g3
        · simp [h0, h1, h2, h3, h8, h9]
          refine rest _ _ ?_
          exact ⟨L, ys, H', rfl, by simp [h0], by simp [h1], by simp [h2], by simp [h3], by simp [h10], by simp [h8], by simp [h9], sw, pq, o, c⟩
        · simp [h0, h1, h2, h3, h8, h9]
          refine wp_thn (breakPat_e hK v ys e a b o l2 (by omega) (by omega) hf (by have := c.1; omega)) ?_
          rintro _ H1 ⟨zs, sw1, o1, c1⟩
          simp [h0, h1, h2, h3, h8, h9]
          refine rest _ _ ?_
          exact ⟨IntKind.i64.wrap (L - 1), zs, H1, rfl, by simp [h0], by simp [h1], by simp [h2], by simp, by simp, by simp [h8], by simp [h9], sw.trans (sw1.mono l1 l3), pq.sw sw1 (by omega), o1, c.trans c1⟩
      case rest1 =>
        clear h0 h1 h2 h3 h8 h9 sw pq o c len
        rintro _ t ⟨L, ys, H', rfl, h0, h1, h2, h3, h10, h8, h9, sw, pq, o, c⟩
        have len := sw.len
        refine wp_thn (choosePivot_e hK v ys e a b o (by omega) (by omega) (by omega) (by have := c.1; omega)) ?_
        rintro _ H1 ⟨⟨p, k, rfl, hp1, hp2⟩, c1⟩
        have o1 := o.chg c1 (by simp)
        have cH1 := c.trans (c1.mono (by simp))
        simp [h0, h1, h2, h3, h8, h9]
        refine wp_joing (F := ?F2) (k := ?k2) (d := ?d2) (want := ?w2) (op := ?op2) (Q := ?Q2) (fun c t H1 => c = .bool w1 ∧ ∃ (p : Nat) (k : Int) (zs : List Int), (a ≤ p ∧ p < b) ∧ (t 0 = v ∧ t 4 = cf) ∧ t 1 = .int .i64 a ∧ t 2 = .int .i64 b ∧ t 3 = .int .i64 L ∧ t 12 = .int .i64 n1 ∧ t 10 = .bool w1 ∧ t 11 = .bool w2 ∧ t 13 = .int .i64 p ∧ t 14 = .int .i64 k ∧ t 69 = .bool w1 ∧
          Sw A B xs zs ∧ Pq zs A B a b ∧ OwE e H1 v zs ∧ Chg H H1 (ids v)) ?main2 ?rest2
        case main2 =>
          intro rest
          refine wp_dec ?_ ?_ <;> intro g3
          · simp [h0, h1, h2, h3, h8, h9]
            refine wp_thn (revRange_e hK v ys e a b o1 (by omega) (by omega) (by omega) hf) ?_
            rintro _ H2 ⟨zs, sw1, _, o2, c2, k2⟩
            obtain ⟨b1, hb1⟩ : ∃ b1, b1 = b - 1 := ⟨_, rfl⟩
            obtain ⟨p1, hp3⟩ : ∃ p1, p1 = p - a := ⟨_, rfl⟩
            obtain ⟨p2, hp4⟩ : ∃ p2, p2 = b1 - p1 := ⟨_, rfl⟩
            have e2 : ∀ [Inhabited Unit], IntKind.i64.wrap ((b : Int) - 1) = (b1 : Int) := by intro _; rw [w64 (by omega) (by omega)]; omega
            have e3 : ∀ [Inhabited Unit], IntKind.i64.wrap ((p : Int) - a) = (p1 : Int) := by intro _; rw [w64 (by omega) (by omega)]; omega
            have e4 : ∀ [Inhabited Unit], IntKind.i64.wrap ((b1 : Int) - p1) = (p2 : Int) := by intro _; rw [w64 (by omega) (by omega)]; omega
            simp [h0, h1, h2, h3, h8, h9, e2, e3, e4]
            refine rest _ _ _ ?_
            exact ⟨rfl, p2, 1, zs, by omega, by simp [h0], by simp [h1], by simp [h2], by simp [h3], by simp [h10], by simp [h8], by simp [h9], by simp, by simp, by simp, sw.trans (sw1.mono l1 l3), pq.sw sw1 (by omega), o2, cH1.trans c2⟩
          · simp [h0, h1, h2, h3, h8, h9]
            refine rest _ _ _ ?_
            exact ⟨rfl, p, k, ys, by omega, by simp [h0], by simp [h1], by simp [h2], by simp [h3], by simp [h10], by simp [h8], by simp [h9], by simp, by simp, by simp, sw, pq, o1, cH1⟩
        case rest2 =>
          clear h0 h1 h2 h3 h8 h9 sw pq o c len o1 c1 cH1 hp1 hp2
          rintro _ t H1 ⟨rfl, p, k, ys, hp, h0, h1, h2, h3, h10, h8, h9, h11, h12, h62, sw, pq, o, c⟩
          have len := sw.len
          refine wp_join (F := ?F3) (k := ?k3) (Q := ?Q3) (fun t H1 => ∃ (zs : List Int), (t 0 = v ∧ t 4 = cf) ∧ t 1 = .int .i64 a ∧ t 2 = .int .i64 b ∧ t 3 = .int .i64 L ∧ t 12 = .int .i64 n1 ∧ t 10 = .bool w1 ∧ t 11 = .bool w2 ∧ t 13 = .int .i64 p ∧
            Sw A B xs zs ∧ Pq zs A B a b ∧ OwE e H1 v zs ∧ Chg H H1 (ids v)) ?main3 ?rest3
          case main3 =>
            intro rest
            refine wpg_bool ?_ ?_ <;> intro g3
            · simp [h0, h1, h2, h3, h8, h9, h11, h12, h62, g3]
              refine wpg_bool ?_ ?_ <;> intro g4
              · simp [h0, h1, h2, h3, h8, h9, h11, h12, h62, g3, g4]
                refine wp_dec ?_ ?_ <;> intro g5
                · simp [h0, h1, h2, h3, h8, h9, h11, h12]
                  refine wp_thn (partIns_e hK v ys e a b o (by omega) (by omega) (by omega) (fun h0 k k1 k2 => pq.below h0 k k1 (by omega)) hf) ?_
                  rintro _ H2 ⟨d, rfl, zs, sw1, sr1, o2, c2, k2⟩
                  simp
                  refine wp_bool ?_ ?_ <;> intro g6
                  · simp
                    exact ⟨zs, sw.trans (sw1.mono l1 l3), (pq.sw sw1 (by omega)).done (sr1 g6), o2, c.trans c2⟩
                  · simp
                    refine rest _ _ ?_
                    exact ⟨zs, by simp [h0], by simp [h1], by simp [h2], by simp [h3], by simp [h10], by simp [h8], by simp [h9], by simp [h11], sw.trans (sw1.mono l1 l3), pq.sw sw1 (by omega), o2, c.trans c2⟩
                · simp
                  refine rest _ _ ?_
                  exact ⟨ys, by simp [h0], by simp [h1], by simp [h2], by simp [h3], by simp [h10], by simp [h8], by simp [h9], by simp [h11], sw, pq, o, c⟩
              · simp [h0, h1, h2, h3, h8, h9, h11, h12, h62, g3, g4]
                refine rest _ _ ?_
                exact ⟨ys, by simp [h0], by simp [h1], by simp [h2], by simp [h3], by simp [h10], by simp [h8, g3], by simp [h9, g4], by simp [h11], sw, pq, o, c⟩
            · simp [h0, h1, h2, h3, h8, h9, h11, h12, h62, g3]
              refine rest _ _ ?_
              exact ⟨ys, by simp [h0], by simp [h1], by simp [h2], by simp [h3], by simp [h10], by simp [h8, g3], by simp [h9], by simp [h11], sw, pq, o, c⟩
          case rest3 =>
            clear h0 h1 h2 h3 h8 h9 h11 h12 sw pq o c len
            rintro t H1 ⟨ys, h0, h1, h2, h3, h10, h8, h9, h11, sw, pq, o, c⟩
            have len := sw.len
            have q1 : p < ys.length := by omega
            rw [go_draw (h := by kernel_rfl)]
            simp [h0, h1, h2, h3, h8, h9, h11]
            refine wp_joinc (F := ?F4) (k := ?k4) (d := ?d4) (Q := ?Q4) (fun r t => r = vcall C frz 116 [v, .int .i64 a, .int .i64 b, .int .i64 p, cf] H1 ∧ (t 0 = v ∧ t 4 = cf) ∧ t 1 = .int .i64 a ∧ t 2 = .int .i64 b ∧ t 3 = .int .i64 L ∧ t 12 = .int .i64 n1) ?main4 ?rest4
            case main4 =>
              intro rest
              refine wpg_dec ?_ ?_ <;> intro g3
              · have e5 : ∀ [Inhabited Unit], IntKind.i64.wrap ((a : Int) - 1) = ((a - 1 : Nat) : Int) := by intro _; rw [w64 (by omega) (by omega)]; omega
                have q2 : a - 1 < ys.length := by omega
                simp [h0, h1, h2, h3, h8, h9, h11, g3, e5, dw_ix o q1, dw_ix o q2, dw_ld o q1, dw_ld o q2, dlt hK o]
                refine wp_dec ?_ ?_ <;> intro g4
                · simp [h0, h1, h2, h3, h8, h9, h11]
                  refine rest _ _ ?_
                  exact ⟨rfl, by simp [h0], by simp [h1], by simp [h2], by simp [h3], by simp [h10]⟩
                · simp [h0, h1, h2, h3, h8, h9, h11]
                  refine wp_thn (partEq_e hK v ys e a b p o hp (by omega) (by omega) hf) ?_
                  rintro _ H2 ⟨m, rfl, m1, m2, zs, sw1, ⟨f1, f2⟩, o2, c2, k2⟩
                  simp [h0, h1, h2, h3, h8, h9, h11]
                  have low := (pq.sw sw1 (by omega)).below g3
                  have out := sw1.out (by omega) (k := a - 1) (by omega)
                  refine ih (b - m) _ _ ⟨m, b, L, w1, w2, rfl, by simp [h0], by simp, by simp [h2], by simp [h3], by simp [h8], by simp [h9], zs, sw.trans (sw1.mono l1 l3), (pq.sw sw1 (by omega)).eq ⟨m1, m2⟩ (fun k k1 k2 => ?_) f1 f2, o2, c.trans c2⟩ (by omega)
                  have := low k k1 (by omega); omega
              · simp [h0, h1, h2, h3, h8, h9, h11, g3]
                refine rest _ _ ?_
                exact ⟨rfl, by simp [h0], by simp [h1], by simp [h2], by simp [h3], by simp [h10]⟩
            case rest4 =>
              rintro _ t ⟨rfl, h0, h1, h2, h3, h10⟩
              refine wp_thn (part_e hK v ys e a b p o hp (by omega) (by omega) hf) ?_
              rintro _ H2 ⟨m, d, rfl, m1, m2, zs, sw1, ⟨f1, f2⟩, o2, c2, k2⟩
              have pq2 := pq.sw sw1 (by omega)
              have len2 := sw1.len
              obtain ⟨r1, hr1⟩ : ∃ r1, r1 = m - a := ⟨_, rfl⟩
              obtain ⟨r2, hr2⟩ : ∃ r2, r2 = b - m := ⟨_, rfl⟩
              obtain ⟨mm, hmm⟩ : ∃ mm, mm = m + 1 := ⟨_, rfl⟩
              have e6 : ∀ [Inhabited Unit], IntKind.i64.wrap ((m : Int) - a) = (r1 : Int) := by intro _; rw [w64 (by omega) (by omega)]; omega
              have e7 : ∀ [Inhabited Unit], IntKind.i64.wrap ((b : Int) - m) = (r2 : Int) := by intro _; rw [w64 (by omega) (by omega)]; omega
              have e8 : ∀ [Inhabited Unit], IntKind.i64.wrap ((m : Int) + 1) = (mm : Int) := by intro _; rw [w64 (by omega) (by omega)]; omega
              have f1' : ∀ k, a ≤ k → k < m → G zs k ≤ G zs m := fun k k1 k2 => Int.le_of_lt (f1 k k1 k2)
              have cc := c.trans c2
              have q8 : ∀ [Inhabited Unit], IntKind.i64.wrap ((n1 : Int) / 8) = (n1 / 8 : Nat) := by intro _; rw [w64 (by omega) (by omega)]; omega
              obtain ⟨n8, hn8⟩ : ∃ n8, n8 = n1 / 8 := ⟨_, rfl⟩
              rw [← hn8] at q8
              simp [h0, h1, h2, h3, h10, e6, e7, e8, q8]
              refine wp_dec ?_ ?_ <;> intro g7
              · simp [h0, h1, h2, h3, h10]
                refine wp_thn (IH (m - a) (by omega) H2 v zs e a m L o2 (Nat.le_refl _) (by omega) (by omega) (by omega) (fun q0 k k1 k2 => pq2.below q0 k k1 (by omega)) hf (by have := cc.1; omega)) ?_
                rintro _ H3 ⟨ws, sw3, sr3, o3, c3⟩
                simp [h0, h1, h2, h3, h10, e8]
                have hbz : m ≤ zs.length := by omega
                have wm : G ws m = G zs m := sw3.out hbz (.inr (Nat.le_refl _))
                refine ih (b - mm) _ _ ⟨mm, b, L, decide (n8 ≤ r1), d, rfl, by simp [h0], by simp, by simp [h2], by simp [h3], by simp, by simp, ws, (sw.trans (sw1.mono l1 l3)).trans (sw3.mono l1 (by omega)), ?_, o3, cc.trans c3⟩ (by omega)
                rw [hmm]
                refine (pq2.sw (sw3.mono (Nat.le_refl _) (by omega)) (by omega)).goRight ⟨m1, m2⟩ sr3 ?_ (fun k k1 k2 => ?_)
                · rw [wm]; exact sw3.all hbz (p := fun y => y ≤ G zs m) f1'
                · rw [wm, sw3.out hbz (.inr (by omega))]; exact f2 k k1 k2
              · simp [h0, h1, h2, h3, h10, e8]
                refine wp_thn (IH (b - mm) (by omega) H2 v zs e mm b L o2 (Nat.le_refl _) (by omega) (by omega) (by omega) (fun q0 k k1 k2 => by rw [show mm - 1 = m by omega]; exact f2 k (by omega) k2) hf (by have := cc.1; omega)) ?_
                rintro _ H3 ⟨ws, sw3, sr3, o3, c3⟩
                simp [h0, h1, h2, h3, h10, e8]
                have hbz : b ≤ zs.length := by omega
                have wm : G ws m = G zs m := sw3.out hbz (.inl (by omega))
                refine ih (m - a) _ _ ⟨a, m, L, decide (n8 ≤ r2), d, rfl, by simp [h0], by simp [h1], by simp, by simp [h3], by simp, by simp, ws, (sw.trans (sw1.mono l1 l3)).trans (sw3.mono (by omega) l3), ?_, o3, cc.trans c3⟩ (by omega)
                refine (pq2.sw (sw3.mono (by omega) (Nat.le_refl _)) (by omega)).goLeft ⟨m1, m2⟩ (hmm ▸ sr3) (fun k k1 k2 => ?_) (fun k k1 k2 => ?_)
                · rw [wm, sw3.out hbz (.inl (by omega))]; exact f1' k k1 k2
                · rw [wm]; exact sw3.all hbz (p := fun y => G zs m ≤ y) (fun k k1 k2 => f2 k (by omega) k2) k (by omega) k2
theorem sortF_e (v : Value) (xs : List Int) (e : TypeId) (h : OwE e H v xs) (hl : xs.length ≤ 1073741824) (hf : ∀ i ∈ ids v, frz ≤ i) (hF : frz ≤ H.length) :
   wp (vcall C frz 88 [v, cf] H) (fun _ H' => ∃ ys : List Int, ys.Pairwise (· ≤ ·) ∧ ys.Perm xs ∧ OwE e H' v ys ∧ Chg H H' (ids v)) := by
  rw [vcall_go (fn := Tryz.f88) Tryz.func88 rfl (by kernel_rfl) rfl]
  have e1 : ∀ [Inhabited Unit], IntKind.u64.wrap (xs.length : Int) = (xs.length : Int) := by intro _; exact w64u (by omega) (by omega)
  simp [h.rd.len, e1]
  refine wp_thn (len_w xs.length (by omega)) ?_
  rintro _ H0 ⟨hH, n, rfl, _⟩
  rw [hH]
  simp
  have := pdq_e (frz := frz) hK xs.length H v xs e 0 xs.length n h (by omega) (by omega) (Nat.le_refl _) hl (fun h => by omega) hf hF
  refine wp_thn (by simpa using this) ?_
  rintro _ H1 ⟨ys, sw, sr, o, c⟩
  simp
  rw [← sw.len] at sr
  exact ⟨ys, sr.pairwise, sw.perm (Nat.le_refl _), o, c⟩
end Go.Proofs.YtlbbalmeaedbdaaGreat.V
/-! slices.Compact on ints. -/
set_option linter.all false
namespace Go.Proofs.YtlbbalmeaedbdaaGreat.V
open Go Go.VM Go.Proofs
set_option maxRecDepth 10000
variable {frz : Nat} {H : Heap} {v : Value} {xs ys : List Int} {e : TypeId}
/-- the first j elements without those that equal the one before them -/
def dk (xs : List Int) : Nat → List Int
  | 0 => []
  | j + 1 => if 0 < j ∧ G xs (j - 1) = G xs j then dk xs j else dk xs j ++ [G xs j]
def compact (xs : List Int) : List Int := dk xs xs.length
theorem dk_len (xs : List Int) : ∀ j, (dk xs j).length ≤ j
  | 0 => Nat.le_refl _
  | j + 1 => by
    have := dk_len xs j
    unfold dk; split <;> simp <;> omega
theorem take_G {xs : List Int} {j : Nat} (h : j < xs.length) : xs.take (j + 1) = xs.take j ++ [G xs j] := by rw [List.take_succ_eq_append_getElem h, G_get h]
theorem dk_sorted {xs : List Int} (hs : xs.Pairwise (· ≤ ·)) : ∀ j, j ≤ xs.length → (dk xs j).Pairwise (· < ·) ∧ (∀ x, x ∈ dk xs j ↔ x ∈ xs.take j)
  | 0, _ => by simp [dk]
  | j + 1, hj => by
    obtain ⟨h1, h2⟩ := dk_sorted hs j (by omega)
    have hjl : j < xs.length := by omega
    rw [take_G hjl]
    have mem_le : ∀ x ∈ xs.take j, ∃ i, i < j ∧ x = G xs i ∧ (i < j - 1 → x ≤ G xs (j - 1)) ∧ x ≤ G xs j := by
      intro x hx
      obtain ⟨i, hi, rfl⟩ := List.mem_iff_getElem.1 hx
      simp at hi
      rw [List.getElem_take]
      refine ⟨i, by omega, (G_get (by omega)).symm, fun h => ?_, ?_⟩
      · rw [G_get (by omega)]; exact List.pairwise_iff_getElem.1 hs i (j - 1) (by omega) (by omega) (by omega)
      · rw [G_get hjl]; exact List.pairwise_iff_getElem.1 hs i j (by omega) (by omega) (by omega)
    unfold dk
    split
    · rename_i hc
      refine ⟨h1, fun x => ?_⟩
      rw [h2, List.mem_append, List.mem_singleton]
      refine ⟨.inl, fun hh => hh.elim id fun hx => ?_⟩
      rw [hx, ← hc.2, G_get (by omega), ← List.getElem_take (j := j) (h := by simp; omega)]
      exact List.getElem_mem _
    · rename_i hc
      refine ⟨?_, fun x => by rw [List.mem_append, List.mem_append, h2]⟩
      rw [List.pairwise_append]
      refine ⟨h1, by simp, fun x hx y hy => ?_⟩
      rw [List.mem_singleton.1 hy]
      obtain ⟨i, hi, he, hl, hle⟩ := mem_le x ((h2 x).1 hx)
      by_cases hij : i = j - 1
      · have h0 : 0 < j := by omega
        have : G xs (j - 1) ≠ G xs j := fun hh => hc ⟨h0, hh⟩
        rw [hij] at he
        omega
      · have h3 := hl (by omega)
        have h0 : 0 < j := by omega
        have : G xs (j - 1) ≠ G xs j := fun hh => hc ⟨h0, hh⟩
        have h4 : G xs (j - 1) ≤ G xs j := by
          rw [G_get (by omega), G_get hjl]; exact List.pairwise_iff_getElem.1 hs (j - 1) j (by omega) (by omega) (by omega)
        omega
theorem compact_sorted {xs : List Int} (hs : xs.Pairwise (· ≤ ·)) : (compact xs).Pairwise (· < ·) ∧ ∀ x, x ∈ compact xs ↔ x ∈ xs := by
  obtain ⟨h1, h2⟩ := dk_sorted hs xs.length (Nat.le_refl _)
  exact ⟨h1, fun x => by rw [compact, h2, List.take_length]⟩
/-- a slice's tail, told once for all heaps -/
theorem ow_tail (o : Ow Fl.int 3 H v xs) (h0 : 0 < xs.length) {l : Nat} (hl : l ≤ xs.length) : ∃ z, ∀ (H' : Heap) (ys : List Int), Ow Fl.int 3 H' v ys → ys.length = xs.length →
    vslice Tryz.prog H' 26 (some (.int .i64 (l : Nat))) none v = some z ∧ Ow Fl.int 3 H' z (ys.drop l) ∧ ids z = ids v := by
  rcases o with ⟨_, rfl⟩ | ⟨id, off, r, rfl, k2, k3, k4, k5, k6⟩
  · simp at h0
  · refine ⟨.slice (some ⟨id, off + l * 1, some r.gen⟩) (xs.length - l) 0, fun H' ys o' hlen => ?_⟩
    obtain ⟨z', h1, h2, h3⟩ := o'.slice (P := Tryz.prog) (ty := 26) (lo := some (.int .i64 (l : Int))) (hi := none) (l := l) (u := ys.length) (by simp) rfl rfl (by omega) (Nat.le_refl _)
    have e : (ys.drop l).take (ys.length - l) = ys.drop l := List.take_of_length_le (by simp)
    rw [e] at h2
    have hz : z' = .slice (some ⟨id, off + l * 1, some r.gen⟩) (xs.length - l) 0 := by
      rcases o' with ⟨hv, _⟩ | ⟨id', off', r', hv, q2, q3, q4, q5, q6⟩
      · cases hv
      · injection hv with hv1 hv2
        injection hv1 with hv1
        injection hv1 with i1 i2 i3
        injection i3 with i3
        subst i1 i2
        have hle : (l : Int) ≤ (xs.length : Int) := by omega
        simp [vslice, VM.look, q2, i3, vbound, q5, hle] at h1
        simp [← h1, i3]
    rw [← hz]
    exact ⟨h1, h2, h3⟩
/-- the tail is cleared -/
theorem ow_clear (o : Ow Fl.int 3 H v ys) (h0 : 0 < ys.length) {l : Nat} (hl : l ≤ ys.length) {z : Value} (hz : vslice Tryz.prog H 26 (some (.int .i64 (l : Nat))) none v = some z) (hf : ∀ i ∈ ids v, frz ≤ i) :
    ∃ H' zs, vclear Tryz.prog frz H 26 z = some (undef, H') ∧ zs.length = ys.length ∧ zs.take l = ys.take l ∧ Ow Fl.int 3 H' v zs ∧ Chg H H' (ids v) := by
  rcases o with ⟨_, rfl⟩ | ⟨id, off, r, rfl, k2, k3, k4, k5, k6⟩
  · simp at h0
  · have hle : (l : Int) ≤ (ys.length : Int) := by omega
    simp [vslice, VM.look, k2, vbound, k5, hle] at hz
    subst hz
    have hfr : frz ≤ id := hf id (by simp)
    have hn : Fl.int.n = 1 := rfl
    rw [hn] at k3 k4
    have hroom : off + l + (ys.length - l) ≤ r.cells.length := by omega
    refine ⟨H.set id { r with cells := VM.splice r.cells (off + l) (List.replicate (ys.length - l) [Value.int .i64 0]).flatten }, ys.take l ++ List.replicate (ys.length - l) 0, ?_, by simp; omega, by rw [List.take_append_of_le_length (by simp; omega), List.take_take, Nat.min_self], ?_, chg_set _ _⟩
    · simp [vclear, VM.look, k2, hfr, hroom, ones, VM.one]
    · have hcl : ((List.replicate (ys.length - l) [Value.int .i64 0]).flatten).length = ys.length - l := by simp
      have hlt : id < H.length := box_lt k2
      have hzl : (ys.take l ++ List.replicate (ys.length - l) (0 : Int)).length = ys.length := by simp; omega
      refine .inr ⟨id, off, { r with cells := VM.splice r.cells (off + l) (List.replicate (ys.length - l) [Value.int .i64 0]).flatten }, by rw [hzl], by simp [hlt], ?_, ?_, k5, ones_splice k6 (by simp [ones, VM.one])⟩
      · rw [hzl, hn, splice_region k3 k4 (by rw [hcl]; omega), cellsOf_int, cellsOf_int]
        unfold VM.splice
        rw [hcl]
        have e1 : (List.map (Value.int .i64) ys).drop (l + (ys.length - l)) = [] := by rw [List.drop_eq_nil_iff]; simp; omega
        rw [e1, List.append_nil, List.map_append, List.map_take]
        simp
      · rw [hzl, hn, splice_len (by rw [hcl]; omega)]; exact k4
end Go.Proofs.YtlbbalmeaedbdaaGreat.V
/-! slices.Compact on dependencies (sorte7.py, of VS7). -/
set_option linter.all false
namespace Go.Proofs.YtlbbalmeaedbdaaGreat.V
open Go Go.VM Go.Proofs
set_option maxRecDepth 10000
variable {frz : Nat} {H : Heap} {v : Value} {xs ys : List Int} {e : TypeId}
theorem Bd.take (h : Bd xs) (k : Nat) : Bd (xs.take k) := fun x hx => h x (List.mem_of_mem_take hx)
theorem Bd.drop (h : Bd xs) (k : Nat) : Bd (xs.drop k) := fun x hx => h x (List.mem_of_mem_drop hx)
theorem Bd.set (h : Bd xs) (k : Nat) {x : Int} (hx : KB x) : Bd (xs.set k x) := fun y hy => by
  rcases List.mem_or_eq_of_mem_set hy with hy | rfl
  · exact h y hy
  · exact hx
theorem Bd.app (h : Bd xs) (h' : Bd ys) : Bd (xs ++ ys) := fun y hy => by
  rcases List.mem_append.1 hy with hy | hy
  · exact h y hy
  · exact h' y hy
theorem KB0 : KB 0 := ⟨by decide, by decide⟩
theorem key_ext {x y : Int} : (x / 1024 = y / 1024 ∧ x % 1024 = y % 1024) ↔ x = y := by omega
@[simp] theorem dv_eql (x y : Int) : vbin Tryz.prog .eql 88 (dv x) (dv y) = some (.bool (decide (x = y))) := by
  unfold dv
  simp [cseq]
  rw [Bool.eq_iff_iff]
  simp
  omega
@[simp] theorem dv_neq (x y : Int) : vbin Tryz.prog .neq 88 (dv x) (dv y) = some (.bool (!decide (x = y))) := by
  unfold dv
  simp [cseq]
  rw [Bool.eq_iff_iff]
  simp
  omega
/-- a slice's tail, told once for all heaps -/
theorem dw_tail (o : OwE 88 H v xs) (h0 : 0 < xs.length) {l : Nat} (hl : l ≤ xs.length) : ∃ z, ∀ (H' : Heap) (ys : List Int), OwE 88 H' v ys → ys.length = xs.length →
    vslice Tryz.prog H' 63 (some (.int .i64 (l : Nat))) none v = some z ∧ OwE 88 H' z (ys.drop l) ∧ ids z = ids v := by
  rcases o with ⟨⟨_, rfl⟩ | ⟨id, off, r, rfl, k2, k3, k4, k5, k6⟩, _⟩
  · simp at h0
  · refine ⟨.slice (some ⟨id, off + l * 2, some r.gen⟩) (xs.length - l) 0, fun H' ys o' hlen => ?_⟩
    obtain ⟨o', bd⟩ := o'
    obtain ⟨z', h1, h2, h3⟩ := o'.slice (P := Tryz.prog) (ty := 63) (lo := some (.int .i64 (l : Int))) (hi := none) (l := l) (u := ys.length) (by simp) rfl rfl (by omega) (Nat.le_refl _)
    have e : (ys.drop l).take (ys.length - l) = ys.drop l := List.take_of_length_le (by simp)
    rw [e] at h2
    have hz : z' = .slice (some ⟨id, off + l * 2, some r.gen⟩) (xs.length - l) 0 := by
      rcases o' with ⟨hv, _⟩ | ⟨id', off', r', hv, q2, q3, q4, q5, q6⟩
      · cases hv
      · injection hv with hv1 hv2
        injection hv1 with hv1
        injection hv1 with i1 i2 i3
        injection i3 with i3
        subst i1 i2
        have hle : (l : Int) ≤ (xs.length : Int) := by omega
        simp [vslice, VM.look, q2, i3, vbound, q5, hle] at h1
        simp [← h1, i3]
    rw [← hz]
    exact ⟨h1, ⟨h2, bd.drop l⟩, h3⟩
theorem dep0 (n : Nat) : (List.replicate n [Value.int .i64 0, Value.int .i64 0]).flatten = cellsOf Fl.dep (List.replicate n 0) := by
  induction n with
  | zero => rfl
  | succ n ih => rw [List.replicate_succ, List.replicate_succ, cellsOf_cons, List.flatten_cons, ih]; rfl
/-- the tail is cleared -/
theorem dw_clear (o : OwE 88 H v ys) (h0 : 0 < ys.length) {l : Nat} (hl : l ≤ ys.length) {z : Value} (hz : vslice Tryz.prog H 63 (some (.int .i64 (l : Nat))) none v = some z) (hf : ∀ i ∈ ids v, frz ≤ i) :
    ∃ H' zs, vclear Tryz.prog frz H 63 z = some (undef, H') ∧ zs.length = ys.length ∧ zs.take l = ys.take l ∧ OwE 88 H' v zs ∧ Chg H H' (ids v) := by
  rcases o with ⟨⟨_, rfl⟩ | ⟨id, off, r, rfl, k2, k3, k4, k5, k6⟩, bd⟩
  · simp at h0
  · have hle : (l : Int) ≤ (ys.length : Int) := by omega
    simp [vslice, VM.look, k2, vbound, k5, hle] at hz
    subst hz
    have hfr : frz ≤ id := hf id (by simp)
    have hn : Fl.dep.n = 2 := rfl
    rw [hn] at k3 k4
    have hroom : off + l * 2 + (ys.length - l) * 2 ≤ r.cells.length := by omega
    have one0 : ones [Value.int .i64 0, Value.int .i64 0] = true := rfl
    have onz : ∀ n, ones (cellsOf Fl.dep (List.replicate n (0 : Int))) = true := fun n => by
      induction n with
      | zero => rfl
      | succ n ih => rw [List.replicate_succ, cellsOf_cons, ones_app, ih]; rfl
    refine ⟨H.set id { r with cells := VM.splice r.cells (off + l * 2) (cellsOf Fl.dep (List.replicate (ys.length - l) 0)) }, ys.take l ++ List.replicate (ys.length - l) 0, ?_, by simp; omega, by rw [List.take_append_of_le_length (by simp; omega), List.take_take, Nat.min_self], ?_, chg_set _ _⟩
    · rw [← dep0]
      simp [vclear, VM.look, k2, hfr, hroom, one0]
    · have hcl : (cellsOf Fl.dep (List.replicate (ys.length - l) (0 : Int))).length = (ys.length - l) * 2 := by simp
      have hlt : id < H.length := box_lt k2
      have hzl : (ys.take l ++ List.replicate (ys.length - l) (0 : Int)).length = ys.length := by simp; omega
      refine ⟨.inr ⟨id, off, { r with cells := VM.splice r.cells (off + l * 2) (cellsOf Fl.dep (List.replicate (ys.length - l) 0)) }, by rw [hzl], by simp [hlt], ?_, ?_, k5, ones_splice k6 (onz _)⟩, (bd.take l).app fun x hx => by rw [(List.mem_replicate.1 hx).2]; exact KB0⟩
      · rw [hzl, hn, splice_region k3 k4 (by rw [hcl]; omega), cellsOf_app, ← cellsOf_take]
        unfold VM.splice
        rw [hcl, hn]
        have e1 : (cellsOf Fl.dep ys).drop (l * 2 + (ys.length - l) * 2) = [] := by rw [List.drop_eq_nil_iff]; simp; omega
        rw [e1, List.append_nil]
      · rw [hzl, hn, splice_len (by rw [hcl]; omega)]; exact k4
theorem compact_e (v : Value) (xs : List Int) (h : OwE 88 H v xs) (hl : xs.length ≤ 1073741824) (hf : ∀ i ∈ ids v, frz ≤ i) :
   wp (vcall C frz 90 [v] H) (fun u H' => OwE 88 H' u (compact xs) ∧ (∀ i ∈ ids u, i ∈ ids v) ∧ Chg H H' (ids v)) := by
  rw [vcall_go (fn := Tryz.f90) Tryz.func90 rfl (by kernel_rfl) rfl]
  simp [h.rd.len]
  have dk1 : dk xs 1 = [G xs 0] := by simp [dk]
  refine wp_dec ?_ ?_ <;> intro g0
  · simp
    have : compact xs = xs := by
      match xs, g0 with
      | [], _ => rfl
      | [a], _ => simp [compact, dk, G]
      | a :: b :: l, g => simp at g; omega
    rw [this]
    exact ⟨h, Chg.refl _⟩
  · simp
    have hl1 := h.rd.len (P := Tryz.prog) (ty := 63) (by simp)
    refine wp_inv (fun n t H' => ∃ i : Nat, n = xs.length - i ∧ 1 ≤ i ∧ i ≤ xs.length ∧ t 0 = v ∧ t 3 = .int .i64 i ∧ H' = H ∧ dk xs i = xs.take i) ?_ (n := xs.length - 1)
      ⟨1, rfl, by omega, by omega, by simp, by simp, rfl, by rw [dk1, take_G (by omega)]; rfl⟩
    rintro n t H' ⟨i, rfl, hi1, hi, t0, t3, hH, hd⟩ ih
    rw [hH]
    simp [t0, t3, hl1]
    refine wp_dec ?_ ?_ <;> intro g1
    · have e1 : ∀ [Inhabited Unit], IntKind.i64.wrap ((i : Int) - 1) = ((i - 1 : Nat) : Int) := by intro _; rw [w64 (by omega) (by omega)]; omega
      have p2 : i - 1 < xs.length := by omega
      simp [t0, t3]
      rw [go_draw (h := by kernel_rfl)]
      simp [t0, t3, e1, dw_ix h g1, dw_ix h p2, dw_ld h g1, dw_ld h p2]
      refine wp_dec ?_ ?_ <;> intro g2
      · obtain ⟨z, hz⟩ := dw_tail h (by omega) (l := i) (by omega)
        obtain ⟨z1, _, z3⟩ := hz H xs h rfl
        simp [t0, t3, z1]
        have dki : dk xs (i + 1) = xs.take i := by
          have : 0 < i ∧ G xs (i - 1) = G xs i := ⟨by omega, g2.symm⟩
          unfold dk; rw [if_pos this, hd]
        refine wp_inv (fun n t H' => ∃ (k j : Nat) (ys : List Int), n = xs.length - (i + j) ∧ 1 ≤ j ∧ i + j ≤ xs.length ∧ k < i + j ∧ t 0 = v ∧ t 3 = .int .i64 k ∧ t 4 = z ∧ t 5 = .int .i64 j ∧ ys.length = xs.length ∧ ys.take k = dk xs (i + j) ∧ (∀ m, i + j ≤ m + 1 → G ys m = G xs m) ∧
            OwE 88 H' v ys ∧ Chg H H' (ids v)) ?_ (n := xs.length - (i + 1))
          ⟨i, 1, xs, rfl, by omega, by omega, by omega, by simp [t0], by simp [t3], by simp, by simp, rfl, dki.symm, fun m hm => rfl, h, Chg.refl _⟩
        clear ih hH t0 t3
        rintro n t H' ⟨k, j, ys, rfl, hj1, hj, hk, t0, t3, t4, t5, hlen, htk, hG, o, ch⟩ ih
        obtain ⟨z1', oz, _⟩ := hz H' ys o hlen
        have lz := oz.rd.len (P := Tryz.prog) (ty := 63) (by simp)
        have hzl : (ys.drop i).length = xs.length - i := by simp [hlen]
        simp [t0, t3, t4, t5, lz, hlen]
        refine wp_dec ?_ ?_ <;> intro g3
        · have p1 : j < (ys.drop i).length := by omega
          have p2' : j - 1 < (ys.drop i).length := by omega
          have e2 : ∀ [Inhabited Unit], IntKind.i64.wrap ((j : Int) - 1) = ((j - 1 : Nat) : Int) := by intro _; rw [w64 (by omega) (by omega)]; omega
          have e3 : ∀ [Inhabited Unit], IntKind.i64.wrap ((j : Int) + 1) = ((j + 1 : Nat) : Int) := by intro _; rw [w64 (by omega) (by omega)]; omega
          have e4 : ∀ [Inhabited Unit], IntKind.i64.wrap ((k : Int) + 1) = ((k + 1 : Nat) : Int) := by intro _; rw [w64 (by omega) (by omega)]; omega
          have dG : ∀ m, G (ys.drop i) m = G ys (i + m) := fun m => by simp [G, List.getD_eq_getElem?_getD]
          have G1 : G (ys.drop i) j = G xs (i + j) := by rw [dG, hG _ (by omega)]
          have G2 : G (ys.drop i) (j - 1) = G xs (i + j - 1) := by rw [dG, hG _ (by omega), show i + (j - 1) = i + j - 1 by omega]
          simp [t0, t3, t4, t5]
          rw [go_draw (h := by kernel_rfl)]
          simp [t0, t3, t4, t5, e2, dw_ix oz p1, dw_ix oz p2', dw_ld oz p1, dw_ld oz p2', G1, G2]
          have hkl : k < ys.length := by omega
          refine wp_dec ?_ ?_ <;> intro g4
          · have hd2 : dk xs (i + j + 1) = dk xs (i + j) := by
              have : 0 < i + j ∧ G xs (i + j - 1) = G xs (i + j) := ⟨by omega, g4.symm⟩
              rw [dk, if_pos this]
            simp [t0, t3, t4, t5]
            refine ih (xs.length - (i + (j + 1))) _ _ ⟨k, j + 1, ys, rfl, by omega, by omega, by omega, by simp [t0], by simp [t3], by simp [t4], by simp [e3], hlen, by rw [← Nat.add_assoc, hd2]; exact htk, fun m hm => hG m (by omega), o, ch⟩ (by omega)
          · obtain ⟨H2, s2, o2', c2, l2⟩ := o.1.store (P := Tryz.prog) (frz := frz) (et := 88) (ag := true) (by simp) hkl (x := dv (G xs (i + j))) (y := G xs (i + j)) rfl rfl hf
            have o2 : OwE 88 H2 v (ys.set k (G xs (i + j))) := ⟨o2', o.2.set k (h.2.G _)⟩
            simp only [Fl.dep_n] at s2
            have hd2 : dk xs (i + j + 1) = dk xs (i + j) ++ [G xs (i + j)] := by
              have : ¬ (0 < i + j ∧ G xs (i + j - 1) = G xs (i + j)) := fun hh => g4 hh.2.symm
              rw [dk, if_neg this]
            simp [t0, t3, t4, t5, dw_ix oz p1, dw_ld oz p1, G1, dw_ix o hkl, s2]
            refine ih (xs.length - (i + (j + 1))) _ _ ⟨k + 1, j + 1, ys.set k (G xs (i + j)), rfl, by omega, by omega, by omega, by simp [t0], by simp [e4], by simp [t4], by simp [e3], by simp [hlen], ?_, fun m hm => ?_, o2, ch.trans c2⟩ (by omega)
            · rw [← Nat.add_assoc, hd2, ← htk, List.take_succ_eq_append_getElem (by simpa using hkl), List.getElem_set_self]
              simp [List.take_set_of_le]
            · have hmk : m ≠ k := by omega
              have : G (ys.set k (G xs (i + j))) m = G ys m := by simp [G, List.getD_eq_getElem?_getD, List.getElem?_set_ne (Ne.symm hmk)]
              rw [this]; exact hG m (by omega)
        · have hij : i + j = xs.length := by omega
          have hkl : k ≤ ys.length := by omega
          obtain ⟨y, hy⟩ := dw_tail o (by omega) (l := k) hkl
          obtain ⟨y1, _, _⟩ := hy H' ys o rfl
          obtain ⟨H2, zs, cl, zl, zt, oz2, c2⟩ := dw_clear o (by omega) hkl y1 hf
          obtain ⟨q, q1, q2', q3⟩ := oz2.1.slice (P := Tryz.prog) (ty := 63) (lo := none) (hi := some (.int .i64 (k : Int))) (l := 0) (u := k) (by simp) rfl rfl (Nat.zero_le _) (by omega)
          simp [t0, t3, t4, t5, y1, cl, q1]
          have q2 : OwE 88 H2 q ((zs.drop 0).take (k - 0)) := ⟨q2', oz2.2.take k⟩
          simp only [List.drop_zero, Nat.sub_zero, zt, htk, hij] at q2
          exact ⟨q2, by rw [q3]; exact fun i hi => hi, ch.trans c2⟩
      · simp [t0, t3]
        refine ih (xs.length - (i + 1)) _ _ ⟨i + 1, rfl, by omega, by omega, by simp [t0], ?_, rfl, ?_⟩ (by omega)
        · simp; rw [w64 (by omega) (by omega)]
        · have : ¬ (0 < i ∧ G xs (i - 1) = G xs i) := fun hh => g2 hh.2.symm
          unfold dk; rw [if_neg this, take_G g1, hd]
    · have him : i = xs.length := by omega
      simp [t0]
      rw [him, List.take_length] at hd
      exact ⟨by rw [compact, hd]; exact h, Chg.refl _⟩
end Go.Proofs.YtlbbalmeaedbdaaGreat.V
/-! Dependencies of tables: the program's. -/
set_option linter.all false
namespace Go.Proofs.YtlbbalmeaedbdaaGreat.V
open Go Go.VM Go.Proofs
set_option maxRecDepth 10000
variable {frz : Nat} {H : Heap} {v : Value} {xs ys : List Int} {e : TypeId}
@[simp] theorem cells_func (g : Fn) (a b : Array Value) : (Value.func g a b).cells = #[Value.func g a b] := rfl
@[simp] theorem one_func (g : Fn) (a b : Array Value) : VM.one (Value.func g a b) = true := rfl
def key (a b : Int) : Int := 1024 * a + b
theorem dv_key {a b : Int} (h : 0 ≤ b ∧ b < 1024) : dv (key a b) = .agg #[.int .i64 a, .int .i64 b] := by
  have e1 : key a b / 1024 = a := by unfold key; omega
  have e2 : key a b % 1024 = b := by unfold key; omega
  rw [dv, e1, e2]
theorem compare_c (x y : Int) (hx : KB x) (hy : KB y) : vcall C frz 89 [dv x, dv y] H = some (.int .i64 (cmpZ x y), H) := by
  rw [vcall_go (fn := Tryz.f89) Tryz.func89 rfl (by kernel_rfl) rfl]
  have h1 := hx.1; have h2 := hx.2; have h3 := hy.1; have h4 := hy.2
  have e1 : ∀ [Inhabited Unit], IntKind.i64.wrap (x / 1024 - y / 1024) = x / 1024 - y / 1024 := by intro _; exact w64 (by omega) (by omega)
  have e2 : ∀ [Inhabited Unit], IntKind.i64.wrap (x % 1024 - y % 1024) = x % 1024 - y % 1024 := by intro _; exact w64 (by omega) (by omega)
  simp [dv]
  refine br_dec _ ?_ ?_ <;> intro g <;> simp [g, e1, e2, cmpZ]
theorem arranged_e (v : Value) (xs : List Int) (h : OwE 88 H v xs) (hl : xs.length ≤ 1073741824) (hf : ∀ i ∈ ids v, frz ≤ i) (hF : frz ≤ H.length) :
   wp (vcall C frz 67 [v] H) (fun u H' => OwE 88 H' u (arrK xs) ∧ (∀ i ∈ ids u, i ∈ ids v) ∧ Chg H H' (ids v)) := by
  rw [vcall_go (fn := Tryz.f67) Tryz.func67 rfl (by kernel_rfl) rfl]
  simp
  refine wp_thn (sortF_e (cf := .func (.func 89) #[] #[]) (fun F K x y hx hy => by simp [compare_c x y hx hy]) v xs _ h hl hf hF) ?_
  rintro _ H1 ⟨ys, y1, y2, o1, c1⟩
  simp
  refine wp_thn (compact_e v ys o1 (by rw [y2.length_eq]; exact hl) hf) ?_
  rintro u H2 ⟨o2, n2, c2⟩
  simp
  obtain ⟨q1, q2⟩ := compact_sorted y1
  have : compact ys = arrK xs := strict_ext q1 (arrK_asc _) fun x => by rw [q2, mem_arrK, y2.mem_iff]
  rw [this] at o2
  exact ⟨o2, n2, c1.trans c2⟩
/-- both are channels -/
def CB (a b : Int) : Prop := (0 ≤ a ∧ a < 1024) ∧ 0 ≤ b ∧ b < 1024
theorem CB.kb {a b : Int} (h : CB a b) : KB (key a b) := by obtain ⟨⟨h1, h2⟩, h3, h4⟩ := h; unfold KB key; omega
theorem dw_push (o : OwE 88 H v xs) {a b : Int} (hb : CB a b) (hl : xs.length + 1 ≤ 1073741824) (hf : ∀ i ∈ ids v, frz ≤ i) :
    ∃ v' H', vappend Tryz.prog frz (H ++ [⟨[.int .i64 a, .int .i64 b], 0, 88⟩]) 63 63 v (.slice (some ⟨H.length, 0, some 0⟩) 1 0) = some (v', H') ∧ OwE 88 H' v' (xs ++ [key a b]) ∧ Chg H H' (ids v) ∧ ∀ i ∈ ids v', i ∈ ids v ∨ H.length ≤ i := by
  obtain ⟨v', H', h1, h2, h3, h4⟩ := o.1.push (P := Tryz.prog) (frz := frz) (ty := 63) (a := key a b) (by simp) rfl hl hf
  have e : Fl.dep.f (key a b) = [.int .i64 a, .int .i64 b] := by
    have := dv_key (a := a) hb.2
    rw [← dv_agg] at this
    injection this with this
    exact List.toArray_inj this
  rw [e] at h1
  exact ⟨v', H', h1, ⟨h2, o.2.app fun x hx => by rw [List.mem_singleton.1 hx]; exact hb.kb⟩, h3, h4⟩
/-- the list that is made: a box holds it -/
def BoxD (H : Heap) (r : Nat) (x : Value) (xs : List Int) : Prop := H[r]? = some ⟨[x], 0, 63⟩ ∧ OwE 88 H x xs ∧ r ∉ ids x
theorem dependsOf1_w (r : Nat) (x : Value) (xs : List Int) (a b : Int) (h : BoxD H r x xs) (hb : CB a b) (hl : xs.length + 1 ≤ 1073741824) (hf : ∀ i ∈ ids x, frz ≤ i) (hr : frz ≤ r) :
   wp (vcall C frz 66 [.int .i64 a, .int .i64 b, .pointer (some ⟨r, 0, some 0⟩)] H) (fun _ H' => ∃ x', BoxD H' r x' (xs ++ [key a b]) ∧ (∀ i ∈ ids x', i ∈ ids x ∨ H.length ≤ i) ∧ Chg H H' (r :: ids x)) := by
  obtain ⟨g, o, nr⟩ := h
  rw [vcall_go (fn := Tryz.f66) Tryz.func66 rfl (by kernel_rfl) rfl]
  obtain ⟨x', H2, hap, o2, c2, n2⟩ := dw_push o hb hl hf
  have hlt := box_lt g
  have g2 : H2[r]? = some ⟨[x], 0, 63⟩ := box_chg g c2 nr
  have on := And.intro o.rd.one' o.rd.cells
  have on2 := And.intro o2.rd.one' o2.rd.cells
  simp [VM.look, g, on, hap]
  simp [VM.look, g2, on2, hr]
  have nr2 : r ∉ ids x' := fun hh => by
    rcases n2 r hh with q | q
    · exact nr q
    · omega
  refine ⟨x', ⟨set_get g2, o2.chg (chg_set _ _) (fun i hi hh => by simp at hh; subst hh; exact nr2 hi), nr2⟩, n2, (c2.mono (by simp +contextual)).trans ((chg_set _ _).mono (by simp))⟩
theorem rowPairs_len (n a m : Nat) : (rowPairs n a m).length ≤ m := by
  unfold rowPairs
  rw [List.length_map]
  exact Nat.le_trans (List.length_filter_le ..) (by simp)
theorem allPairs_len (n : Nat) : ∀ m, (allPairs n m).length ≤ m * n
  | 0 => by simp [allPairs]
  | m + 1 => by
    rw [allPairs_succ, List.length_append, Nat.succ_mul]
    have := allPairs_len n m
    have := rowPairs_len n m n
    omega
theorem pairs_len (n i j : Nat) (hi : i < n) (hj : j ≤ n) (hn : n ≤ 16) : (allPairs n i ++ rowPairs n i j).length ≤ 256 := by
  rw [List.length_append]
  have h1 := allPairs_len n i
  have h2 := rowPairs_len n i j
  have h3 : i * n ≤ 15 * 16 := Nat.mul_le_mul (by omega) hn
  omega
theorem pairsB_w (w h : Int) (f : Value) {Q : Value → Heap → Prop} (Inv : List (Nat × Nat) → Heap → Prop)
    (h0 : Inv [] (H ++ [⟨[.int .i64 w, .int .i64 h], 0, 25⟩]))
    (hs : ∀ (done : List (Nat × Nat)) (a c : Nat) (H' : Heap), a < (cnt w h).toNat → c < (cnt w h).toNat → a ≠ c → done.length ≤ 256 → Inv done H' → wp (vclos (vcall C frz) f [.int .i64 a, .int .i64 c] H') fun r H'' => (r = .bool true ∧ Inv (done ++ [(a, c)]) H'') ∨ (r = .bool false ∧ Q (.bool false) H''))
    (he : ∀ H', Inv (allPairs (cnt w h).toNat (cnt w h).toNat) H' → Q (.bool true) H') :
    wp (vcall C frz 29 [.agg #[.int .i64 w, .int .i64 h], f] H) Q := by
  rw [vcall_go (fn := Tryz.f29) Tryz.func29 rfl (by kernel_rfl) rfl]
  have hc := cnt_range w h
  simp [nodeCount_c]
  refine wp_inv (fun n t H' => ∃ (i : Nat), n = (cnt w h).toNat - i ∧ i ≤ (cnt w h).toNat ∧ t 1 = f ∧ t 5 = .int .i64 (cnt w h) ∧ t 10 = .int .i64 (cnt w h) ∧ t 11 = .int .i64 i ∧
    Inv (allPairs (cnt w h).toNat i) H') ?_ (n := (cnt w h).toNat) ⟨0, by simp [allPairs, h0]⟩
  rintro n t H' ⟨i, rfl, hi, h1, h5, h10, h11, hk⟩ ih
  simp [h1, h5, h10, h11]
  refine wp_dec ?_ ?_ <;> intro hlt
  · simp [h1, h5, h10, h11, hlt]
    refine wp_inv (fun n t H' => ∃ (j : Nat), n = (cnt w h).toNat - j ∧ j ≤ (cnt w h).toNat ∧ t 1 = f ∧ t 5 = .int .i64 (cnt w h) ∧ t 10 = .int .i64 (cnt w h) ∧ t 11 = .int .i64 i ∧ t 6 = .int .i64 i ∧ t 14 = .int .i64 (cnt w h) ∧ t 15 = .int .i64 j ∧
      Inv (allPairs (cnt w h).toNat i ++ rowPairs (cnt w h).toNat i j) H') ?_ (n := (cnt w h).toNat) ⟨0, by simp [h1, h5, h10, h11, rowPairs, hk]⟩
    clear h1 h5 h10 h11 hk
    rintro n t H' ⟨j, rfl, hj, h1, h5, h10, h11, h6, h14, h15, hk⟩ ih2
    simp [h1, h5, h10, h11, h6, h14, h15]
    refine wp_dec ?_ ?_ <;> intro hlj
    · have ni : i < (cnt w h).toNat := by omega
      have nj : j < (cnt w h).toNat := by omega
      have yes := fun (t' : Env) (H' : Heap) (x1 : t' 1 = f) (x5 : t' 5 = .int .i64 (cnt w h)) (x10 : t' 10 = .int .i64 (cnt w h)) (x11 : t' 11 = .int .i64 i) (x6 : t' 6 = .int .i64 i) (x14 : t' 14 = .int .i64 (cnt w h)) (x15 : t' 15 = .int .i64 (j + 1 : Nat)) (hg : Inv (allPairs (cnt w h).toNat i ++ rowPairs (cnt w h).toNat i (j + 1)) H') =>
        ih2 ((cnt w h).toNat - (j + 1)) t' H' ⟨j + 1, rfl, by omega, x1, x5, x10, x11, x6, x14, x15, hg⟩ (by omega)
      simp [h1, h5, h10, h11, h6, h14, h15, hlj]
      refine wpg_dec ?_ ?_ <;> intro hij
      · simp [h1, h5, h10, h11, h6, h14, h15, hlj, hij]
        refine yes _ _ (by simp [h1]) (by simp [h5]) (by simp [h10]) (by simp [h11]) (by simp [h6]) (by simp [h14]) ?_ (by rw [rowPairs_eq _ _ _ (by omega)]; exact hk)
        simp; rw [w64 (by omega) (by omega)]
      · simp [h1, h5, h10, h11, h6, h14, h15, hlj, hij]
        refine wp_thn (hs _ i j H' ni nj (by omega) (pairs_len _ _ _ (by omega) hj (by have := cnt_range w h; omega)) hk) ?_
        rintro r H'' (⟨rfl, hq⟩ | ⟨rfl, hq⟩)
        · simp [h1, h5, h10, h11, h6, h14, h15, hlj, hij]
          refine yes _ _ (by simp [h1]) (by simp [h5]) (by simp [h10]) (by simp [h11]) (by simp [h6]) (by simp [h14]) ?_ (by rw [rowPairs_ne _ _ _ (by omega), ← List.append_assoc]; exact hq)
          simp; rw [w64 (by omega) (by omega)]
        · simp [h1, h5, h10, h11, h6, h14, h15, hlj, hij]
          exact hq
    · have : j = (cnt w h).toNat := by omega
      subst this
      simp [h1, h5, h10, h11, h6, h14, h15, hlj]
      refine ih ((cnt w h).toNat - (i + 1)) _ _ ⟨i + 1, rfl, by omega, by simp [h1], by simp [h5], by simp [h10], ?_, by rw [allPairs_succ]; exact hk⟩ (by omega)
      · simp; rw [w64 (by omega) (by omega)]
  · simp [h1, h5, h10, h11, hlt]
    have : i = (cnt w h).toNat := by omega
    subst this
    exact he _ hk
/-- keys of the neighbours in a walk -/
def adjN (l : List Int) (i : Nat) : List Int := (List.range i).map fun k => key (G l k) (G l (k + 1))
def adjK (l : List Int) : List Int := adjN l (l.length - 1)
theorem adjN_succ (l : List Int) (i : Nat) : adjN l (i + 1) = adjN l i ++ [key (G l i) (G l (i + 1))] := by simp [adjN, List.range_succ]
theorem adjN_len (l : List Int) (i : Nat) : (adjN l i).length = i := by simp [adjN]
/-- the list grows; what else has changed lies in D -/
def DI (K : Heap) (r : Nat) (D : List Nat) (xs : List Int) (H' : Heap) : Prop := ∃ x, BoxD H' r x xs ∧ (∀ i ∈ ids x, i ∈ D ∨ K.length ≤ i) ∧ Chg K H' (r :: D)
theorem DI.trans {K K1 H' : Heap} {r : Nat} {D : List Nat} {x0 : Value} {xs : List Int} (c : Chg K K1 (r :: D)) (n : ∀ i ∈ ids x0, i ∈ D ∨ K.length ≤ i) (h : DI K1 r (ids x0) xs H') : DI K r D xs H' := by
  obtain ⟨x, bx, nx, ch⟩ := h
  have := c.1
  refine ⟨x, bx, fun i hi => ?_, c.trans' ch fun i hi => ?_⟩
  · rcases nx i hi with q | q
    · exact n i q
    · right; omega
  · rcases List.mem_cons.1 hi with rfl | hi
    · exact .inl (List.mem_cons_self ..)
    · rcases n i hi with q | q
      · exact .inl (List.mem_cons_of_mem _ q)
      · exact .inr q
theorem ret_made (H : Heap) (xs : List Int) : ∃ z L, V.ret H xs = (z, H ++ L) ∧ IsI (H ++ L) z xs ∧ ∀ i ∈ ids z, H.length ≤ i ∧ i < (H ++ L).length := by
  unfold V.ret
  split
  · rename_i h; subst h
    exact ⟨_, [], by rw [List.append_nil], .inl ⟨rfl, rfl⟩, fun i hi => by simp at hi⟩
  · exact ⟨_, _, rfl, IsI.at0 rfl, fun i hi => by simp at hi; subst hi; simp⟩
theorem adjacent1_w (w h : Int) (v u : Value) (b T : List Int) (K : Heap) (r r1 r2 r3 : Nat) (D : List Nat) (a c : Nat) (xs : List Int) (hI : IsI K v b) (hT : IsI K u T) (hl : b.length ≤ 1073741824) (hz : tsized w h b T)
    (ha : a < (cnt w h).toNat) (hc : c < (cnt w h).toNat) (hne : a ≠ c) (hw : ∀ x ∈ walk w h b T a c, 0 ≤ x ∧ x < 1024) (hx : xs.length ≤ 1048576)
    (g1 : K[r1]? = some ⟨[.int .i64 w, .int .i64 h, v], 0, 28⟩) (g2 : K[r2]? = some ⟨[u], 0, 32⟩) (g3 : K[r3]? = some ⟨[.func (.func 66) #[] #[.pointer (some ⟨r, 0, some 0⟩)]], 0, 89⟩)
    (n1 : r1 ∉ r :: D) (n2 : r2 ∉ r :: D) (n3 : r3 ∉ r :: D) (nv : ∀ i ∈ ids v, i ∉ r :: D) (nu : ∀ i ∈ ids u, i ∉ r :: D) (hr : frz ≤ r) (hD : ∀ i ∈ D, frz ≤ i) (hK : frz ≤ K.length) (hd : DI K r D xs H) :
   wp (vcall C frz 87 [.int .i64 a, .int .i64 c, .pointer (some ⟨r1, 0, some 0⟩), .pointer (some ⟨r2, 0, some 0⟩), .pointer (some ⟨r3, 0, some 0⟩)] H) (fun u H' => u = .bool true ∧ DI K r D (xs ++ adjK (walk w h b T a c)) H') := by
  obtain ⟨x, ⟨bx, o, nr⟩, nx, ch⟩ := hd
  have b1 := box_chg g1 ch n1
  have b2 := box_chg g2 ch n2
  have b3 := box_chg g3 ch n3
  rw [vcall_go (fn := Tryz.f87) Tryz.func87 rfl (by kernel_rfl) rfl]
  have hIH := (hI.rd.chg ch nv).isI
  have hTH := (hT.rd.chg ch nu).isI
  obtain ⟨z, L, e0, hz1, hz2⟩ := ret_made H (walk w h b T a c)
  have wc := fun F => walk_c (frz := F) w h v u b T a c hIH hTH hl hz (isN_nat ha) (isN_nat hc) (by omega)
  have wl : (walk w h b T a c).length ≤ 256 := by
    have := walkN_len w h b T c (cnt w h).toNat a []
    have := cnt_range w h
    unfold walk; simp at *; omega
  have onv := And.intro hI.one' hI.cells
  have onu := And.intro hT.one' hT.cells
  generalize hws : walk w h b T a c = ws at *
  simp [VM.look, b1, b2, wc, e0, onv, onu]
  have hrH := box_lt bx
  have oL := o.lt
  refine wp_inv (fun n t H' => ∃ i : Nat, n = ws.length - i ∧ 1 ≤ i ∧ i ≤ max 1 ws.length ∧ t 4 = .pointer (some ⟨r3, 0, some 0⟩) ∧ t 8 = z ∧ t 9 = .int .i64 i ∧ DI (H ++ L) r (ids x) (xs ++ adjN ws (i - 1)) H') ?_ (n := ws.length - 1)
    ⟨1, rfl, by omega, by omega, by simp, by simp, by simp, x, ⟨get_app' bx _, by simpa [adjN] using o.app, nr⟩, fun i hi => .inl hi, Chg.refl _⟩
  rintro n t H' ⟨i, rfl, hi1, hi2, t4, t8, t9, di⟩ ih
  obtain ⟨x1, ⟨bx1, o1, nr1⟩, nx1, ch1⟩ := di
  have zH : IsI H' z ws := (hz1.rd.chg ch1 fun j hj hh => by
    have := (hz2 j hj).1
    rcases List.mem_cons.1 hh with rfl | hh
    · omega
    · have := oL j hh; omega).isI
  have b3' : H'[r3]? = some ⟨[.func (.func 66) #[] #[.pointer (some ⟨r, 0, some 0⟩)]], 0, 89⟩ := box_chg (get_app' b3 L) ch1 (fun hh => by
    rcases List.mem_cons.1 hh with q | hh
    · exact n3 (q ▸ List.mem_cons_self ..)
    · rcases nx r3 hh with q | q
      · exact n3 (List.mem_cons_of_mem _ q)
      · have := box_lt g3; omega)
  simp [t4, t8, t9, zH.len]
  refine wp_dec ?_ ?_ <;> intro hlt
  · have e1 : ∀ [Inhabited Unit], IntKind.i64.wrap ((i : Int) - 1) = ((i - 1 : Nat) : Int) := by intro _; rw [w64 (by omega) (by omega)]; omega
    have p1 : ∀ (k : Nat), k < ws.length → vindexAddr Tryz.prog H' 26 z (.int .i64 k) = some (elp z k) ∧ vload Tryz.prog H' 3 (elp z k) = some (.int .i64 (G ws k)) := fun k hk => by
      refine ⟨?_, zH.load (by simp) hk⟩
      have := zH.idx (P := Tryz.prog) (ty := 26) (e := 3) (by simp) (i := (k : Int)) (by omega) (by omega)
      simpa using this
    have q1 := p1 i (by omega)
    have q2 := p1 (i - 1) (by omega)
    have cb : CB (G ws (i - 1)) (G ws i) := by
      rw [G_get (by omega : i - 1 < ws.length), G_get (by omega : i < ws.length)]
      exact ⟨hw _ (List.getElem_mem _), hw _ (List.getElem_mem _)⟩
    have hn : (adjN ws (i - 1)).length = i - 1 := adjN_len _ _
    simp [t4, t8, t9]
    rw [go_draw (h := by kernel_rfl)]
    simp [VM.look, t4, t8, t9, b3', e1, q1, q2]
    refine wp_thn (dependsOf1_w r x1 _ (G ws (i - 1)) (G ws i) ⟨bx1, o1, nr1⟩ cb (by simp [hn]; omega) (fun j hj => ?_) hr) ?_
    · rcases nx1 j hj with q | q
      · rcases nx j q with q | q
        · exact hD j q
        · omega
      · have := ch.1; simp at q; omega
    rintro _ H2 ⟨x2, bx2, nx2, c2⟩
    simp [t4, t8, t9]
    refine ih (ws.length - (i + 1)) _ _ ⟨i + 1, rfl, by omega, by omega, by simp [t4], by simp [t8], ?_, ?_⟩ (by omega)
    · simp; rw [w64 (by omega) (by omega)]
    · have e3 : adjN ws (i + 1 - 1) = adjN ws (i - 1) ++ [key (G ws (i - 1)) (G ws i)] := by
        have := adjN_succ ws (i - 1)
        rw [show i - 1 + 1 = i by omega] at this
        exact this
      rw [e3, ← List.append_assoc]
      exact DI.trans ch1 nx1 ⟨x2, bx2, nx2, c2⟩
  · simp
    have e3 : adjN ws (i - 1) = adjK ws := by
      unfold adjK
      by_cases h0 : ws.length = 0
      · rw [show i - 1 = ws.length - 1 by omega]
      · rw [show i - 1 = ws.length - 1 by omega]
    rw [← e3]
    refine DI.trans (x0 := x) (K1 := H ++ L) (ch.trans' (Chg.app (r :: D)) fun j hj => .inl hj) nx ⟨x1, ⟨bx1, o1, nr1⟩, nx1, ch1⟩
def walkAdj (w h : Int) (b T : List Int) (l : List (Nat × Nat)) : List Int := l.flatMap fun p => adjK (walk w h b T p.1 p.2)
theorem walkAdj_snoc (w h : Int) (b T : List Int) (l : List (Nat × Nat)) (p : Nat × Nat) : walkAdj w h b T (l ++ [p]) = walkAdj w h b T l ++ adjK (walk w h b T p.1 p.2) := by simp [walkAdj]
theorem walk_lenE (w h : Int) (b T : List Int) (a c : Int) : (walk w h b T a c).length ≤ 256 := by
  have := walkN_len w h b T c (cnt w h).toNat a []
  have := cnt_range w h
  unfold walk; simp at *; omega
theorem walkAdj_len (w h : Int) (b T : List Int) (l : List (Nat × Nat)) : (walkAdj w h b T l).length ≤ 256 * l.length := by
  induction l with
  | nil => simp [walkAdj]
  | cons p l ih =>
    have e : walkAdj w h b T (p :: l) = adjK (walk w h b T p.1 p.2) ++ walkAdj w h b T l := rfl
    rw [e, List.length_append, List.length_cons]
    have h1 := walk_lenE w h b T p.1 p.2
    have h2 : (adjK (walk w h b T p.1 p.2)).length = (walk w h b T p.1 p.2).length - 1 := adjN_len _ _
    omega
theorem adjacent_w (w h : Int) (v u : Value) (b T : List Int) (r : Nat) (x0 : Value) (hI : IsI H v b) (hT : IsI H u T) (hl : b.length ≤ 1073741824) (hz : tsized w h b T)
    (hw : ∀ a c : Nat, a < (cnt w h).toNat → c < (cnt w h).toNat → ∀ x ∈ walk w h b T a c, 0 ≤ x ∧ x < 1024)
    (bx : BoxD H r x0 []) (nv : ∀ i ∈ ids v, i ∉ r :: ids x0) (nu : ∀ i ∈ ids u, i ∉ r :: ids x0) (hr : frz ≤ r) (hf : ∀ i ∈ ids x0, frz ≤ i) (hF : frz ≤ H.length) :
   wp (vcall C frz 65 [.agg #[.int .i64 w, .int .i64 h, v], .agg #[u], .func (.func 66) #[] #[.pointer (some ⟨r, 0, some 0⟩)]] H) (fun _ H' => DI H r (ids x0) (walkAdj w h b T (allPairs (cnt w h).toNat (cnt w h).toNat)) H') := by
  rw [vcall_go (fn := Tryz.f65) Tryz.func65 rfl (by kernel_rfl) rfl]
  have onv := And.intro hI.one' hI.cells
  have onu := And.intro hT.one' hT.cells
  simp [onv, onu, VM.look]
  obtain ⟨M, hM⟩ : ∃ M : Heap, M = [⟨[.int .i64 w, .int .i64 h, v], 0, 28⟩, ⟨[u], 0, 32⟩, ⟨[.func (.func 66) #[] #[.pointer (some ⟨r, 0, some 0⟩)]], 0, 89⟩] := ⟨_, rfl⟩
  rw [← hM]
  obtain ⟨bx1, bx2, bx3⟩ := bx
  have hrl := box_lt bx1
  have hxl := bx2.lt
  have hMl : M.length = 3 := by rw [hM]; rfl
  refine wp_thn (pairsB_w w h _ (Q := fun r' H' => r' = .bool true ∧ DI H r (ids x0) (walkAdj w h b T (allPairs (cnt w h).toNat (cnt w h).toNat)) H')
    (fun done H' => DI (H ++ M) r (ids x0) (walkAdj w h b T done) H') ?_ ?_ ?_) ?_
  · exact ⟨x0, ⟨get_app' (get_app' bx1 _) _, by simpa [walkAdj] using bx2.app.app, bx3⟩, fun i hi => .inl hi, Chg.app _⟩
  · rintro done a c H' ha hc hne hd di
    have hlen := walkAdj_len w h b T done
    simp
    refine (adjacent1_w w h v u b T (H ++ M) r H.length (H.length + 1) (H.length + 2) (ids x0) a c _ (hI.app _) (hT.app _) hl hz ha hc hne (hw a c ha hc) (by omega) (by simp [hM]) (by simp [hM]) (by simp [hM]) ?_ ?_ ?_ nv nu hr hf (by simp; omega) di).mono ?_
    · simp; exact ⟨by omega, fun hh => by have := hxl _ hh; omega⟩
    · simp; exact ⟨by omega, fun hh => by have := hxl _ hh; omega⟩
    · simp; exact ⟨by omega, fun hh => by have := hxl _ hh; omega⟩
    · rintro _ H2 ⟨rfl, di2⟩
      rw [walkAdj_snoc]
      exact ⟨rfl, di2⟩
  · intro H' di
    exact ⟨rfl, DI.trans (Chg.app _) (fun i hi => .inl hi) di⟩
  · rintro _ H' ⟨rfl, di⟩
    simp
    exact di
theorem walkN_chan {w h : Int} {b T : List Int} {to : Int} : ∀ (f : Nat) (a : Int) (out : List Int), isN w h a → (∀ x ∈ out, 0 ≤ x ∧ x < 64) → ∀ x ∈ walkN w h b T to f a out, 0 ≤ x ∧ x < 64 := by
  intro f
  induction f with
  | zero =>
    intro a out ha ho x hx
    simp only [walkN] at hx
    repeat' split at hx
    · exact ho x hx
    · simp at hx
    · simp at hx
  | succ f ih =>
    intro a out ha ho x hx
    simp only [walkN] at hx
    repeat' split at hx
    · exact ho x hx
    · simp at hx
    · rename_i hs
      refine ih _ _ (step_next hs.1 hs.2).2.2 (fun y hy => ?_) x hx
      rcases List.mem_append.1 hy with hy | hy
      · exact ho y hy
      · rw [List.mem_singleton.1 hy]
        have := hs.1; have := (isN_ok ha).2
        unfold inR at *
        omega
    · simp at hx
theorem walk_chan {w h : Int} {b T : List Int} {a to : Int} (ha : isN w h a) : ∀ x ∈ walk w h b T a to, 0 ≤ x ∧ x < 64 := walkN_chan _ _ _ ha (by simp)
/-- a new list -/
def MadeE (H : Heap) (xs : List Int) (r : Value) (H' : Heap) : Prop := OwE 88 H' r xs ∧ Chg H H' [] ∧ ∀ i ∈ ids r, H.length ≤ i
/-- what a table's walks want -/
noncomputable def depsOf (w h : Int) (b T : List Int) : List Int := if tableOk w h b T then arrK (walkAdj w h b T (allPairs (cnt w h).toNat (cnt w h).toNat)) else []
theorem dependsOf_w (w h : Int) (v u : Value) (b T : List Int) (hI : IsI H v b) (hT : IsI H u T) (hl : b.length ≤ 1073741824) (hF : frz ≤ H.length) :
   wp (vcall C frz 36 [.agg #[.int .i64 w, .int .i64 h, v], .agg #[u]] H) (MadeE H (depsOf w h b T)) := by
  rw [vcall_go (fn := Tryz.f36) Tryz.func36 rfl (by kernel_rfl) rfl]
  have onv := And.intro hI.one' hI.cells
  have onu := And.intro hT.one' hT.cells
  have nv := hI.rd.lt
  have nu := hT.rd.lt
  have tk := fun F => tableOk_c (frz := F) w h v u b T (hI.app [⟨[.int .i64 w, .int .i64 h, v], 0, 28⟩, ⟨[u], 0, 32⟩, ⟨[], 0, 88⟩, ⟨[.slice (some ⟨H.length + 2, 0, some 0⟩) 0 0], 0, 63⟩]) (hT.app _) hl
  simp [onv, onu, VM.look, tk]
  obtain ⟨M, hM⟩ : ∃ M : Heap, M = [⟨[.int .i64 w, .int .i64 h, v], 0, 28⟩, ⟨[u], 0, 32⟩, ⟨[], 0, 88⟩, ⟨[.slice (some ⟨H.length + 2, 0, some 0⟩) 0 0], 0, 63⟩] := ⟨_, rfl⟩
  have o0 : OwE 88 (H ++ M) (.slice (some ⟨H.length + 2, 0, some 0⟩) 0 0) [] := ⟨by rw [hM]; exact Ow.new (D := Fl.dep) (xs := []) (k := 2) rfl rfl rfl rfl, fun x hx => by simp at hx⟩
  have g0 : (H ++ M)[H.length + 3]? = some ⟨[.slice (some ⟨H.length + 2, 0, some 0⟩) 0 0], 0, 63⟩ := by rw [hM]; simp
  have b0 : (H ++ M)[H.length]? = some ⟨[.int .i64 w, .int .i64 h, v], 0, 28⟩ := by rw [hM]; simp
  have b1 : (H ++ M)[H.length + 1]? = some ⟨[u], 0, 32⟩ := by rw [hM]; simp
  rw [← hM]
  have hMl : M.length = 4 := by rw [hM]; rfl
  clear hM tk
  refine wp_dec ?_ ?_ <;> intro g
  · simp [VM.look, g0, b0, b1]
    refine wp_thn (adjacent_w w h v u b T (H.length + 3) (.slice (some ⟨H.length + 2, 0, some 0⟩) 0 0) (hI.app _) (hT.app _) hl g.1 (fun a c ha hc x hx => by have := walk_chan (b := b) (T := T) (isN_nat ha) (to := c) x hx; omega) ⟨g0, o0, by simp⟩ ?_ ?_ (by omega) (by simp) (by simp)) ?_
    · intro i hi hh; have := nv i hi; simp at hh; omega
    · intro i hi hh; have := nu i hi; simp at hh; omega
    rintro _ H1 ⟨x, ⟨bx1, bx2, bx3⟩, nx, ch⟩
    have hlen := walkAdj_len w h b T (allPairs (cnt w h).toNat (cnt w h).toNat)
    have hpl := allPairs_len (cnt w h).toNat (cnt w h).toNat
    have hcn : (cnt w h).toNat * (cnt w h).toNat ≤ 16 * 16 := Nat.mul_le_mul (by have := cnt_range w h; omega) (by have := cnt_range w h; omega)
    have nxx : ∀ i ∈ ids x, H.length ≤ i := fun i hi => by
      rcases nx i hi with q | q
      · simp at q; omega
      · simp at q; omega
    have c1 := ch.1
    simp at c1
    simp [VM.look, bx1]
    refine wp_thn (arranged_e x _ bx2 (by omega) nxx (by omega)) ?_
    rintro u2 H2 ⟨o2, n2, c2⟩
    simp
    have : depsOf w h b T = arrK (walkAdj w h b T (allPairs (cnt w h).toNat (cnt w h).toNat)) := by rw [depsOf, if_pos g]
    rw [← this] at o2
    refine ⟨o2, ?_, fun i hi => nxx i (n2 i hi)⟩
    refine (((Chg.app (H := H) (L := M) []).trans' ch (fun i hi => .inr ?_)).trans' c2 fun i hi => .inr (nxx i hi))
    simp at hi; omega
  · simp [VM.look, g0]
    rw [depsOf, if_neg g]
    exact ⟨o0, Chg.app _, by simp⟩
end Go.Proofs.YtlbbalmeaedbdaaGreat.V
/-! Lists of dependencies: valid, put, merged, shifted. -/
set_option linter.all false
namespace Go.Proofs.YtlbbalmeaedbdaaGreat.V
open Go Go.VM Go.Proofs
set_option maxRecDepth 10000
variable {frz : Nat} {H : Heap} {v : Value} {xs ys : List Int} {e : TypeId}
@[simp] theorem dv_cells (x : Int) : (dv x).cells = #[.int .i64 (x / 1024), .int .i64 (x % 1024)] := rfl
theorem dv_fold (x : Int) : Value.agg #[.int .i64 (x / 1024), .int .i64 (x % 1024)] = dv x := rfl
@[simp] theorem cmpZ_ge (x y : Int) : 0 ≤ cmpZ x y ↔ y ≤ x := by unfold cmpZ; split <;> omega
def dAt (xs : List Int) (j : Nat) : Prop := (G xs j / 1024 ≤ 127 ∧ G xs j % 1024 ≤ 127) ∧ (0 < j → G xs (j - 1) < G xs j)
instance (xs : List Int) (j : Nat) : Decidable (dAt xs j) := inferInstanceAs (Decidable (_ ∧ _))
/-- the list is valid -/
def dOk (xs : List Int) : Prop := ∀ j, j < xs.length → dAt xs j
instance (xs : List Int) : Decidable (dOk xs) := inferInstanceAs (Decidable (∀ j, _ → _))
theorem dOk_asc (h : dOk xs) : xs.Pairwise (· < ·) := by
  have h1 : ∀ d i : Nat, i + (d + 1) < xs.length → G xs i < G xs (i + (d + 1)) := by
    intro d
    induction d with
    | zero => intro i hi; exact (h (i + 1) hi).2 (by omega)
    | succ d ih =>
      intro i hi
      have q1 := ih i (by omega)
      have q2 := (h (i + (d + 1 + 1)) hi).2 (by omega)
      rw [show i + (d + 1 + 1) - 1 = i + (d + 1) by omega] at q2
      omega
  rw [List.pairwise_iff_getElem]
  intro i j hi hj hij
  have := h1 (j - i - 1) i (by omega)
  rw [show i + (j - i - 1 + 1) = j by omega, G_get hi, G_get hj] at this
  exact this
theorem dOk_of (h : xs.Pairwise (· < ·)) (hs : ∀ x ∈ xs, x / 1024 ≤ 127 ∧ x % 1024 ≤ 127) : dOk xs := fun j hj => by
  refine ⟨?_, fun h0 => ?_⟩
  · rw [G_get hj]; exact hs _ (List.getElem_mem hj)
  · rw [G_get hj, G_get (by omega : j - 1 < xs.length)]
    exact List.pairwise_iff_getElem.1 h _ _ _ _ (by omega)
theorem dOk_small (h : dOk xs) : ∀ x ∈ xs, x / 1024 ≤ 127 ∧ x % 1024 ≤ 127 := fun x hx => by
  obtain ⟨j, hj, rfl⟩ := List.mem_iff_getElem.1 hx
  have := (h j hj).1
  rwa [G_get hj] at this
theorem rw_ix (o : OwE e H v xs) {i : Nat} (h1 : i < xs.length) : ∀ L, vindexAddr Tryz.prog (H ++ L) 63 v (.int .i64 i) = some (elp v (i * 2)) ∧ vload Tryz.prog (H ++ L) 88 (elp v (i * 2)) = some (dv (G xs i)) := fun L => ⟨dw_ix o.app h1, dw_ld o.app h1⟩
theorem dependsOk_w (v : Value) (xs : List Int) (h : OwE e H v xs) (hl : xs.length ≤ 1073741824) : wp (vcall C frz 83 [v] H) (fun r _ => r = .bool (decide (dOk xs))) := by
  rw [vcall_go (fn := Tryz.f83) Tryz.func83 rfl (by kernel_rfl) rfl]
  simp [h.rd.len]
  refine wp_inv (fun n t H' => ∃ i : Nat, n = xs.length - i ∧ i ≤ xs.length ∧ t 0 = v ∧ t 5 = v ∧ t 6 = .int .i64 xs.length ∧ t 7 = .int .i64 i ∧ (∃ L, H' = H ++ L) ∧ ∀ j, j < i → dAt xs j) ?_ (n := xs.length)
    ⟨0, by simp, by omega, by simp, by simp, by simp, by simp, ⟨[], by simp⟩, fun j hj => by omega⟩
  rintro n t H' ⟨i, rfl, hi, t0, t5, t6, t7, ⟨L, rfl⟩, hd⟩ ih
  simp [t0, t5, t6, t7]
  refine wp_dec ?_ ?_ <;> intro hlt
  · have b := h.2.G i
    have b1 := b.1; have b2 := b.2
    have p1 := rw_ix h hlt
    simp [t0, t5, t6, t7, p1]
    rw [go_draw (h := by kernel_rfl)]
    have e1 : 0 < i → ∀ [Inhabited Unit], IntKind.i64.wrap ((i : Int) - 1) = ((i - 1 : Nat) : Int) := by intro _ _; rw [w64 (by omega) (by omega)]; omega
    have p2 : 0 < i → ∀ L, vindexAddr Tryz.prog (H ++ L) 63 v (.int .i64 (i - 1 : Nat)) = some (elp v ((i - 1) * 2)) ∧ vload Tryz.prog (H ++ L) 88 (elp v ((i - 1) * 2)) = some (dv (G xs (i - 1))) := fun h0 L => rw_ix h (by omega) L
    have cc := fun F K (j k : Nat) => compare_c (frz := F) (H := K) (G xs j) (G xs k) (h.2.G j) (h.2.G k)
    have yes := fun (t' : Env) (L' : Heap) (x0 : t' 0 = v) (x5 : t' 5 = v) (x6 : t' 6 = .int .i64 xs.length) (x7 : t' 7 = .int .i64 (i + 1 : Nat)) (hq : dAt xs i) =>
      ih (xs.length - (i + 1)) t' (H ++ L') ⟨i + 1, rfl, by omega, x0, x5, x6, x7, ⟨L', rfl⟩, fun j hj => by
        by_cases hji : j < i
        · exact hd j hji
        · rw [show j = i by omega]; exact hq⟩ (by omega)
    have w1 : IntKind.i64.wrap ((i : Int) + 1) = ((i + 1 : Nat) : Int) := by rw [w64 (by omega) (by omega)]; omega
    simp [t0, t5, t6, t7, p1, VM.look, inside_c, dv_fold]
    refine wpg_dec ?_ ?_ <;> intro g1 <;> simp [t0, t5, t6, t7, p1, VM.look, inside_c, dv_fold, g1]
    · refine wpg_dec ?_ ?_ <;> intro g2 <;> simp [t0, t5, t6, t7, p1, VM.look, inside_c, dv_fold, g1, g2]
      · have g12 : G xs i / 1024 ≤ 127 ∧ G xs i % 1024 ≤ 127 := ⟨g1.2, g2.2⟩
        refine wpg_dec ?_ ?_ <;> intro g3 <;> simp [t0, t5, t6, t7, p1, VM.look, inside_c, dv_fold, g1, g2, g3]
        · have g3' : 0 < i := by omega
          have e1 := fun [Inhabited Unit] => e1 g3'
          have p2 := p2 g3'
          simp [t0, t5, t6, t7, p1, VM.look, inside_c, dv_fold, g1, g2, g3, e1, p2, cc]
          refine wp_dec ?_ ?_ <;> intro g4 <;> simp [t0, t5, t6, t7]
          · intro hh; have := (hh i hlt).2 g3'; omega
          · refine yes _ _ ?_ ?_ ?_ ?_ ⟨g12, fun _ => by omega⟩ <;> simp [t0, t5, t6, w1]
        · refine yes _ _ ?_ ?_ ?_ ?_ ⟨g12, fun _ => by omega⟩ <;> simp [t0, t5, t6, w1]
      · intro hh; have := (hh i hlt).1; exact g2 ⟨by omega, this.2⟩
    · intro hh; have := (hh i hlt).1; exact g1 ⟨by omega, this.1⟩
  · simp
    have : i = xs.length := by omega
    subst this
    exact hd
theorem dependsOk_c (v : Value) (xs : List Int) (h : OwE e H v xs) (hl : xs.length ≤ 1073741824) : vcall C frz 83 [v] H = some (.bool (decide (dOk xs)), H) := (dependsOk_w v xs h hl).exact (by simp) rfl
theorem insK_at {k : Int} {j : Nat} (hs : xs.Pairwise (· < ·)) (hj : j ≤ xs.length) (h1 : j = 0 ∨ (0 < j ∧ G xs (j - 1) ≤ k)) (h2 : ∀ i, j ≤ i → i < xs.length → k < G xs i) :
    insK k xs = if 0 < j ∧ G xs (j - 1) = k then xs else xs.take j ++ ([k] ++ xs.drop j) := by
  have lo : ∀ x ∈ xs.take j, x ≤ k ∧ (¬ (0 < j ∧ G xs (j - 1) = k) → x < k) := fun x hx => by
    obtain ⟨i, hi, rfl⟩ := List.mem_iff_getElem.1 hx
    simp at hi
    rw [List.getElem_take]
    rcases h1 with h1 | ⟨h1, h3⟩
    · omega
    · rw [G_get (by omega : j - 1 < xs.length)] at h3 ⊢
      by_cases e : i = j - 1
      · subst e; exact ⟨h3, fun hh => by omega⟩
      · have := List.pairwise_iff_getElem.1 hs i (j - 1) (by omega) (by omega) (by omega)
        exact ⟨by omega, fun _ => by omega⟩
  have hi : ∀ x ∈ xs.drop j, k < x := fun x hx => by
    obtain ⟨i, hi, rfl⟩ := List.mem_iff_getElem.1 hx
    simp at hi
    rw [List.getElem_drop, ← G_get (by omega : j + i < xs.length)]
    exact h2 _ (by omega) (by omega)
  split
  · rename_i g
    refine strict_ext (insK_asc k xs hs) hs fun x => ?_
    rw [mem_insK]
    refine ⟨fun hh => hh.elim (fun e => ?_) id, .inr⟩
    rw [e, ← g.2, G_get (by omega : j - 1 < xs.length)]
    exact List.getElem_mem _
  · rename_i g
    refine strict_ext (insK_asc k xs hs) ?_ fun x => ?_
    · rw [List.pairwise_append]
      refine ⟨hs.sublist (List.take_sublist ..), ?_, fun x hx y hy => ?_⟩
      · simp only [List.cons_append, List.nil_append]
        exact List.pairwise_cons.2 ⟨hi, hs.sublist (List.drop_sublist ..)⟩
      · have := (lo x hx).2 g
        rcases List.mem_append.1 hy with hy | hy
        · rw [List.mem_singleton.1 hy]; exact this
        · have := hi y hy; omega
    · rw [mem_insK]
      have e : x ∈ xs ↔ x ∈ xs.take j ∨ x ∈ xs.drop j := by rw [← List.mem_append, List.take_append_drop]
      rw [e, List.mem_append, List.mem_append, List.mem_singleton]
      constructor
      · rintro (h | h | h)
        · exact .inr (.inl h)
        · exact .inl h
        · exact .inr (.inr h)
      · rintro (h | h | h)
        · exact .inr (.inl h)
        · exact .inl h
        · exact .inr (.inr h)
theorem ones_dep (xs : List Int) : ones (cellsOf Fl.dep xs) = true := by
  induction xs with
  | nil => rfl
  | cons a l ih => rw [cellsOf_cons, ones_app, ih]; rfl
end Go.Proofs.YtlbbalmeaedbdaaGreat.V
/-! Lists of dependencies: shifted, merged. -/
set_option linter.all false
namespace Go.Proofs.YtlbbalmeaedbdaaGreat.V
open Go Go.VM Go.Proofs
set_option maxRecDepth 10000
variable {frz : Nat} {H : Heap} {v : Value} {xs ys : List Int} {e : TypeId}
def shiftK (b : Int) (xs : List Int) : List Int := xs.map (· + 1025 * b)
noncomputable def shiftOf (b : Int) (xs : List Int) : List Int := if dOk xs then (if dOk (shiftK b xs) then shiftK b xs else []) else []
theorem shiftOf_len (y : Int) (xs : List Int) : (shiftOf y xs).length ≤ xs.length := by
  unfold shiftOf shiftK; repeat' split
  all_goals simp
theorem shift_at {b : Int} (hb : 0 ≤ b ∧ b ≤ 64) (hd : dOk xs) {i : Nat} (hi : i < xs.length) (h0 : KB (G xs i)) : CB (G xs i / 1024 + b) (G xs i % 1024 + b) ∧ key (G xs i / 1024 + b) (G xs i % 1024 + b) = G xs i + 1025 * b := by
  have := (hd i hi).1
  have := h0.1
  unfold CB key
  omega
theorem shift_take (b : Int) {i : Nat} (hi : i < xs.length) : shiftK b (xs.take (i + 1)) = shiftK b (xs.take i) ++ [G xs i + 1025 * b] := by
  rw [take_G hi]; simp [shiftK]
theorem shift_Bd {b : Int} (hb : 0 ≤ b ∧ b ≤ 64) (h : Bd xs) (hd : dOk xs) : Bd (shiftK b xs) := fun x hx => by
  obtain ⟨y, hy, rfl⟩ := List.mem_map.1 hx
  have h1 := h y hy
  have h2 := dOk_small hd y hy
  unfold KB at *
  omega
theorem shift_w (v : Value) (xs : List Int) (b : Int) (h : OwE e H v xs) (hb : 0 ≤ b ∧ b ≤ 64) (hl : xs.length ≤ 1048576) (hF : frz ≤ H.length) : wp (vcall C frz 70 [v, .int .i64 b] H) (MadeE H (shiftOf b xs)) := by
  rw [vcall_go (fn := Tryz.f70) Tryz.func70 rfl (by kernel_rfl) rfl]
  have nil : MadeE H [] (.slice none 0 0) H := ⟨⟨.inl ⟨rfl, rfl⟩, fun x hx => by simp at hx⟩, Chg.refl _, by simp⟩
  have hin : inR (-1000) b 1000 := ⟨by omega, by omega⟩
  simp [dependsOk_c v xs h (by omega), inside_c, hin]
  refine wpg_dec ?_ ?_ <;> intro g1
  · simp [g1, inside_c, hin, h.rd.len]
    have o0 : OwE 88 (H ++ [⟨[], 0, 88⟩]) (.slice (some ⟨H.length, 0, some 0⟩) 0 0) [] := ⟨Ow.new0 (D := Fl.dep) (xs := []) rfl rfl rfl rfl, fun x hx => by simp at hx⟩
    have lenA := fun L => (h.app (L := L)).rd.len (P := Tryz.prog) (ty := 63) (by simp)
    simp [lenA]
    refine wp_inv (fun n t H' => ∃ (i : Nat) (r : Value), n = xs.length - i ∧ i ≤ xs.length ∧ t 0 = v ∧ t 1 = .int .i64 b ∧ t 5 = r ∧ t 17 = v ∧ t 18 = .int .i64 xs.length ∧ t 19 = .int .i64 i ∧ OwE 88 H' r (shiftK b (xs.take i)) ∧ (∀ j ∈ ids r, H.length ≤ j) ∧ Chg H H' []) ?_ (n := xs.length)
      ⟨0, _, by simp, by omega, by simp, by simp, by simp, by simp, by simp, by simp, o0, by simp, Chg.app _⟩
    rintro n t H' ⟨i, r, rfl, hi, t0, t1, t5, t17, t18, t19, o, nr, ch⟩ ih
    simp [t0, t1, t5, t17, t18, t19]
    refine wp_dec ?_ ?_ <;> intro hlt
    · have hH' := h.chg ch (by simp)
      have p1 := rw_ix hH' hlt []
      simp only [List.append_nil] at p1
      obtain ⟨s1, s2⟩ := shift_at hb g1 hlt (h.2.G i)
      have hlr : (shiftK b (xs.take i)).length = i := by simp [shiftK]; omega
      obtain ⟨r2, H2, hap, o2, c2, n2⟩ := dw_push (frz := H.length) (o.app (L := [⟨[.int .i64 (G xs i / 1024), .int .i64 (G xs i % 1024)], 0, 88⟩])) s1 (by rw [hlr]; omega) nr
      rw [s2, ← shift_take b hlt] at o2
      have e1 : ∀ [Inhabited Unit], IntKind.i64.wrap (G xs i / 1024 + b) = G xs i / 1024 + b := by intro _; have := s1.1; exact w64 (by omega) (by omega)
      have e2 : ∀ [Inhabited Unit], IntKind.i64.wrap (G xs i % 1024 + b) = G xs i % 1024 + b := by intro _; have := s1.2; exact w64 (by omega) (by omega)
      have l1 := ch.1
      simp at hap
      simp [t0, t1, t5, t17, t18, t19, p1, VM.look, e1, e2, hap, l1]
      refine ih (xs.length - (i + 1)) _ _ ⟨i + 1, r2, rfl, by omega, by simp [t0], by simp [t1], by simp, by simp [t17], by simp [t18], ?_, o2, fun j hj => ?_, (ch.trans (Chg.app [])).trans' c2 (fun j hj => .inr (nr j hj))⟩ (by omega)
      · simp; rw [w64 (by omega) (by omega)]
      · rcases n2 j hj with q | q
        · exact nr j q
        · simp at q; omega
    · have hin : i = xs.length := by omega
      rw [hin, List.take_length] at o
      have hlr : (shiftK b xs).length = xs.length := by simp [shiftK]
      simp [t0, t1, t5, dependsOk_c r _ o (by omega)]
      refine wp_dec ?_ ?_ <;> intro g2
      · simp [t5]
        rw [shiftOf, if_pos g1, if_pos g2]
        exact ⟨o, ch, nr⟩
      · simp
        rw [shiftOf, if_pos g1, if_neg g2]
        exact ⟨⟨.inl ⟨rfl, rfl⟩, fun x hx => by simp at hx⟩, ch, by simp⟩
  · simp [g1]
    rw [shiftOf, if_neg g1]
    exact nil
theorem insK_len (k : Int) : ∀ l : List Int, (insK k l).length ≤ l.length + 1
  | [] => by simp [insK]
  | a :: l => by
    have := insK_len k l
    unfold insK
    repeat' split
    all_goals simp
    omega
theorem fold_len : ∀ (l s : List Int), (l.foldl (fun s k => insK k s) s).length ≤ s.length + l.length
  | [], s => by simp
  | k :: l, s => by
    have := fold_len l (insK k s)
    have := insK_len k s
    simp only [List.foldl_cons, List.length_cons]
    omega
/-- two lists in one -/
noncomputable def mergeOf (xs ys : List Int) : List Int := if dOk xs then (if dOk ys then arrK (xs ++ ys) else []) else []
end Go.Proofs.YtlbbalmeaedbdaaGreat.V
/-! What unicasts cost. -/
set_option linter.all false
namespace Go.Proofs.YtlbbalmeaedbdaaGreat.V
open Go Go.VM Go.Proofs
set_option maxRecDepth 10000
variable {frz : Nat} {H : Heap}
def castOk (w h : Int) (b T : List Int) (a : Int) (ts : List Int) : Prop := tableOk w h b T ∧ isN w h a ∧ ∀ x ∈ ts, isN w h x
instance (w h : Int) (b T : List Int) (a : Int) (ts : List Int) : Decidable (castOk w h b T a ts) := inferInstanceAs (Decidable (_ ∧ _))
/-- what single packets to all targets cost -/
def cost (w h : Int) (b T : List Int) (a : Int) (ts : List Int) : Nat := (ts.map fun x => (walk w h b T a x).length).sum
theorem walk_len (w h : Int) (b T : List Int) (a to : Int) : (walk w h b T a to).length ≤ 16 := by
  have := walkN_len w h b T to (cnt w h).toNat a []
  have hc := cnt_range w h
  simp only [walk] at *
  simp at this; omega
theorem cost_succ {w h : Int} {b T : List Int} {a : Int} {ts : List Int} {i : Nat} (hi : i < ts.length) : cost w h b T a (ts.take (i + 1)) = cost w h b T a (ts.take i) + (walk w h b T a ts[i]).length := by
  unfold cost
  rw [List.take_succ_eq_append_getElem hi, List.map_append, List.sum_append]; simp
theorem cost_le (w h : Int) (b T : List Int) (a : Int) (ts : List Int) : cost w h b T a ts ≤ 16 * ts.length := by
  unfold cost
  induction ts with
  | nil => simp
  | cons x ts ih =>
    have := walk_len w h b T a x
    simp only [List.map_cons, List.sum_cons, List.length_cons]; omega
theorem walk_selfT {w h : Int} {b T : List Int} {a : Int} (ht : tableOk w h b T) (ha : isN w h a) : walk w h b T a a = [] := by
  obtain ⟨a0, a1⟩ := ha
  have := (ht.2 a.toNat (by omega) a.toNat (by omega)).1 rfl
  rw [show ((a.toNat : Nat) : Int) = a by omega] at this
  unfold walk
  cases (cnt w h).toNat <;> simp [walkN, this]
theorem walkT_c (w h : Int) (v u : Value) (b T : List Int) (a to : Int) (hI : IsI H v b) (hT : IsI H u T) (hl : b.length ≤ 1073741824) (hz : tableOk w h b T) (ha : isN w h a) (hto : isN w h to) :
   vcall C frz 31 [.agg #[.int .i64 w, .int .i64 h, v], .agg #[u], .int .i64 a, .int .i64 to] H = some (ret H (walk w h b T a to)) := by
  by_cases hne : a = to
  · subst hne
    rw [walk_selfT hz ha, vcall_go (fn := Tryz.f31) Tryz.func31 rfl (by kernel_rfl) rfl]
    simp [hI.one', hI.cells, hT.one', hT.cells, ret]
  · exact walk_c w h v u b T a to hI hT hl hz.1 ha hto hne
end Go.Proofs.YtlbbalmeaedbdaaGreat.V
/-! Latency without load; requests and replies. -/
set_option linter.all false
namespace Go.Proofs.YtlbbalmeaedbdaaGreat.V
open Go Go.VM Go.Proofs
set_option maxRecDepth 10000
variable {frz : Nat} {H : Heap}
def classesOk (w h : Int) (b A B : List Int) : Prop := tableOk w h b A ∧ tableOk w h b B
instance (w h : Int) (b A B : List Int) : Decidable (classesOk w h b A B) := inferInstanceAs (Decidable (_ ∧ _))
/-- a packet: its number, whence, whither, class, length -/
abbrev PkD := Int × Int × Int × Int × Int
def packetOk (w h : Int) (p : PkD) : Prop := inR 1 p.1 9999 ∧ isN w h p.2.1 ∧ isN w h p.2.2.1 ∧ p.2.1 ≠ p.2.2.1 ∧ inR 0 p.2.2.2.1 1 ∧ inR 1 p.2.2.2.2 5
instance (w h : Int) (p : PkD) : Decidable (packetOk w h p) := inferInstanceAs (Decidable (_ ∧ _))
def pkV (p : PkD) : Value := .agg #[.int .i64 p.1, .int .i64 p.2.1, .int .i64 p.2.2.1, .int .i64 p.2.2.2.1, .int .i64 p.2.2.2.2]
theorem classesOk_c (w h : Int) (v u1 u2 : Value) (b A B : List Int) (hI : IsI H v b) (h1 : IsI H u1 A) (h2 : IsI H u2 B) (hl : b.length ≤ 1073741824) :
   vcall C frz 17 [.agg #[.int .i64 w, .int .i64 h, v], .agg #[u1, u2]] H = some (.bool (decide (classesOk w h b A B)), H) := by
  rw [vcall_go (fn := Tryz.f17) Tryz.func17 rfl (by kernel_rfl) rfl]
  have one := And.intro (And.intro h1.one' h1.cells) (And.intro h2.one' h2.cells)
  simp [hI.one', hI.cells, one, tableOk_c _ _ _ _ _ _ (hI.app _) (h1.app _) hl]
  refine gd_dec _ _ ?_ ?_ <;> intro g <;> simp [g, classesOk, hI.one', hI.cells, one, tableOk_c _ _ _ _ _ _ (hI.app _) (h2.app _) hl]
def zeroLoad (w h : Int) (b A B : List Int) (p : PkD) : Int :=
  if classesOk w h b A B ∧ packetOk w h p then ((walk w h b (if p.2.2.2.1 = 1 then B else A) p.2.1 p.2.2.1).length : Int) + p.2.2.2.2 + 1 else -1
theorem zeroLoad_range (w h : Int) (b A B : List Int) (p : PkD) : -1 ≤ zeroLoad w h b A B p ∧ zeroLoad w h b A B p ≤ 100 := by
  unfold zeroLoad; split
  · rename_i g
    have h1 := g.2.2.2.2.2.2
    have := walk_len w h b (if p.2.2.2.1 = 1 then B else A) p.2.1 p.2.2.1
    unfold inR at h1; omega
  · omega
/-- a request and its reply -/
def replyTime (w h : Int) (b A B : List Int) (p : PkD) (n : Int) : Int :=
  if zeroLoad w h b A B p < 0 ∨ zeroLoad w h b A B (p.1, p.2.2.1, p.2.1, IntKind.i64.wrap (1 - p.2.2.2.1), n) < 0 then -1 else zeroLoad w h b A B p + zeroLoad w h b A B (p.1, p.2.2.1, p.2.1, IntKind.i64.wrap (1 - p.2.2.2.1), n)
theorem zeroLoad_id {w h : Int} {b A B : List Int} {i j a c k l : Int} (h1 : inR 1 i 9999) (h2 : inR 1 j 9999) : zeroLoad w h b A B (i, a, c, k, l) = zeroLoad w h b A B (j, a, c, k, l) := by
  unfold zeroLoad packetOk
  simp only [h1, h2]
end Go.Proofs.YtlbbalmeaedbdaaGreat.V
