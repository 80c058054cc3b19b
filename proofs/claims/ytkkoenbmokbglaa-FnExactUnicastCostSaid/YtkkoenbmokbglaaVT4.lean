import Derived.Test.YtkkoenbmokbglaaVT3
/-! What unicasts cost. -/
set_option linter.all false
namespace Go.Proofs.Ytkkoenbmokbglaa.V
open Go Go.VM Go.Proofs
set_option maxRecDepth 10000
variable {frz : Nat} {H : Heap}
def castOk (w h : Int) (b T : List Int) (a : Int) (ts : List Int) : Prop := tableOk w h b T ∧ isN w h a ∧ ∀ x ∈ ts, isN w h x
instance (w h : Int) (b T : List Int) (a : Int) (ts : List Int) : Decidable (castOk w h b T a ts) := inferInstanceAs (Decidable (_ ∧ _))
/-- what single packets to all targets cost -/
def cost (w h : Int) (b T : List Int) (a : Int) (ts : List Int) : Nat := (ts.map fun x => (walk w h b T a x).length).sum
theorem walk_len (w h : Int) (b T : List Int) (a to : Int) : (walk w h b T a to).length ≤ 16 := by
  have := walkN_len w h b T to (cnt w h).toNat a []
  have hc := cnt_range w h
  simp only [walk] at *
  simp at this; omega
theorem cost_succ {w h : Int} {b T : List Int} {a : Int} {ts : List Int} {i : Nat} (hi : i < ts.length) : cost w h b T a (ts.take (i + 1)) = cost w h b T a (ts.take i) + (walk w h b T a ts[i]).length := by
  unfold cost
  rw [List.take_succ_eq_append_getElem hi, List.map_append, List.sum_append]; simp
theorem cost_le (w h : Int) (b T : List Int) (a : Int) (ts : List Int) : cost w h b T a ts ≤ 16 * ts.length := by
  unfold cost
  induction ts with
  | nil => simp
  | cons x ts ih =>
    have := walk_len w h b T a x
    simp only [List.map_cons, List.sum_cons, List.length_cons]; omega
theorem walk_self {w h : Int} {b T : List Int} {a : Int} (ht : tableOk w h b T) (ha : isN w h a) : walk w h b T a a = [] := by
  obtain ⟨a0, a1⟩ := ha
  have := (ht.2 a.toNat (by omega) a.toNat (by omega)).1 rfl
  rw [show ((a.toNat : Nat) : Int) = a by omega] at this
  unfold walk
  cases (cnt w h).toNat <;> simp [walkN, this]
theorem walkT_c (w h : Int) (v u : Value) (b T : List Int) (a to : Int) (hI : IsI H v b) (hT : IsI H u T) (hl : b.length ≤ 1073741824) (hz : tableOk w h b T) (ha : isN w h a) (hto : isN w h to) :
   vcall C frz 60 [.agg #[.int .i64 w, .int .i64 h, v], .agg #[u], .int .i64 a, .int .i64 to] H = some (ret H (walk w h b T a to)) := by
  by_cases hne : a = to
  · subst hne
    rw [walk_self hz ha, vcall_go (fn := Try.f60) Try.func60 rfl (by kernel_rfl) rfl]
    simp [hI.one', hI.cells, hT.one', hT.cells, ret]
  · exact walk_c w h v u b T a to hI hT hl hz.1 ha hto hne
theorem canCast_c (w h : Int) (v u s : Value) (b T ts : List Int) (a : Int) (hI : IsI H v b) (hT : IsI H u T) (hS : IsI H s ts) (hl : b.length ≤ 1073741824) (hs : ts.length ≤ 1073741824) :
   vcall C frz 59 [.agg #[.int .i64 w, .int .i64 h, v], .agg #[u], .int .i64 a, s] H = some (.bool (decide (castOk w h b T a ts)), H) := by
  rw [vcall_go (fn := Try.f59) Try.func59 rfl (by kernel_rfl) rfl]
  simp [hI.one', hI.cells, hT.one', hT.cells, tableOk_c _ _ _ _ _ _ (hI.app _) (hT.app _) hl]
  refine gd_dec _ _ ?_ ?_ <;> intro h1 <;> simp [h1, isNode_c, castOk, hI.one', hI.cells]
  refine gd_dec _ _ ?_ ?_ <;> intro h2 <;> simp [h2, nodeCount_c, hI.one', hI.cells, areInside_c _ _ _ _ (hS.app _) hs, isN_inR]
theorem l35Ok_c (w h : Int) (v u s : Value) (b T ts : List Int) (a : Int) (hI : IsI H v b) (hT : IsI H u T) (hS : IsI H s ts) (hl : b.length ≤ 1073741824) (hs : ts.length ≤ 1073741824) :
   vcall C frz 56 [.agg #[.int .i64 w, .int .i64 h, v], .agg #[u], .int .i64 a, s] H = some (.bool (decide (castOk w h b T a ts)), H) := by
  rw [vcall_go (fn := Try.f56) Try.func56 rfl (by kernel_rfl) rfl]
  simp [hI.one', hI.cells, hT.one', hT.cells]
  refine go_inv (fun n t H' => ∃ (i : Nat), n = ts.length - i ∧ i ≤ ts.length ∧ t 2 = .int .i64 a ∧ t 3 = s ∧ t 4 = .pointer (some ⟨H.length, 0, some 0⟩) ∧ t 5 = .pointer (some ⟨H.length + 1, 0, some 0⟩) ∧ t 9 = .int .i64 i ∧
    H' = H ++ [⟨[.int .i64 w, .int .i64 h, v], 0, 34⟩, ⟨[u], 0, 36⟩] ∧ ∀ x ∈ ts.take i, isN w h x) ?_ (n := ts.length) ⟨0, by simp⟩
  rintro n t H' ⟨i, rfl, hi, h2, h3, h4, h5, h9, rfl, hk⟩ ih
  simp [h2, h3, h4, h5, h9, hS.lenA]
  refine br_dec _ ?_ ?_ <;> intro hlt
  · simp [h2, h3, h4, h5, h9, hlt, hI.one', hI.cells, hT.one', hT.cells, hS.idxA, hS.loadA, getD_get, l02Has_c]
    try rw [go_draw (h := by kernel_rfl)]
    try simp [h2, h3, h4, h5, h9, hlt, hI.one', hI.cells, hT.one', hT.cells, hS.idxA, hS.loadA, getD_get, l02Has_c]
    refine br_dec _ ?_ ?_ <;> intro hx
    · simp [h2, h3, h4, h5, h9, hlt, hx]
      refine ih (ts.length - (i + 1)) _ _ ⟨i + 1, rfl, by omega, by simp [h2], by simp [h3], by simp [h4], by simp [h5], ?_, rfl, fun x hx' => ?_⟩ (by omega)
      · simp; rw [w64 (by omega) (by omega)]
      · rw [List.take_succ_eq_append_getElem hlt] at hx'
        rcases List.mem_append.1 hx' with hx' | hx'
        · exact hk x hx'
        · rw [List.mem_singleton.1 hx']; exact hx
    · simp [h2, h3, h4, h5, h9, hlt, hx]
      exact fun hh => hx (hh.2.2 _ (List.getElem_mem hlt))
  · have : i = ts.length := by omega
    subst this
    rw [List.take_length] at hk
    simp [h2, h3, h4, h5, h9, hlt, hI.one', hI.cells, hT.one', hT.cells, sTableOk_c _ _ _ _ _ _ (hI.app _) (hT.app _) hl]
    refine gd_dec _ _ ?_ ?_ <;> intro h1 <;> simp [h2, h3, h4, h5, h9, h1, l02Has_c, castOk, hI.one', hI.cells]
    exact fun _ => hk
theorem unicast_c (w h : Int) (v u s : Value) (b T ts : List Int) (a : Int) (hI : IsI H v b) (hT : IsI H u T) (hS : IsI H s ts) (hl : b.length ≤ 1073741824) (hs : ts.length ≤ 1073741824) :
   vcall C frz 19 [.agg #[.int .i64 w, .int .i64 h, v], .agg #[u], .int .i64 a, s] H = some (.int .i64 (if castOk w h b T a ts then cost w h b T a ts else -1), H) := by
  rw [vcall_go (fn := Try.f19) Try.func19 rfl (by kernel_rfl) rfl]
  simp [hI.one', hI.cells, hT.one', hT.cells, canCast_c _ _ _ _ _ _ _ _ _ (hI.app _) (hT.app _) (hS.app _) hl hs]
  refine br_dec _ ?_ ?_ <;> intro h1 <;> simp [h1, hS.lenA]
  · refine go_inv (fun n t H' => ∃ (i : Nat) (G : Heap), n = ts.length - i ∧ i ≤ ts.length ∧ t 2 = .int .i64 a ∧ t 18 = s ∧ t 19 = .int .i64 ts.length ∧ t 20 = .int .i64 i ∧ t 4 = .pointer (some ⟨H.length, 0, some 0⟩) ∧ t 5 = .pointer (some ⟨H.length + 1, 0, some 0⟩) ∧ t 9 = .int .i64 (cost w h b T a (ts.take i)) ∧
      H' = H ++ ⟨[.int .i64 w, .int .i64 h, v], 0, 34⟩ :: ⟨[u], 0, 36⟩ :: G) ?_ (n := ts.length) ⟨0, [], by simp [cost]⟩
    rintro n t H' ⟨i, G, rfl, hi, x1, x2, x3, x4, h4, h5, h9, rfl⟩ ih
    have hcl := cost_le w h b T a (ts.take i)
    simp [x1, x2, x3, x4, h4, h5, h9, hS.lenA]
    refine br_dec _ ?_ ?_ <;> intro hlt
    · have hx : isN w h ts[i] := h1.2.2 _ (List.getElem_mem hlt)
      have hwl := walk_len w h b T a ts[i]
      have htl : (ts.take i).length ≤ 1073741824 := by simp; omega
      have e1 : IntKind.i64.wrap ((cost w h b T a (ts.take i) : Int) + ((walk w h b T a ts[i]).length : Nat)) = (cost w h b T a (ts.take (i + 1)) : Nat) := by
        rw [cost_succ hlt, w64 (by omega) (by omega)]; omega
      have ws := fun F L => walkT_c (frz := F) (H := H ++ L) w h v u b T a ts[i] (hI.app _) (hT.app _) hl h1.1 h1.2.1 hx
      simp [x1, x2, x3, x4, h4, h5, h9, hlt, hI.one', hI.cells, hT.one', hT.cells, hS.idxA, hS.loadA, getD_get, ws]
      by_cases hw : walk w h b T a ts[i] = []
      · have e2 : IntKind.i64.wrap (cost w h b T a (ts.take i) : Int) = (cost w h b T a (ts.take (i + 1)) : Nat) := by rw [← e1, hw]; simp
        simp [x1, x2, x3, x4, h4, h5, h9, hlt, ret, hw]
        refine ih (ts.length - (i + 1)) _ _ ⟨i + 1, G, rfl, by omega, by simp [x1], by simp [x2], by simp [x3], ?_, by simp [h4], by simp [h5], ?_, rfl⟩ (by omega)
        · simp; rw [w64 (by omega) (by omega)]
        · simpa using e2
      · simp [x1, x2, x3, x4, h4, h5, h9, hlt, ret, hw]
        refine ih (ts.length - (i + 1)) _ _ ⟨i + 1, G ++ [⟨(walk w h b T a ts[i]).map (.int .i64), 0, 3⟩], rfl, by omega, by simp [x1], by simp [x2], by simp [x3], ?_, by simp [h4], by simp [h5], ?_, by simp⟩ (by omega)
        · simp; rw [w64 (by omega) (by omega)]
        · simpa using e1
    · have : i = ts.length := by omega
      subst this
      simp [x1, x2, x3, x4, h4, h5, h9, hlt]
theorem sUnicast_c (w h : Int) (v u s : Value) (b T ts : List Int) (a : Int) (hI : IsI H v b) (hT : IsI H u T) (hS : IsI H s ts) (hl : b.length ≤ 1073741824) (hs : ts.length ≤ 1073741824) :
   vcall C frz 15 [.agg #[.int .i64 w, .int .i64 h, v], .agg #[u], .int .i64 a, s] H = some (.int .i64 (if castOk w h b T a ts then cost w h b T a ts else -1), H) := by
  rw [vcall_go (fn := Try.f15) Try.func15 rfl (by kernel_rfl) rfl]
  simp [hI.one', hI.cells, hT.one', hT.cells, l35Ok_c _ _ _ _ _ _ _ _ _ (hI.app _) (hT.app _) (hS.app _) hl hs]
  refine br_dec _ ?_ ?_ <;> intro h1 <;> simp [h1, hS.lenA]
  · refine go_inv (fun n t H' => ∃ (i : Nat) (G : Heap), n = ts.length - i ∧ i ≤ ts.length ∧ t 2 = .int .i64 a ∧ t 3 = s ∧ t 10 = .int .i64 i ∧ t 4 = .pointer (some ⟨H.length, 0, some 0⟩) ∧ t 5 = .pointer (some ⟨H.length + 1, 0, some 0⟩) ∧ t 9 = .int .i64 (cost w h b T a (ts.take i)) ∧
      H' = H ++ ⟨[.int .i64 w, .int .i64 h, v], 0, 34⟩ :: ⟨[u], 0, 36⟩ :: G) ?_ (n := ts.length) ⟨0, [], by simp [cost]⟩
    rintro n t H' ⟨i, G, rfl, hi, x1, x2, x3, h4, h5, h9, rfl⟩ ih
    have hcl := cost_le w h b T a (ts.take i)
    simp [x1, x2, x3, h4, h5, h9, hS.lenA]
    refine br_dec _ ?_ ?_ <;> intro hlt
    · have hx : isN w h ts[i] := h1.2.2 _ (List.getElem_mem hlt)
      have hwl := walk_len w h b T a ts[i]
      have htl : (ts.take i).length ≤ 1073741824 := by simp; omega
      have e1 : IntKind.i64.wrap ((cost w h b T a (ts.take i) : Int) + ((walk w h b T a ts[i]).length : Nat)) = (cost w h b T a (ts.take (i + 1)) : Nat) := by
        rw [cost_succ hlt, w64 (by omega) (by omega)]; omega
      have ws := fun F L => sWalk_c (frz := F) (H := H ++ L) w h v u b T a ts[i] (hI.app _) (hT.app _) hl h1.1.1 h1.2.1 hx
      simp [x1, x2, x3, h4, h5, h9, hlt, hI.one', hI.cells, hT.one', hT.cells, hS.idxA, hS.loadA, getD_get, ws]
      rw [go_draw (h := by kernel_rfl)]
      simp [x1, x2, x3, h4, h5, h9, hlt, hI.one', hI.cells, hT.one', hT.cells, hS.idxA, hS.loadA, getD_get, ws]
      refine ih (ts.length - (i + 1)) _ _ ⟨i + 1, G ++ [⟨(walk w h b T a ts[i]).map (.int .i64), 0, 3⟩], rfl, by omega, by simp [x1], by simp [x2], ?_, by simp [h4], by simp [h5], ?_, by simp⟩ (by omega)
      · simp; rw [w64 (by omega) (by omega)]
      · simpa using e1
    · have : i = ts.length := by omega
      subst this
      simp [x1, x2, x3, h4, h5, h9, hlt]
end Go.Proofs.Ytkkoenbmokbglaa.V
