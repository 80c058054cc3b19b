import Derived.Test.YtkkoenbmokbglaaVT1
/-! Tables: the program's own walk. -/
set_option linter.all false
namespace Go.Proofs.Ytkkoenbmokbglaa.V
open Go Go.VM Go.Proofs
set_option maxRecDepth 10000
variable {frz : Nat} {H : Heap}
theorem portAt_c (w h : Int) (v u : Value) (b T : List Int) (a to : Int) (hI : IsI H v b) (hT : IsI H u T) (hl : b.length ≤ 1073741824) (hz : tsized w h b T) (ha : isN w h a) (hto : isN w h to) :
   vcall C frz 107 [.agg #[.int .i64 w, .int .i64 h, v], .agg #[u], .int .i64 a, .int .i64 to] H =
    some (.int .i64 (if inR 0 (portOf w h T a to) 4 then portOf w h T a to else -1), H) := by
  rw [vcall_go (fn := Try.f107) Try.func107 rfl (by kernel_rfl) rfl]
  have hc := cnt_range w h
  obtain ⟨k0, k1, k2, k3⟩ := at_small ha hto
  have hTl := hz.2
  have hc2 : cnt w h * cnt w h ≤ 16 * 16 := Int.mul_le_mul hc.2 hc.2 hc.1 (by omega)
  have hc3 : 0 * 0 ≤ cnt w h * cnt w h := Int.mul_le_mul hc.1 hc.1 (by omega) hc.1
  have e0 : IntKind.i64.wrap (cnt w h * cnt w h) = cnt w h * cnt w h := w64 (by omega) (by omega)
  have e1 : IntKind.i64.wrap (a * cnt w h) = a * cnt w h := w64 (by omega) (by omega)
  have e2 : IntKind.i64.wrap (a * cnt w h + to) = a * cnt w h + to := w64 (by omega) (by have := hto.2; omega)
  have q1 : ∀ L, vindexAddr Try.prog (H ++ L) 24 u (.int .i64 (a * cnt w h + to)) = some (elp u (a * cnt w h + to).toNat) := fun L => hT.idxA (e := 3) (by simp) k0 (by omega)
  have q2 : ∀ L, vload Try.prog (H ++ L) 3 (elp u (a * cnt w h + to).toNat) = some (.int .i64 (portOf w h T a to)) := fun L => hT.loadA (by simp) (by omega)
  simp [hI.one', hI.cells, hT.one', hT.cells, nodeCount_c, meshOk_c _ _ _ _ (hI.app _) hl, hz.1, inside_c, isN_inR, ha, hto, e0, e1, e2, q1, q2, hT.lenA, hTl]
  try refine br_dec _ ?_ ?_ <;> intro hr <;> simp [hr, q1, q2, e1, e2]
/-- what the program's walk gives back -/
def ret (H : Heap) (xs : List Int) : Value × Heap := if xs = [] then (.slice none 0 0, H) else (.slice (some ⟨H.length, 0, some 0⟩) xs.length 0, H ++ [⟨xs.map (.int .i64), 0, 3⟩])
theorem walk_c (w h : Int) (v u : Value) (b T : List Int) (a to : Int) (hI : IsI H v b) (hT : IsI H u T) (hl : b.length ≤ 1073741824) (hz : tsized w h b T) (ha : isN w h a) (hto : isN w h to) (hne : a ≠ to) :
   vcall C frz 60 [.agg #[.int .i64 w, .int .i64 h, v], .agg #[u], .int .i64 a, .int .i64 to] H = some (ret H (walk w h b T a to)) := by
  rw [vcall_go (fn := Try.f60) Try.func60 rfl (by kernel_rfl) rfl]
  have hc := cnt_range w h
  simp [hI.one', hI.cells, hT.one', hT.cells, nodeCount_c, meshOk_c _ _ _ _ (hI.app _) hl, hz.1, isNode_c, ha, hto, hne]
  refine go_inv (fun n t H' => ∃ (o : List Int) (g : Nat) (x : Int) (G : Heap), n = (cnt w h).toNat + 1 - o.length ∧ t 3 = .int .i64 to ∧ t 4 = .pointer (some ⟨H.length, 0, some 0⟩) ∧ t 5 = .pointer (some ⟨H.length + 1, 0, some 0⟩) ∧
    t 9 = .slice (some ⟨H.length + 2, 0, some g⟩) o.length 0 ∧ t 10 = .int .i64 x ∧
    H' = H ++ ⟨[.int .i64 w, .int .i64 h, v], 0, 34⟩ :: ⟨[u], 0, 36⟩ :: ⟨o.map (.int .i64), g, 3⟩ :: G ∧
    o.length ≤ (cnt w h).toNat ∧ isN w h x ∧ walkN w h b T to ((cnt w h).toNat - o.length) x o = walk w h b T a to ∧ (o = [] → x ≠ to)) ?_
    (n := (cnt w h).toNat + 1) ⟨[], 0, a, [], by simp [ha, walk, hne]⟩
  rintro n t H' ⟨o, g, x, G, rfl, h3, h4, h5, h9, h10, rfl, ho1, hx, hw, hox⟩ ih
  have hpa := fun F L => portAt_c (frz := F) (H := H ++ L) w h v u b T x to (hI.app _) (hT.app _) hl hz hx hto
  have hw0 : portOf w h T x to ≠ 4 → ¬ stepOk w h b T x to → walk w h b T a to = [] := fun hp hh => by
    rw [← hw]; cases (cnt w h).toNat - o.length <;> simp [walkN, hp, hh]
  simp [h3, h4, h5, h9, h10, hI.one', hI.cells, hT.one', hT.cells, hpa]
  have hnil : walk w h b T a to = [] → (Value.slice none 0 0, H) = ret H (walk w h b T a to) := fun hh => by rw [hh]; rfl
  by_cases hr : inR 0 (portOf w h T x to) 4
  · have hlt : ¬ portOf w h T x to < 0 := by have := hr.1; omega
    simp [hr, hlt]
    refine br_dec _ ?_ ?_ <;> intro hp
    · have hw' : walk w h b T a to = if x = to then o else [] := by
        rw [← hw]; cases (cnt w h).toNat - o.length <;> simp [walkN, hp]
      simp [h3, h4, h5, h9, h10, hp]
      refine br_dec _ ?_ ?_ <;> intro hq
      · have hon : o ≠ [] := fun hh => hox hh hq
        rw [if_pos hq] at hw'
        simp [h3, h4, h5, h9, h10, hq, hw', ret, hon]
      · rw [if_neg hq] at hw'
        simp [h3, h4, h5, h9, h10, hq, hw', ret]
    · have hr3 : inR 0 (portOf w h T x to) 3 := ⟨hr.1, by have := hr.2; omega⟩
      have e3 : IntKind.i64.wrap (4 * x) = 4 * x := w64 (by have := hx.1; omega) (by have := hx.2; omega)
      have e4 : IntKind.i64.wrap (4 * x + portOf w h T x to) = 4 * x + portOf w h T x to := w64 (by have := hx.1; have := hr.1; omega) (by have := hx.2; have := hr.2; omega)
      simp [h3, h4, h5, h9, h10, hp, hI.one', hI.cells, e3, e4, hasChannel_c _ _ _ _ _ (hI.app _) hl, hz.1]
      refine gd_dec _ _ ?_ ?_ <;> intro hh
      · obtain ⟨s1, s2, s3⟩ := step_next hr3 hh
        have he := fun F L => endOf_c (frz := F) (H := H ++ L) w h v b (4 * x + portOf w h T x to) (hI.app _) hh.1
        rw [s1, s2] at he
        simp [h3, h4, h5, h9, h10, hp, hh, hI.one', hI.cells, e3, e4, nodeCount_c]
        refine br_dec _ ?_ ?_ <;> intro hf
        · have hwz : walk w h b T a to = [] := by
            rw [show (cnt w h).toNat - o.length = 0 by omega] at hw
            rw [← hw, walkN, if_neg hp]
          simp [h3, h4, h5, h9, h10, hp, hh, hf, hnil hwz]
        · simp [h3, h4, h5, h9, h10, hp, hh, hf, hI.one', hI.cells, e3, e4]
          refine vneed_eq (by omega) ?_
          simp [h3, h4, h5, h9, h10, hp, hh, hf, hI.one', hI.cells, e3, e4, he]
          refine ih ((cnt w h).toNat + 1 - (o.length + 1)) _ _ ⟨o ++ [4 * x + portOf w h T x to], g + 1, next w h x (portOf w h T x to), _, by simp, by simp [h3], by simp [h4], by simp [h5], by simp, by simp, by simp; rfl, by simp; omega, s3, ?_, by simp⟩ (by omega)
          rw [show (cnt w h).toNat - o.length = ((cnt w h).toNat - (o ++ [4 * x + portOf w h T x to]).length) + 1 by simp; omega] at hw
          rw [← hw, walkN, if_neg hp, if_pos ⟨hr3, hh⟩]
      · simp [h3, h4, h5, h9, h10, hp, hh]
        exact hnil (hw0 hp (fun hs => hh hs.2))
  · simp [hr]
    refine hnil (hw0 (fun hp => hr ?_) fun hs => hr ⟨hs.1.1, by have := hs.1.2; omega⟩)
    rw [hp]; exact ⟨by omega, by omega⟩
end Go.Proofs.Ytkkoenbmokbglaa.V
