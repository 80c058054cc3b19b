import Derived.Test.YtnakhkfgheapoaaVM3
/-! append, copy, make and literals of slices. -/
set_option linter.all false
namespace Go.VM
open Go Go.RowKit
variable {P : Program} {H H' : Heap} {ι ι' : Inj} {v c x y d s : Value} {B frz : Nat} {w0 w w' : World} {t : TypeId}

theorem eltp_spec {e n : Nat} (h : eltp P t = some (e, n)) : P.underlying t = some (.slice e) ∧ ∃ i z, P.info? e = some i ∧ i.size = n ∧ 0 < n ∧ i.bytes ≤ 65536 ∧ i.zero = some z ∧ z.cells.size = n := by
  unfold eltp at h
  split at h
  · rename_i e' hu
    split at h
    · rename_i i hi
      split at h
      · rename_i hc
        cases h
        refine ⟨hu, i, ?_⟩
        cases hz : i.zero with
        | none => simp [hz] at hc
        | some z => simp [hz] at hc; exact ⟨z, hi, rfl, hc.1, hc.2.1, rfl, hc.2.2⟩
      · cases h
    · cases h
  · cases h
theorem cellsOf_of {e : TypeId} {i : TypeInfo} (h : P.info? e = some i) : P.cellsOf e = i.size := by simp [Program.cellsOf, h]

theorem src_ok (R : Rel P B w0 frz ι H w) {n m : Nat} {news : List Value} (hx : VRel P H ι x d) (h : vsrc n H x = some (m, news)) :
    ∃ cs : List Value, cs.length = m * n ∧ news.length = m * n ∧ (∀ (i : Nat) (v c : Value), news[i]? = some v → cs[i]? = some c → VRel P H ι v c) ∧
      ((d = .slice none 0 0 ∧ m = 0) ∨ ∃ a cap, d = .slice (some a) m cap ∧ ∀ j v, cs[j]? = some v → w.cell? (a.add j) = some v) := by
  unfold vsrc at h
  split at h
  · cases h
    cases hx with
    | nilSl => exact ⟨[], by simp, by simp, by simp, .inl ⟨rfl, rfl⟩⟩
    | noSl => exact ⟨[], by simp, by simp, by simp, .inr ⟨_, 0, rfl, by simp⟩⟩
  · rename_i a len k
    split at h
    · rename_i r hr
      split at h
      · rename_i hn
        cases h
        rcases hx.sl_inv hr with ⟨l, cap, hl, hle, hcap, rfl⟩ | ⟨rfl, _, b, rfl⟩
        · obtain ⟨_, r', hr', hra⟩ := R.row _ _ hl
          obtain ⟨hr1, _⟩ := look_some hr
          rw [hr'] at hr1; cases hr1
          obtain ⟨cs, h1, h2, h3⟩ := hra.read a.off (m * n) hn
          exact ⟨cs, h1, by simp; omega, h3, .inr ⟨_, cap, rfl, fun j v hj => by rw [Loc.at_add]; exact h2 j v hj⟩⟩
        · exact ⟨[], by simp, by simp, by simp, .inr ⟨b, 0, rfl, by simp⟩⟩
      · cases h
    · cases h
  · cases h

theorem vkeep_eq {l : List Value} {o k : Nat} (h : o + k ≤ l.length) : vkeep l o k = (l.drop o).take k := by
  unfold vkeep; split
  · rw [List.take_of_length_le (by simp; omega)]
  · rfl
theorem run_firstCells_zero (P : Program) (w : World) (n : Nat) (h : (d = .slice none 0 0) ∨ ∃ a cap, d = .slice (some a) 0 cap) : (Builtin.firstCells n 0 d).run P w = .ok #[] w := by
  rcases h with rfl | ⟨a, cap, rfl⟩
  · rfl
  · simp [Builtin.firstCells, loadCells, loadCellsFrom]
theorem run_append_zero {e n : Nat} (he : eltp P t = some (e, n)) (ty : TypeId) (w : World) (base : Option Addr) (sLen sCap : Nat) (hc : sLen ≤ sCap) (hd : (d = .slice none 0 0) ∨ ∃ a cap, d = .slice (some a) 0 cap) :
    (Builtin.append_ #[t, t] ty #[.slice base sLen sCap, d]).run P w = .ok (.slice base sLen sCap) w := by
  obtain ⟨hu, i, z, hi, hs, hp, hb, hz, hzs⟩ := eltp_spec he
  have hl : (Builtin.lenOf d).run P w = .ok 0 w := by rcases hd with rfl | ⟨a, cap, rfl⟩ <;> rfl
  have hf := run_firstCells_zero P w i.size hd
  cases base with
  | none => simp [Builtin.append_, run_underlying hu, sizeOf, typeInfo, hi, hl, hc, hf]
  | some a => simp [Builtin.append_, run_underlying hu, sizeOf, typeInfo, hi, hl, hc, hf, storeCells]

theorem run_append_fit {e n : Nat} (he : eltp P t = some (e, n)) (ty : TypeId) (w : World) (a0 : Addr) (sLen sCap : Nat) {m cap : Nat} {a : Addr} {cs : List Value} (hlen : cs.length = m * n)
    (hcs : ∀ j v, cs[j]? = some v → w.cell? (a.add j) = some v) (hroom : sLen + m ≤ sCap)
    (hst : (storeCells (a0.add (sLen * n)) cs).run P w = .ok () w') :
    (Builtin.append_ #[t, t] ty #[.slice (some a0) sLen sCap, .slice (some a) m cap]).run P w = .ok (.slice (some a0) (sLen + m) sCap) w' := by
  obtain ⟨hu, i, z, hi, hs, hp, hb, hz, hzs⟩ := eltp_spec he
  subst hs
  have hf := run_firstCells_some (P := P) w i.size m a m cap cs hlen hcs
  simp [Builtin.append_, run_underlying hu, sizeOf, typeInfo, hi, Builtin.lenOf, hroom, hf, hst]

theorem length_drop_take (l : List Value) (o n : Nat) (h : o + n ≤ l.length) : ((l.drop o).take n).length = n := by simp; omega

theorem appendZ_ok (R : Rel P B w0 frz ι H w) (hf0 : frz ≤ H.length) {u ty : TypeId} (hs : VRel P H ι s c) (hx : VRel P H ι x d) (h : vappendZ P H t u s x = some (v, H')) :
    ∃ c' w' ι', (Builtin.append_ #[t, u] ty #[c, d]).run P w = .ok c' w' ∧ VRel P H' ι' v c' ∧ Ext H ι H' ι' ∧ Rel P B w0 frz ι' H' w' := by
  unfold vappendZ at h
  split at h
  · rename_i kn hun
    split at h
    · rename_i e n he
      obtain ⟨hu, i, z, hi, hsz, hp, hb, hz, hzs⟩ := eltp_spec he
      split at h
      · split at h
        · rename_i kq k
          split at h
          · rename_i hc
            cases h
            cases hx
            subst hsz
            obtain ⟨k', rfl⟩ := Int.eq_ofNat_of_zero_le (by omega : 0 ≤ k)
            have hm : k' * i.bytes ≤ 1073741824 * 65536 := Nat.mul_le_mul (by omega) hb
            have hg := grownCap_ge w k' 0 e
            obtain ⟨RR, EE⟩ := R.drew.alloc hf0 [] (Builtin.zeroCells z.cells k' ++ Builtin.zeroCells z.cells (grownCap w k' 0 e - k')) e (by simp) (fun j v hj => by simp at hj)
            have hv : VRel P (H ++ [⟨[], 0, e⟩]) (ι.at H.length ⟨w.heap.size, 0, (Builtin.zeroCells z.cells k' ++ Builtin.zeroCells z.cells (grownCap w k' 0 e - k')).size⟩) (.slice (some ⟨H.length, 0, some 0⟩) k' 0) (.slice (some ⟨w.heap.size, 0, none⟩) k' (grownCap w k' 0 e)) := by
              refine .sl (r := ⟨[], 0, e⟩) (l := ⟨w.heap.size, 0, _⟩) (by simp) rfl (by simp [Inj.at]; rfl) hg ?_
              simp only [Array.size_append, size_zeroCells, hzs, cellsOf_of hi, Nat.zero_add]
              rw [← Nat.add_mul]; apply Nat.mul_le_mul_right; omega
            cases hs with
            | nilSl =>
              have hrun := Lib.run_append_nil_zeros (P := P) w t u ty e i z kq kn hu hun hi hz k' (by omega) hc.1 (by omega) (by omega)
              exact ⟨_, _, _, hrun, by simpa using hv, EE, RR⟩
            | noSl =>
              rename_i b
              have hrun := Lib.run_append_grow_zeros (P := P) w t u ty e i z kq kn hu hun hi hz (some b) 0 0 [] (run_firstCells_zero P _ _ (.inr ⟨_, _, rfl⟩)) k' (by omega) hc.1 (by omega) (by omega) (by omega) (growslice_fits (by omega) (by rw [Nat.zero_add]; omega))
              simp only [Nat.zero_add, show ([] : List Value).toArray = #[] from rfl, Array.empty_append] at hrun
              exact ⟨_, _, _, hrun, by simpa using hv, EE, RR⟩
          · cases h
        · cases h
      · cases h
    · cases h
  · cases h
theorem append_ok (R : Rel P B w0 frz ι H w) (hf0 : frz ≤ H.length) {u ty : TypeId} (hs : VRel P H ι s c) (hx : VRel P H ι x d) (h : vappend P frz H t u s x = some (v, H')) :
    ∃ c' w' ι', (Builtin.append_ #[t, u] ty #[c, d]).run P w = .ok c' w' ∧ VRel P H' ι' v c' ∧ Ext H ι H' ι' ∧ Rel P B w0 frz ι' H' w' := by
  unfold vappend at h
  split at h
  · rename_i htu
    subst htu
    split at h
    · rename_i e n he
      obtain ⟨hu, i, z, hi, hsz, hp, hb, hz, hzs⟩ := eltp_spec he
      split at h
      · rename_i m news hsrc
        obtain ⟨cs, hc1, hc2, hc3, hc4⟩ := src_ok R hx hsrc
        have hd0 : m = 0 → (d = .slice none 0 0) ∨ ∃ a cap, d = .slice (some a) 0 cap := fun h0 => by
          rcases hc4 with ⟨h1, _⟩ | ⟨a, cap, h1, _⟩
          · exact .inl h1
          · exact .inr ⟨a, cap, by rw [h1, h0]⟩
        split at h
        · -- nil
          by_cases h0 : m = 0
          · rw [if_pos h0] at h; cases h
            cases hs with
            | nilSl => exact ⟨_, w, ι, run_append_zero he ty w none 0 0 (Nat.le_refl _) (hd0 h0), .nilSl, Ext.refl _ _, R⟩
            | noSl => exact ⟨_, w, ι, run_append_zero he ty w (some _) 0 0 (Nat.le_refl _) (hd0 h0), .noSl, Ext.refl _ _, R⟩
          · rw [if_neg h0] at h
            split at h
            · rename_i hm
              cases h
              obtain ⟨a, cap, rfl, hrd⟩ : ∃ a cap, d = .slice (some a) m cap ∧ ∀ j v, cs[j]? = some v → w.cell? (a.add j) = some v := by
                rcases hc4 with ⟨_, h1⟩ | h1
                · exact absurd h1 h0
                · exact h1
              subst hsz
              have hrun := run_append_nil (P := P) w t ty e i z hu hi hz a m cap cs hc1 hrd (by omega) (by omega) (by
                have : m * i.bytes ≤ 1073741824 * 65536 := Nat.mul_le_mul hm.1 hb
                omega)
              have hg := grownCap_ge w m 0 e
              obtain ⟨RR, EE⟩ := R.drew.alloc hf0 news (cs.toArray ++ Builtin.zeroCells z.cells (grownCap w m 0 e - m)) e (by simp [size_zeroCells]; omega) (fun j v hj => by
                have hlt := (List.getElem?_eq_some_iff.1 hj).1
                refine ⟨cs[j]'(by omega), ?_, hc3 j v _ hj (List.getElem?_eq_getElem (by omega))⟩
                rw [Array.getElem?_append_left (by simp; omega)]; simp)
              have hb8 : m * i.bytes ≤ 1073741824 * 65536 := Nat.mul_le_mul hm.1 hb
              cases hs with
              | noSl =>
                rename_i b
                have hrun' := run_append_grow (P := P) w t ty e i z hu hi hz b 0 0 [] (by simp) (by simp) a m cap cs hc1 hrd (by omega) (by omega) (growslice_fits (by omega) (by rw [Nat.zero_add]; omega))
                simp only [Nat.zero_add, show ([] : List Value).toArray = #[] from rfl, Array.empty_append] at hrun'
                refine ⟨_, _, _, hrun', ?_, EE, RR⟩
                refine .sl (r := ⟨news, 0, e⟩) (l := ⟨w.heap.size, 0, _⟩) (by simp) rfl (by simp [Inj.at]; rfl) hg ?_
                simp only [Array.size_append, size_zeroCells, List.size_toArray, hc1, hzs, cellsOf_of hi, Nat.zero_add]
                rw [← Nat.add_mul]; apply Nat.mul_le_mul_right; omega
              | nilSl =>
              refine ⟨_, _, _, hrun, ?_, EE, RR⟩
              refine .sl (r := ⟨news, 0, e⟩) (l := ⟨w.heap.size, 0, _⟩) (by simp) rfl (by simp [Inj.at]; rfl) hg ?_
              simp only [Array.size_append, size_zeroCells, List.size_toArray, hc1, hzs, cellsOf_of hi, Nat.zero_add]
              rw [← Nat.add_mul]; apply Nat.mul_le_mul_right; omega
            · cases h
        · -- a row
          rename_i a0 len k
          split at h
          · rename_i r hr
            obtain ⟨hr1, hr2⟩ := look_some hr
            by_cases h0 : m = 0
            · rw [if_pos h0] at h; cases h
              have hcc : ∃ a' cap, c = .slice (some a') len cap ∧ len ≤ cap := by
                rcases hs.sl_inv hr with ⟨l, cap, _, h1, _, h2⟩ | ⟨h1, _, b, h2⟩
                · exact ⟨_, _, h2, h1⟩
                · exact ⟨b, 0, by rw [h2, h1], by omega⟩
              obtain ⟨a', cap, rfl, hle⟩ := hcc
              exact ⟨_, w, ι, run_append_zero he ty w _ _ _ hle (hd0 h0), hs, Ext.refl _ _, R⟩
            · rw [if_neg h0] at h
              split at h
              · rename_i hc
                obtain ⟨hfr, hoff, hel, hm, ho1, ho2⟩ := hc
                rw [vkeep_eq hoff] at h
                cases h
                obtain ⟨a, cap, rfl, hrd⟩ : ∃ a cap, d = .slice (some a) m cap ∧ ∀ j v, cs[j]? = some v → w.cell? (a.add j) = some v := by
                  rcases hc4 with ⟨_, h1⟩ | h1
                  · exact absurd h1 h0
                  · exact h1
                subst hsz
                have hbytes : (len + m) * i.bytes ≤ 140737488355328 := by
                  have : (len + m) * i.bytes ≤ 1073741824 * 65536 := Nat.mul_le_mul hm hb
                  omega
                -- the old cells
                have hgrow : ∀ (b : Addr) (olds : List Value) (sCap : Nat) (l : Loc), ι a0.block = some l → olds.length = len * i.size → (∀ j v, olds[j]? = some v → w.cell? (b.add j) = some v) →
                    (∀ (q : Nat) (v c : Value), ((r.cells.drop a0.off).take (len * i.size))[q]? = some v → olds[q]? = some c → VRel P H ι v c) → sCap < len + m →
                    ∃ c' w' ι', (Builtin.append_ #[t, t] ty #[.slice (some b) len sCap, .slice (some a) m cap]).run P w = .ok c' w' ∧
                      VRel P (H.set a0.block ⟨(r.cells.drop a0.off).take (len * i.size) ++ news, r.gen + 1, e⟩) ι' (.slice (some ⟨a0.block, 0, some (r.gen + 1)⟩) (len + m) 0) c' ∧
                      Ext H ι (H.set a0.block ⟨(r.cells.drop a0.off).take (len * i.size) ++ news, r.gen + 1, e⟩) ι' ∧ Rel P B w0 frz ι' (H.set a0.block ⟨(r.cells.drop a0.off).take (len * i.size) ++ news, r.gen + 1, e⟩) w' := by
                  intro b olds sCap l hl hlo hold hrelo hcap
                  have hrun := run_append_grow (P := P) w t ty e i z hu hi hz b len sCap olds hlo hold a m cap cs hc1 hrd hcap (by omega) (growslice_fits hcap hbytes)
                  have hg := grownCap_ge w (len + m) sCap e
                  have hdl : ((r.cells.drop a0.off).take (len * i.size)).length = len * i.size := by simp; omega
                  obtain ⟨RR, EE⟩ := R.drew.move (id := a0.block) (r := r) (r' := ⟨(r.cells.drop a0.off).take (len * i.size) ++ news, r.gen + 1, e⟩) (l := l) (cur' := olds.toArray ++ cs.toArray ++ Builtin.zeroCells z.cells (grownCap w (len + m) sCap e - (len + m)))
                    hl hr1 hfr hel.symm (Nat.lt_succ_self _) (by simp [size_zeroCells]; omega) (fun j v hj => by
                      simp only [Array.append_assoc]
                      by_cases hjl : j < len * i.size
                      · rw [List.getElem?_append_left (by omega)] at hj
                        refine ⟨olds[j]'(by omega), ?_, hrelo j v _ hj (List.getElem?_eq_getElem (by omega))⟩
                        rw [Array.getElem?_append_left (by simp; omega)]; simp
                      · rw [List.getElem?_append_right (by omega)] at hj
                        have hlt := (List.getElem?_eq_some_iff.1 hj).1
                        rw [hdl] at hj hlt
                        refine ⟨cs[j - len * i.size]'(by omega), ?_, hc3 _ v _ hj (List.getElem?_eq_getElem (by omega))⟩
                        rw [Array.getElem?_append_right (by simp; omega), Array.getElem?_append_left (by simp; omega)]
                        simp [hlo])
                  refine ⟨_, _, _, hrun, ?_, EE, RR⟩
                  have hlt := R.lt hl
                  refine .sl (r := ⟨(r.cells.drop a0.off).take (len * i.size) ++ news, r.gen + 1, e⟩) (l := ⟨w.heap.size, 0, _⟩) (by simp [hlt]) rfl (by simp [Inj.at]; rfl) hg ?_
                  simp only [Array.size_append, size_zeroCells, List.size_toArray, hc1, hlo, hzs, cellsOf_of hi, Nat.zero_add]
                  rw [← Nat.add_mul, ← Nat.add_mul]; apply Nat.mul_le_mul_right; omega
                rcases hs.sl_inv hr with ⟨l, cap0, hl, hle, hcap0, rfl⟩ | ⟨rfl, ⟨l, hl⟩, b, rfl⟩
                · obtain ⟨_, r', hr', hra⟩ := R.row _ _ hl
                  rw [hr'] at hr1; cases hr1
                  by_cases hroom : len + m ≤ cap0
                  · -- in place
                    obtain ⟨q1, ⟨cur, q2, q3⟩, q4⟩ := R.own _ l r hl hr' hfr
                    rw [hel, cellsOf_of hi] at hcap0
                    have hmul : (len + m) * i.size ≤ cap0 * i.size := Nat.mul_le_mul_right _ hroom
                    rw [Nat.add_mul] at hmul
                    have hst := run_storeCells_at P l.b (l.o + (a0.off + len * i.size)) r.elem cs 0 cur w q2 (by omega) (ones_rel ho2 (by omega) hc3)
                    simp only [Nat.add_zero] at hst
                    have hrun := run_append_fit (cap := cap) he ty w (l.at a0.off) len cap0 hc1 hrd hroom (by rw [Loc.at_add]; exact hst)
                    have hra2 := hra.2
                    obtain ⟨RR, EE⟩ := R.write (r' := ⟨(r.cells.drop a0.off).take (len * i.size) ++ news, r.gen + 1, e⟩) (l' := ⟨l.b, l.o + a0.off, l.n - a0.off⟩) (cur := cur)
                      (cur' := (VM.splice cur.toList (l.o + (a0.off + len * i.size)) cs).toArray) hl hr' hfr hel.symm (Nat.le_succ _) (fun h => absurd h (by simp)) rfl q2
                      (by simp only [List.size_toArray]; rw [length_splice _ _ _ (by simp; omega)]; simp; omega) (by simp; omega) (fun j v hj => by
                        rw [List.getElem?_toArray, getElem?_splice _ _ _ _ (by simp; omega)]
                        have hdl : ((r.cells.drop a0.off).take (len * i.size)).length = len * i.size := by simp; omega
                        by_cases hjl : j < len * i.size
                        · rw [List.getElem?_append_left (by omega), List.getElem?_take, if_pos hjl, List.getElem?_drop] at hj
                          obtain ⟨c, hc, hv⟩ := hra2 _ v hj
                          refine ⟨c, ?_, hv⟩
                          simp only [] 
                          rw [if_pos (by omega)]
                          simpa [World.cell?, Loc.at, q2, Nat.add_assoc] using hc
                        · rw [List.getElem?_append_right (by omega), hdl] at hj
                          have hlt := (List.getElem?_eq_some_iff.1 hj).1
                          refine ⟨cs[j - len * i.size]'(by omega), ?_, hc3 _ v _ hj (List.getElem?_eq_getElem (by omega))⟩
                          simp only []
                          rw [if_neg (by omega), if_pos (by omega), show l.o + a0.off + j - (l.o + (a0.off + len * i.size)) = j - len * i.size by omega]
                          exact List.getElem?_eq_getElem (by omega))
                    refine ⟨_, _, _, hrun, ?_, EE, RR⟩
                    have hlt := R.lt hl
                    have := VRel.sl (P := P) (H := H.set a0.block ⟨(r.cells.drop a0.off).take (len * i.size) ++ news, r.gen + 1, e⟩) (ι := ι.at a0.block ⟨l.b, l.o + a0.off, l.n - a0.off⟩) (a := ⟨a0.block, 0, some (r.gen + 1)⟩)
                      (r := ⟨(r.cells.drop a0.off).take (len * i.size) ++ news, r.gen + 1, e⟩) (l := ⟨l.b, l.o + a0.off, l.n - a0.off⟩) (len := len + m) (k := 0) (cap := cap0) (by simp [hlt]) rfl (by simp [Inj.at]) hroom (by simp [cellsOf_of hi]; omega)
                    simpa [Loc.at] using this
                  · obtain ⟨olds, g1, g2, g3⟩ := hra.read a0.off (len * i.size) (by omega)
                    refine hgrow (l.at a0.off) olds cap0 l hl g1 (fun j v hj => by rw [Loc.at_add]; exact g2 j v hj) g3 (by omega)
                · refine hgrow b [] 0 l hl (by simp) (by simp) (by simp) (by omega)
              · cases h
          · cases h
        · cases h
      · cases h
    · cases h
  · exact appendZ_ok R hf0 hs hx h
end Go.VM
