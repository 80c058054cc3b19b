import Derived.Test.YtnakhkfgheapoaaVM6
/-! Composites, and every operation that is no call of a function. -/
set_option linter.all false
namespace Go.VM
open Go Go.RowKit
variable {P : Program} {H H' : Heap} {ι ι' : Inj} {v c x y d s : Value} {B frz : Nat} {w0 w w' : World} {t : TypeId}

/-- the parts of a composite, and the model's -/
def PRel (P : Program) (H : Heap) (ι : Inj) (l l' : List (Nat × Value)) : Prop :=
  l.length = l'.length ∧ ∀ (i : Nat) (p q : Nat × Value), l[i]? = some p → l'[i]? = some q → p.1 = q.1 ∧ VRel P H ι p.2 q.2

theorem buildSlice_ok (R : Rel P B w0 frz ι H w) (hf0 : frz ≤ H.length) {len : Nat} {parts : List (Nat × Value)} {parts' : Array (Nat × Value)} (hp : PRel P H ι parts parts'.toList)
    (h : vbuildSlice P H t len parts = some (v, H')) :
    ∃ c' w' ι', (Instr.buildSlice t len parts').run P w = .ok c' w' ∧ VRel P H' ι' v c' ∧ Ext H ι H' ι' ∧ Rel P B w0 frz ι' H' w' := by
  unfold vbuildSlice at h
  split at h
  · rename_i e n he
    obtain ⟨hu, i, z, hi, hsz, hpos, hb, hz, hzs⟩ := eltp_spec he
    split at h
    · rename_i z1 hz1
      obtain ⟨i', z', hi', hz', hzz, hlit⟩ := tzero_spec hz1
      rw [hi] at hi'; cases hi'
      rw [hz] at hz'; cases hz'
      split at h
      · rename_i hlen
        split at h
        · rename_i cs hcs
          cases h
          subst hsz
          have hzl : z1.length = i.size := by rw [← hzz]; simpa using hzs
          obtain ⟨cs', g1, g2⟩ := fill_ok (P := P) (H := H) (ι := ι) (place := fun j => some (j * i.size, i.size)) (place' := fun j => some (j * i.size, i.size)) (fun _ _ h => h) parts parts'.toList (List.replicate len z1).flatten (madeCells z.cells (len * i.size))
            ⟨by simp [size_madeCells, hzl], fun j x y hx hy => by
              have hlt := (List.getElem?_eq_some_iff.1 hx).1
              rw [length_flatten_replicate] at hlt
              rw [getElem?_flatten_replicate _ _ _ hlt] at hx
              have hy' : (madeCells z.cells (len * i.size))[j]? = some y := by simpa using hy
              rw [madeCells_get _ _ _ (by rw [hzl] at hlt; omega) (by omega)] at hy'
              have : z.cells[j % z.cells.size]? = z1[j % z1.length]? := by rw [← hzz]; simp
              rw [this, hx] at hy'; cases hy'
              exact .lit (hlit x (List.mem_of_getElem? hx))⟩ hp.1 hp.2 hcs
          have hrun : (Instr.buildSlice t len parts').run P w = .ok (.slice (some ⟨w.heap.size, 0, none⟩) len len) (w.alloc (.cells cs' e)) := by
            by_cases h0 : len * i.size = 0
            · have h00 : (madeCells z.cells (len * i.size)) = #[] := by apply Array.eq_empty_of_size_eq_zero; rw [size_madeCells]; exact h0
              rw [h00] at g1
              simp [Instr.buildSlice, run_underlying hu, sizeOf, typeInfo, hi, h0, g1, newRow, Array.range_zero']
            · simp only [madeCells] at g1
              simp [Instr.buildSlice, run_underlying hu, sizeOf, typeInfo, zeroValue, hi, hz, h0, g1, newRow]; omega
          have hsz := g2.1
          obtain ⟨RR, EE⟩ := R.alloc hf0 cs cs' e (by simp at hsz; omega) (fun j v hj => by
            have hlt := (List.getElem?_eq_some_iff.1 hj).1
            have hlt' : j < cs'.size := by simp at hsz; omega
            exact ⟨cs'[j], Array.getElem?_eq_getElem hlt', g2.2 j v _ hj (by simpa using Array.getElem?_eq_getElem hlt')⟩)
          refine ⟨_, _, _, hrun, ?_, EE, RR⟩
          have hcl : cs'.size = len * i.size := by
            have h1 : ∀ (pl : Nat → Option (Nat × Nat)) (parts : List (Nat × Value)) (a b : Array Value), Instr.fill pl a parts = some b → b.size = a.size := by
              intro pl parts
              induction parts with
              | nil => intro a b h; simp [Instr.fill] at h; rw [h]
              | cons p parts ih =>
                intro a b h
                obtain ⟨j, u⟩ := p
                simp only [Instr.fill] at h
                split at h
                · cases h
                · split at h
                  · cases h
                  · rw [ih _ _ h]
                    rw [← Array.foldl_toList]
                    generalize u.cells.zipIdx.toList = q
                    clear h ih
                    have : ∀ (q : List (Value × Nat)) (a : Array Value) (o : Nat), (q.foldl (fun (cs : Array Value) (x : Value × Nat) => cs.setIfInBounds (o + x.2) x.1) a).size = a.size := by
                      intro q
                      induction q with
                      | nil => intro a o; rfl
                      | cons r q ih => intro a o; simp only [List.foldl_cons]; rw [ih]; simp
                    exact this q a _
            rw [h1 _ _ _ _ g1, size_madeCells]
          exact .sl (r := ⟨cs, 0, e⟩) (l := ⟨w.heap.size, 0, _⟩) (by simp) rfl (by simp [Inj.at]; rfl) (Nat.le_refl _) (by simp [cellsOf_of hi, hcl])
        · cases h
      · cases h
    · cases h
  · cases h

theorem run_places (w : World) : ∀ (fs : List Field) (pl : List (Nat × Nat)), (fs.mapM fun f => (P.info? f.type).map fun i => (f.offset, i.size)) = some pl →
    (fs.mapM fun f => (do pure (f.offset, ← sizeOf f.type) : Sem (Nat × Nat))).run P w = .ok pl w
  | [], pl, h => by simp at h; subst h; rfl
  | f :: fs, pl, h => by
    simp only [List.mapM_cons] at h ⊢
    cases hi : P.info? f.type with
    | none => simp [hi] at h
    | some i =>
      cases hl : fs.mapM fun f => (P.info? f.type).map fun i => (f.offset, i.size) with
      | none => simp [hi, hl] at h
      | some l =>
        simp [hi, hl] at h
        subst h
        have ih := run_places w fs l hl
        simp only [bind_pure_comp] at ih
        simp [sizeOf, typeInfo, hi] at ih ⊢
        simp [ih]

theorem build_ok {parts : List (Nat × Value)} {parts' : Array (Nat × Value)} (hp : PRel P H ι parts parts'.toList) (h : vbuild P t parts = some v) :
    ∃ c', (Instr.build t parts').run P w = .ok c' w ∧ VRel P H ι v c' := by
  unfold vbuild at h
  split at h
  · rename_i pl hpl
    split at h
    · rename_i z hz0
      obtain ⟨i, z', hi, hz, hzz, hlit⟩ := tzero_spec hz0
      split at h
      · rename_i cs hcs
        cases h
        have hz2 : LRel P H ι z z'.cells.toList := ⟨by rw [hzz], fun j x y hx hy => by rw [hzz, hx] at hy; cases hy; exact .lit (hlit x (List.mem_of_getElem? hx))⟩
        unfold bplaces at hpl
        split at hpl
        · rename_i fs hu
          obtain ⟨cs', g1, g2⟩ := fill_ok (place := fun i => pl[i]?) (place' := fun i => pl[i]?) (fun _ _ h => h) parts parts'.toList z z'.cells hz2 hp.1 hp.2 hcs
          refine ⟨.agg cs', ?_, .agg (by simpa using g2.1) fun i x y hx hy => g2.2 i x y (by simpa using hx) (by simpa using hy)⟩
          have hm := run_places (P := P) w fs.toList pl hpl
          simp only [Instr.build, Sem.run_bind, zeroValue, typeInfo, run_program, hi, Result.andThen_ok, Sem.run_pure, hz, run_underlying hu]
          rw [Array.mapM_eq_mapM_toList]
          simp only [Sem.run_map, hm, Result.andThen_ok, List.getElem?_toArray, g1, Sem.run_pure]
        · rename_i n e hu
          cases hj : P.info? e with
          | none => simp [hj] at hpl
          | some j =>
            simp [hj] at hpl
            subst hpl
            obtain ⟨cs', g1, g2⟩ := fill_ok (place := fun i => ((List.range n).map fun k => (k * j.size, j.size))[i]?) (place' := fun i => some (i * j.size, j.size)) (fun i x hx => by
              simp only [List.getElem?_map] at hx
              cases hr : (List.range n)[i]? with
              | none => simp [hr] at hx
              | some k =>
                have : k = i := by have := List.getElem?_eq_some_iff.1 hr; obtain ⟨h1, h2⟩ := this; simp at h2; omega
                subst this; simp [hr] at hx; simp [hx]) parts parts'.toList z z'.cells hz2 hp.1 hp.2 hcs
            refine ⟨.agg cs', ?_, .agg (by simpa using g2.1) fun i x y hx hy => g2.2 i x y (by simpa using hx) (by simpa using hy)⟩
            simp only [Instr.build, Sem.run_bind, zeroValue, typeInfo, run_program, hi, Result.andThen_ok, Sem.run_pure, hz, run_underlying hu, sizeOf, hj, g1]
        · cases hpl
      · cases h
    · cases h
  · cases h
end Go.VM
