import Derived.Test.YtnakhkfgheapoaaVM4
/-! The other operations. -/
set_option linter.all false
namespace Go.VM
open Go Go.RowKit
variable {P : Program} {H H' : Heap} {ι ι' : Inj} {v c x y d s : Value} {B frz : Nat} {w0 w w' : World} {t : TypeId}

theorem run_firstCells_take (P : Program) {cs : List Value} {m n : Nat} (k : Nat) (hk : k ≤ m) (hlen : cs.length = m * n)
    (h : (d = .slice none 0 0 ∧ m = 0) ∨ ∃ a cap, d = .slice (some a) m cap ∧ ∀ j v, cs[j]? = some v → w.cell? (a.add j) = some v) :
    (Builtin.firstCells n k d).run P w = .ok (cs.take (k * n)).toArray w := by
  rcases h with ⟨rfl, rfl⟩ | ⟨a, cap, rfl, h⟩
  · have : k = 0 := by omega
    subst this
    simp [Builtin.firstCells]
  · have hm : k * n ≤ m * n := Nat.mul_le_mul_right _ hk
    have := run_loadCells_list (P := P) w a (cs.take (k * n)) (fun j v hj => h j v (by rw [List.getElem?_take] at hj; split at hj; exact hj; cases hj))
    simp only [Builtin.firstCells]
    rwa [show (cs.take (k * n)).length = k * n by simp; omega] at this

theorem copy_ok (R : Rel P B w0 frz ι H w) {u ty : TypeId} (hs : VRel P H ι s c) (hx : VRel P H ι x d) (h : vcopy P frz H t u s x = some (v, H')) :
    ∃ c' w' ι', (Builtin.copy_ #[t, u] ty #[c, d]).run P w = .ok c' w' ∧ VRel P H' ι' v c' ∧ Ext H ι H' ι' ∧ Rel P B w0 frz ι' H' w' := by
  unfold vcopy at h
  split at h
  · rename_i htu
    subst htu
    split at h
    · rename_i e n he
      obtain ⟨hu, i, z, hi, hsz, hp, hb, hz, hzs⟩ := eltp_spec he
      subst hsz
      split at h
      · rename_i m news hsrc
        obtain ⟨cs, hc1, hc2, hc3, hc4⟩ := src_ok R hx hsrc
        have hl : (Builtin.lenOf d).run P w = .ok m w := by
          rcases hc4 with ⟨rfl, rfl⟩ | ⟨a, cap, rfl, _⟩ <;> rfl
        split at h
        · have hf := run_firstCells_take P 0 (Nat.zero_le _) hc1 hc4
          cases h
          cases hs with
          | nilSl =>
            refine ⟨_, w, ι, ?_, .int _ _, Ext.refl _ _, R⟩
            simp [Builtin.copy_, run_underlying hu, sizeOf, typeInfo, hi, hl] at hf ⊢
            simp [hf, goInt]
          | noSl =>
            refine ⟨_, w, ι, ?_, .int _ _, Ext.refl _ _, R⟩
            simp [Builtin.copy_, run_underlying hu, sizeOf, typeInfo, hi, hl] at hf ⊢
            simp [hf, goInt, storeCells]
        · rename_i a0 len k
          split at h
          · rename_i r hr
            obtain ⟨hr1, hr2⟩ := look_some hr
            split at h
            · rename_i hc
              obtain ⟨hfr, hoff, ho⟩ := hc
              cases h
              have hkm : Nat.min m len ≤ m := Nat.min_le_left _ _
              have hf := run_firstCells_take P (Nat.min m len) hkm hc1 hc4
              have hkn : Nat.min m len * i.size ≤ m * i.size := Nat.mul_le_mul_right _ hkm
              have hkl : Nat.min m len * i.size ≤ len * i.size := Nat.mul_le_mul_right _ (Nat.min_le_right _ _)
              have htl : (news.take (Nat.min m len * i.size)).length = Nat.min m len * i.size := by simp [hc2, Nat.min_eq_left hkn]
              have htc : (cs.take (Nat.min m len * i.size)).length = Nat.min m len * i.size := by simp [hc1, Nat.min_eq_left hkn]
              have hones : ones (news.take (Nat.min m len * i.size)) = true := by
                simp only [ones, List.all_eq_true] at ho ⊢
                exact fun v hv => ho v (List.mem_of_mem_take hv)
              have hrl : ∀ (j : Nat) (v c : Value), (news.take (Nat.min m len * i.size))[j]? = some v → (cs.take (Nat.min m len * i.size))[j]? = some c → VRel P H ι v c := fun j v c hv hc => by
                rw [List.getElem?_take] at hv hc
                split at hv
                · rename_i hj; rw [if_pos hj] at hc; exact hc3 j v c hv hc
                · cases hv
              have key : ∀ (l : Loc), ι a0.block = some l → ∀ (b : Addr) (cap : Nat), (Nat.min m len = 0 ∨ b = l.at a0.off) →
                  ∃ c' w' ι', (Builtin.copy_ #[t, t] ty #[.slice (some b) len cap, d]).run P w = .ok c' w' ∧
                    VRel P (H.set a0.block { r with cells := VM.splice r.cells a0.off (news.take (Nat.min m len * i.size)) }) ι' (.int .i64 (Nat.min m len)) c' ∧
                    Ext H ι (H.set a0.block { r with cells := VM.splice r.cells a0.off (news.take (Nat.min m len * i.size)) }) ι' ∧
                    Rel P B w0 frz ι' (H.set a0.block { r with cells := VM.splice r.cells a0.off (news.take (Nat.min m len * i.size)) }) w' := by
                intro l hl' b cap hbl
                obtain ⟨w', ι', hst, E, RR⟩ := R.splice hl' hr1 hfr (news.take (Nat.min m len * i.size)) (cs.take (Nat.min m len * i.size)) a0.off (by rw [htl, htc]) (by rw [htl]; omega) hones hrl
                rcases hbl with h0 | rfl
                · have hw : w' = w := by
                    rw [h0] at hst; simp [storeCells] at hst; exact hst.symm
                  subst hw
                  refine ⟨_, _, _, ?_, .int _ _, E, RR⟩
                  have h0' : Nat.min m len * i.size = 0 := by rw [h0]; simp
                  rw [h0'] at hf
                  simp [Builtin.copy_, run_underlying hu, sizeOf, typeInfo, hi, hl, hf, storeCells, goInt]
                · refine ⟨_, _, _, ?_, .int _ _, E, RR⟩
                  simp [Builtin.copy_, run_underlying hu, sizeOf, typeInfo, hi, hl, hf, hst, goInt]
              rcases hs.sl_inv hr with ⟨l, cap, hl', _, _, rfl⟩ | ⟨rfl, ⟨l, hl'⟩, b, rfl⟩
              · exact key l hl' _ _ (.inr rfl)
              · exact key l hl' _ _ (.inl (by simp))
            · cases h
          · cases h
        · cases h
      · cases h
    · cases h
  · cases h

theorem tzero_spec {e : TypeId} {z : List Value} (h : tzero P e = some z) : ∃ i z', P.info? e = some i ∧ i.zero = some z' ∧ z'.cells.toList = z ∧ ∀ v ∈ z, lit1 v = true := by
  unfold tzero at h
  split at h
  · rename_i z' hz
    split at h
    · rename_i ha
      cases h
      cases hi : P.info? e with
      | none => simp [hi] at hz
      | some i => simp [hi] at hz; exact ⟨i, z', rfl, hz, rfl, List.all_eq_true.1 ha⟩
    · cases h
  · cases h
theorem lit1_one (h : lit1 v = true) : one v = true := by
  cases v <;> first | rfl | (simp [lit1] at h)
theorem getElem?_flatten_replicate (z : List Value) : ∀ (m j : Nat), j < m * z.length → (List.replicate m z).flatten[j]? = z[j % z.length]?
  | 0, j, h => by simp at h
  | m + 1, j, h => by
    simp only [List.replicate_succ, List.flatten_cons]
    by_cases hj : j < z.length
    · rw [List.getElem?_append_left hj, Nat.mod_eq_of_lt hj]
    · rw [List.getElem?_append_right (by omega), getElem?_flatten_replicate z m (j - z.length) (by rw [Nat.succ_mul] at h; omega)]
      congr 1
      rw [Nat.mod_eq_sub_mod (by omega : z.length ≤ j)]
theorem length_flatten_replicate (z : List Value) (m : Nat) : (List.replicate m z).flatten.length = m * z.length := by simp
theorem madeCells_get (z : Array Value) (n j : Nat) (hj : j < n) (hz : 0 < z.size) : (madeCells z n)[j]? = z[j % z.size]? := by
  have : j % z.size < z.size := Nat.mod_lt _ hz
  simp [madeCells, Array.getElem?_map, Array.getElem?_range, hj, this]

theorem make_ok (R : Rel P B w0 frz ι H w) (hf0 : frz ≤ H.length) (hx : VRel P H ι x c) (hy : VRel P H ι y d) (h : vmake P H t x y = some (v, H')) :
    ∃ c' w' ι', (Instr.makeSlice t c d).run P w = .ok c' w' ∧ VRel P H' ι' v c' ∧ Ext H ι H' ι' ∧ Rel P B w0 frz ι' H' w' := by
  unfold vmake at h
  split at h
  · rename_i kl l kc c0
    cases hx; cases hy
    split at h
    · rename_i e n he
      obtain ⟨hu, i, z, hi, hsz, hp, hb, hz, hzs⟩ := eltp_spec he
      split at h
      · rename_i z1 hz1
        obtain ⟨i', z', hi', hz', hzz, hlit⟩ := tzero_spec hz1
        rw [hi] at hi'; cases hi'
        rw [hz] at hz'; cases hz'
        split at h
        · rename_i hc
          cases h
          subst hsz
          have hrun := run_make (P := P) w t e i z hu hi hz kl kc l c0 hc.1 hc.2.1 (by
            have h1 : (i.bytes : Int) * c0 ≤ 65536 * 1073741824 := by
              have : (i.bytes : Int) ≤ 65536 := by omega
              exact Int.mul_le_mul this hc.2.2 (by omega) (by omega)
            omega) (by omega)
          have hzl : z1.length = i.size := by rw [← hzz]; simpa using hzs
          have hmul : l.toNat * i.size ≤ c0.toNat * i.size := Nat.mul_le_mul_right _ (by omega)
          obtain ⟨RR, EE⟩ := R.alloc hf0 (List.replicate l.toNat z1).flatten (madeCells z.cells (c0.toNat * i.size)) e (by rw [length_flatten_replicate, size_madeCells, hzl]; exact hmul) (fun j v hj => by
            have hlt := (List.getElem?_eq_some_iff.1 hj).1
            rw [length_flatten_replicate] at hlt
            rw [getElem?_flatten_replicate _ _ _ hlt] at hj
            refine ⟨v, ?_, .lit (hlit v (List.mem_of_getElem? hj))⟩
            rw [madeCells_get _ _ _ (by rw [hzl] at hlt; omega) (by omega), ← hj, ← hzz]; simp)
          refine ⟨_, _, _, hrun, ?_, EE, RR⟩
          exact .sl (r := ⟨(List.replicate l.toNat z1).flatten, 0, e⟩) (l := ⟨w.heap.size, 0, _⟩) (by simp) rfl (by simp [Inj.at]; rfl) (by omega) (by simp [cellsOf_of hi, size_madeCells])
        · cases h
      · cases h
    · cases h
  · cases h

theorem alloc_ok (R : Rel P B w0 frz ι H w) (hf0 : frz ≤ H.length) {z : List Value} (h : tzero P t = some z) :
    ∃ c' w' ι', (Instr.alloc t true (.tuple #[])).run P w = .ok c' w' ∧ VRel P (H ++ [⟨z, 0, t⟩]) ι' (newp H) c' ∧ Ext H ι (H ++ [⟨z, 0, t⟩]) ι' ∧ Rel P B w0 frz ι' (H ++ [⟨z, 0, t⟩]) w' := by
  obtain ⟨i, z', hi, hz, hzz, hlit⟩ := tzero_spec h
  obtain ⟨RR, EE⟩ := R.alloc hf0 z z'.cells t (by rw [← hzz]; simp) (fun j v hj => ⟨v, by rw [← hzz] at hj; simpa using hj, .lit (hlit v (List.mem_of_getElem? hj))⟩)
  refine ⟨.pointer (some ⟨w.heap.size, 0, none⟩), _, _, by simp [Instr.alloc, zeroValue, typeInfo, hi, hz, newVar, newRow], ?_, EE, RR⟩
  have := VRel.ptr (P := P) (H := H ++ [⟨z, 0, t⟩]) (ι := ι.at H.length ⟨w.heap.size, 0, z'.cells.size⟩) (a := ⟨H.length, 0, some 0⟩) (r := ⟨z, 0, t⟩) (l := ⟨w.heap.size, 0, z'.cells.size⟩) (by simp) rfl (by simp [Inj.at])
  simpa [newp, Loc.at] using this

theorem box_ok (R : Rel P B w0 frz ι H w) (hf0 : frz ≤ H.length) (hx : VRel P H ι x c) (h : ones x.cells.toList = true) :
    ∃ c' w' ι', (Instr.box t c).run P w = .ok c' w' ∧ VRel P (H ++ [⟨x.cells.toList, 0, t⟩]) ι' (newp H) c' ∧ Ext H ι (H ++ [⟨x.cells.toList, 0, t⟩]) ι' ∧ Rel P B w0 frz ι' (H ++ [⟨x.cells.toList, 0, t⟩]) w' := by
  have hb : x ≠ .map none := fun e => by subst e; simp [Value.cells, ones, one] at h
  obtain ⟨e1, e2⟩ := hx.cells hb
  obtain ⟨RR, EE⟩ := R.alloc hf0 x.cells.toList c.cells t (by simp [e1]) (fun j v hj => by
    have hlt : j < c.cells.size := by have := (List.getElem?_eq_some_iff.1 hj).1; simp at this; omega
    exact ⟨c.cells[j], Array.getElem?_eq_getElem hlt, e2 j v _ (by simpa using hj) (Array.getElem?_eq_getElem hlt)⟩)
  refine ⟨.pointer (some ⟨w.heap.size, 0, none⟩), _, _, by simp [Instr.box, newVar, newRow], ?_, EE, RR⟩
  have := VRel.ptr (P := P) (H := H ++ [⟨x.cells.toList, 0, t⟩]) (ι := ι.at H.length ⟨w.heap.size, 0, c.cells.size⟩) (a := ⟨H.length, 0, some 0⟩) (r := ⟨x.cells.toList, 0, t⟩) (l := ⟨w.heap.size, 0, c.cells.size⟩) (by simp) rfl (by simp [Inj.at])
  simpa [newp, Loc.at] using this

theorem finfo_spec {f o n : Nat} {ag : Bool} (h : finfo P t f = some (o, ag, n)) : ∃ fs fd, P.underlying t = some (.struct fs) ∧ fs[f]? = some fd ∧ fd.offset = o ∧ tsz P fd.type = some (ag, n) ∧ n ≠ 0 := by
  unfold finfo at h
  split at h
  · rename_i fs hu
    split at h
    · rename_i fd hf
      split at h
      · rename_i ag' n' hz
        split at h
        · cases h
        · cases h; exact ⟨fs, fd, hu, hf, rfl, hz, by assumption⟩
      · cases h
    · cases h
  · cases h
theorem run_sizeOf {n : Nat} (h : (P.info? t).map (·.size) = some n) (w : World) : (sizeOf t).run P w = .ok n w := by
  cases hi : P.info? t with
  | none => simp [hi] at h
  | some i => simp [hi] at h; simp [sizeOf, typeInfo, hi, h]

theorem fieldAddr_ok {f : Nat} (hx : VRel P H ι x c) (h : vfieldAddr P H t f x = some v) : ∃ c', (Instr.fieldAt t c f).run P w = .ok c' w ∧ VRel P H ι v c' := by
  unfold vfieldAddr at h
  split at h
  · rename_i a
    split at h
    · rename_i r hr
      split at h
      · rename_i o ag n hf
        cases h
        obtain ⟨l, hl, rfl⟩ := hx.ptr_inv hr
        obtain ⟨fs, fd, hu, hfd, ho, hz, hn⟩ := finfo_spec hf
        obtain ⟨h1, h2⟩ := look_some hr
        refine ⟨.pointer (some (l.at (a.off + o))), ?_, ?_⟩
        · simp [Instr.fieldAt, run_underlying hu, hfd, Instr.sureAddr, fieldPlace, run_sizeOf (tsz_size hz), hn, Loc.at_add, ho]
        · exact .ptr (a := ⟨a.block, a.off + o, a.spot⟩) h1 h2 hl
      · cases h
    · cases h
  · cases h

theorem part_ok {ag : Bool} {n o : Nat} {cs cs' : Array Value} (hz : tsz P t = some (ag, n)) (hs : cs.size = cs'.size) (hrel : ∀ (i : Nat) (x y : Value), cs[i]? = some x → cs'[i]? = some y → VRel P H ι x y)
    (h : part' ag n o cs.toList = some v) : ∃ c', (part t cs' o).run P w = .ok c' w ∧ VRel P H ι v c' := by
  unfold part' at h
  cases ag with
  | true =>
    simp only [if_true] at h
    cases h
    obtain ⟨⟨d, hu, hd⟩, hsz⟩ := tsz_true hz
    have hagg : (isAgg t).run P w = .ok true w := by
      unfold isAgg
      rw [Sem.run_bind, run_underlying hu w]
      cases d <;> simp_all
    refine ⟨.agg (cs'.extract o (o + n)), by simp [part, hagg, run_sizeOf hsz], .agg (by simp; omega) fun i x y hx hy => ?_⟩
    rw [List.getElem?_toArray, List.getElem?_take] at hx
    rw [Array.getElem?_extract] at hy
    split at hx
    · split at hy
      · rw [List.getElem?_drop] at hx
        exact hrel (o + i) x y (by simpa using hx) hy
      · cases hy
    · cases hx
  | false =>
    simp only [Bool.false_eq_true, if_false] at h
    obtain ⟨⟨d, hu, hd⟩, hsz⟩ := tsz_false hz
    have hlt : o < cs'.size := by have := (List.getElem?_eq_some_iff.1 h).1; simp at this; omega
    refine ⟨cs'[o], by simp [part, run_isAgg_false hu hd w, hlt], hrel o v _ (by simpa using h) (Array.getElem?_eq_getElem hlt)⟩

theorem agg_inv {cs : Array Value} (h : VRel P H ι (.agg cs) c) : ∃ cs', c = .agg cs' ∧ cs.size = cs'.size ∧ ∀ (i : Nat) (x y : Value), cs[i]? = some x → cs'[i]? = some y → VRel P H ι x y := by
  cases h with | agg hc h => exact ⟨_, rfl, hc, h⟩
theorem field_ok {f : Nat} (hx : VRel P H ι x c) (h : vfield P t f x = some v) : ∃ c', (Instr.field t c f).run P w = .ok c' w ∧ VRel P H ι v c' := by
  unfold vfield at h
  split at h
  · rename_i cs
    obtain ⟨cs', rfl, hs, hrel⟩ := agg_inv hx
    split at h
    · rename_i o ag n hf
      obtain ⟨fs, fd, hu, hfd, ho, hz, hn⟩ := finfo_spec hf
      obtain ⟨c', h1, h2⟩ := part_ok (w := w) (o := o) hz hs hrel h
      exact ⟨c', by simp [Instr.field, run_underlying hu, hfd, asAgg, ho, h1], h2⟩
    · cases h
  · cases h

theorem indexAddr_ok (hx : VRel P H ι x c) (hy : VRel P H ι y d) (h : vindexAddr P H t x y = some v) : ∃ c', (Instr.indexAt t c d).run P w = .ok c' w ∧ VRel P H ι v c' := by
  unfold vindexAddr at h
  split at h
  · rename_i a len k kk i
    cases hy
    split at h
    · rename_i r hr
      split at h
      · rename_i e n he
        split at h
        · rename_i hi
          cases h
          obtain ⟨hu, j, z, hj, hsz, hp, hb, hz, hzs⟩ := eltp_spec he
          obtain ⟨h1, h2⟩ := look_some hr
          rcases hx.sl_inv hr with ⟨l, cap, hl, _, _, rfl⟩ | ⟨rfl, _⟩
          · refine ⟨.pointer (some (l.at (a.off + i.toNat * n))), ?_, .ptr (a := ⟨a.block, a.off + i.toNat * n, a.spot⟩) h1 h2 hl⟩
            simp [Instr.indexAt, asIntOf, run_underlying hu, hi, run_sizeOf (by rw [hj]; simp; exact hsz : (P.info? e).map (·.size) = some n), Loc.at_add]
          · omega
        · cases h
      · cases h
    · cases h
  · cases h

theorem isStr_spec (h : isStr P t = true) : P.underlying t = some .string := by
  unfold isStr at h; split at h; assumption; cases h
theorem isSl_spec (h : isSl P t = true) : ∃ e, P.underlying t = some (.slice e) := by
  unfold isSl at h; split at h; exact ⟨_, by assumption⟩; cases h
theorem index_ok (hx : VRel P H ι x c) (hy : VRel P H ι y d) (h : vindex P t x y = some v) : ∃ c', (Instr.index t c d).run P w = .ok c' w ∧ VRel P H ι v c' := by
  unfold vindex at h
  split at h
  · rename_i s k i
    cases hx; cases hy
    split at h
    · rename_i hu
      split at h
      · rename_i hi
        split at h
        · rename_i b hb
          cases h
          exact ⟨_, by simp [Instr.index, asIntOf, run_underlying hu, hi, hb], .int _ _⟩
        · cases h
      · cases h
    · cases h
  · rename_i cs k i
    cases hy
    obtain ⟨cs', rfl, hs, hrel⟩ := agg_inv hx
    split at h
    · rename_i n e hu
      split at h
      · rename_i ag m hz
        split at h
        · rename_i hi
          obtain ⟨c', h1, h2⟩ := part_ok (w := w) (o := i.toNat * m) hz hs hrel h
          exact ⟨c', by simp [Instr.index, asIntOf, run_underlying hu, hi, run_sizeOf (tsz_size hz), h1], h2⟩
        · cases h
      · cases h
    · cases h
  · cases h
theorem len_ok {ty : TypeId} {ts : Array TypeId} {cs : Array Value} (ht : ts[0]? = some t) (hc : cs[0]? = some c) (hx : VRel P H ι x c) (h : vlen P H t x = some v) : ∃ c', (Builtin.len_ ts ty cs).run P w = .ok c' w ∧ VRel P H ι v c' := by
  unfold vlen at h
  split at h
  · cases hx
    split at h
    · rename_i hu; cases h; exact ⟨_, by simp [Builtin.len_, ht, hc, run_underlying (isStr_spec hu), goInt], .int _ _⟩
    · cases h
  · split at h
    · rename_i hu; obtain ⟨e, hu⟩ := isSl_spec hu; cases h
      cases hx with
      | nilSl => exact ⟨_, by simp [Builtin.len_, ht, hc, run_underlying hu, goInt], .int _ _⟩
      | noSl => exact ⟨_, by simp [Builtin.len_, ht, hc, run_underlying hu, goInt], .int _ _⟩
    · cases h
  · split at h
    · rename_i r hr
      split at h
      · rename_i hu; obtain ⟨e, hu⟩ := isSl_spec hu; cases h
        rcases hx.sl_inv hr with ⟨l, cap, hl, _, _, rfl⟩ | ⟨rfl, _, b, rfl⟩
        · exact ⟨_, by simp [Builtin.len_, ht, hc, run_underlying hu, goInt], .int _ _⟩
        · exact ⟨_, by simp [Builtin.len_, ht, hc, run_underlying hu, goInt], .int _ _⟩
      · cases h
    · cases h
  · cases h
theorem cap_ok {ty : TypeId} {ts : Array TypeId} {cs : Array Value} (ht : ts[0]? = some t) (hc : cs[0]? = some c) (hx : VRel P H ι x c) (h : vcap P t x = some v) : ∃ c', (Builtin.cap_ ts ty cs).run P w = .ok c' w ∧ VRel P H ι v c' := by
  unfold vcap at h
  split at h
  · split at h
    · rename_i hu; obtain ⟨e, hu⟩ := isSl_spec hu; cases h
      cases hx with
      | nilSl => exact ⟨_, by simp [Builtin.cap_, ht, hc, run_underlying hu, goInt], .int _ _⟩
      | noSl => exact ⟨_, by simp [Builtin.cap_, ht, hc, run_underlying hu, goInt], .int _ _⟩
    · cases h
  · cases h
end Go.VM
