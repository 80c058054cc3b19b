import Derived.Test.YtnakhkfgheapoaaVM2
/-! The operations that read, write and make rows: what the value machine says is what the model does. -/
set_option linter.all false
namespace Go.VM
open Go Go.RowKit
variable {P : Program} {H H' : Heap} {ι ι' : Inj} {v c x y d : Value} {B frz : Nat} {w0 w w' : World} {t : TypeId}

theorem look_some {a : Addr} {r : Row} (h : look H a = some r) : H[a.block]? = some r ∧ a.spot = some r.gen := by
  unfold look at h
  split at h
  · rename_i r' hr
    split at h
    · rename_i hg; cases h; exact ⟨hr, hg⟩
    · cases h
  · cases h
theorem VRel.ptr_inv {a : Addr} {r : Row} (h : VRel P H ι (.pointer (some a)) c) (hl : look H a = some r) : ∃ l, ι a.block = some l ∧ c = .pointer (some (l.at a.off)) := by
  obtain ⟨h1, h2⟩ := look_some hl
  cases h with
  | ptr hr hg hl => exact ⟨_, hl, rfl⟩
  | stalePtr hr hg hlt h1' =>
    rw [hr] at h1; cases h1; rw [hg] at h2; cases h2; omega
theorem VRel.sl_inv {a : Addr} {r : Row} {len k : Nat} (h : VRel P H ι (.slice (some a) len k) c) (hl : look H a = some r) :
    (∃ l cap, ι a.block = some l ∧ len ≤ cap ∧ a.off + cap * P.cellsOf r.elem ≤ l.n ∧ c = .slice (some (l.at a.off)) len cap) ∨ (len = 0 ∧ (∃ l, ι a.block = some l) ∧ ∃ b, c = .slice (some b) 0 0) := by
  obtain ⟨h1, h2⟩ := look_some hl
  cases h with
  | sl hr hg hl hlen hcap => rw [hr] at h1; cases h1; exact .inl ⟨_, _, hl, hlen, hcap, rfl⟩
  | slZero hr hg hl => exact .inr ⟨rfl, ⟨_, hl⟩, _, rfl⟩
  | staleSl hr hg hlt h1' => rw [hr] at h1; cases h1; rw [hg] at h2; cases h2; omega

theorem Loc.at_add (l : Loc) (i j : Nat) : (l.at i).add j = l.at (i + j) := by
  simp only [Loc.at, Addr.add_mid, Nat.add_assoc]

theorem tsz_true {n : Nat} (h : tsz P t = some (true, n)) : (∃ d, P.underlying t = some d ∧ d.isRow = true) ∧ (P.info? t).map (·.size) = some n := by
  unfold tsz at h
  split at h
  · rename_i fs hu
    refine ⟨⟨_, hu, rfl⟩, ?_⟩
    cases hi : P.info? t <;> simp [hi] at h ⊢; exact h
  · rename_i k e hu
    refine ⟨⟨_, hu, rfl⟩, ?_⟩
    cases hi : P.info? t <;> simp [hi] at h ⊢; exact h
  · cases hi : P.info? t <;> simp [hi] at h
  · cases h
theorem tsz_false {n : Nat} (h : tsz P t = some (false, n)) : (∃ d, P.underlying t = some d ∧ d.isRow = false) ∧ (P.info? t).map (·.size) = some n := by
  unfold tsz at h
  split at h
  · cases hi : P.info? t <;> simp [hi] at h
  · cases hi : P.info? t <;> simp [hi] at h
  · rename_i d h1 h2 hu
    refine ⟨⟨d, hu, ?_⟩, ?_⟩
    · cases d <;> first | rfl | (exact absurd rfl (h1 _)) | (exact absurd rfl (h2 _ _)) | (exact absurd hu (h1 _)) | (exact absurd hu (h2 _ _))
    · cases hi : P.info? t <;> simp [hi] at h ⊢; exact h
  · cases h
theorem tsz_size {b : Bool} {n : Nat} (h : tsz P t = some (b, n)) : (P.info? t).map (·.size) = some n := by
  cases b
  · exact (tsz_false h).2
  · exact (tsz_true h).2
theorem run_isAgg_false {d : TypeDesc} (h : P.underlying t = some d) (hd : d.isRow = false) (w : World) : (isAgg t).run P w = .ok false w := by
  unfold isAgg
  rw [Sem.run_bind, run_underlying h w]
  cases d <;> simp_all

/-- the model's cells behind the machine's -/
theorem RowAt.read {cells : List Value} {l : Loc} (h : RowAt P H ι w cells l) (o n : Nat) (hn : o + n ≤ cells.length) :
    ∃ cs : List Value, cs.length = n ∧ (∀ j v, cs[j]? = some v → w.cell? (l.at (o + j)) = some v) ∧
      ∀ (i : Nat) (v c : Value), ((cells.drop o).take n)[i]? = some v → cs[i]? = some c → VRel P H ι v c := by
  induction n with
  | zero => exact ⟨[], rfl, by simp, by simp⟩
  | succ n ih =>
    obtain ⟨cs, h1, h2, h3⟩ := ih (by omega)
    have hlt : o + n < cells.length := by omega
    obtain ⟨c, hc, hv⟩ := h.2 (o + n) cells[o + n] (List.getElem?_eq_getElem hlt)
    refine ⟨cs ++ [c], by simp [h1], fun j v hj => ?_, fun i v c' hi hc' => ?_⟩
    · by_cases hjn : j < n
      · rw [List.getElem?_append_left (by omega)] at hj; exact h2 j v hj
      · have : j = n := by
          have := (List.getElem?_eq_some_iff.1 hj).1; simp [h1] at this; omega
        subst this
        rw [List.getElem?_append_right (by omega)] at hj; simp [h1] at hj; subst hj; exact hc
    · by_cases hin : i < n
      · rw [List.getElem?_append_left (by omega)] at hc'
        refine h3 i v c' ?_ hc'
        rw [List.getElem?_take] at hi ⊢
        rw [if_pos hin]; rw [if_pos (by omega)] at hi; exact hi
      · have : i = n := by
          have := (List.getElem?_eq_some_iff.1 hc').1; simp [h1] at this; omega
        subst this
        rw [List.getElem?_append_right (by omega)] at hc'; simp [h1] at hc'; subst hc'
        rw [List.getElem?_take, if_pos (by omega), List.getElem?_drop, List.getElem?_eq_getElem hlt] at hi
        cases hi; exact hv
theorem VRel.agg_of {l : List Value} {cs : List Value} (hl : l.length = cs.length) (h : ∀ (i : Nat) (v c : Value), l[i]? = some v → cs[i]? = some c → VRel P H ι v c) :
    VRel P H ι (.agg l.toArray) (.agg cs.toArray) := .agg (by simpa using hl) fun i x y hx hy => h i x y (by simpa using hx) (by simpa using hy)

theorem load_ok (R : Rel P B w0 frz ι H w) (hv : VRel P H ι v c) (h : vload P H t v = some x) :
    ∃ c', (Instr.loadAt t c).run P w = .ok c' w ∧ VRel P H ι x c' := by
  unfold vload at h
  split at h
  · rename_i a
    split at h
    · rename_i r hr
      obtain ⟨l, hl, rfl⟩ := hv.ptr_inv hr
      obtain ⟨_, r', hr', hra⟩ := R.row _ _ hl
      obtain ⟨hr1, _⟩ := look_some hr
      rw [hr'] at hr1; cases hr1
      split at h
      · rename_i n hz
        split at h
        · rename_i hn
          cases h
          obtain ⟨cs, h1, h2, h3⟩ := hra.read a.off n hn
          obtain ⟨⟨d, hu, hd⟩, hs⟩ := tsz_true hz
          refine ⟨.agg cs.toArray, run_loadAt_mid w l.b (l.o + a.off) t cs d (fun j v hj => by have := h2 j v hj; simpa [Loc.at, Nat.add_assoc] using this) hu hd (by rw [hs, h1]), ?_⟩
          exact .agg_of (by simp [h1]; omega) h3
        · cases h
      · rename_i n hz
        obtain ⟨⟨d, hu, hd⟩, hs⟩ := tsz_false hz
        obtain ⟨c', hc', hv'⟩ := hra.2 a.off x h
        refine ⟨c', ?_, hv'⟩
        simp only [Instr.loadAt, Instr.sureAddr, Sem.run_bind, Sem.run_pure, Result.andThen_ok, loadVar, run_isAgg_false hu hd w, Bool.false_eq_true, if_false, run_load, hc']
      · cases h
    · cases h
  · cases h

theorem getElem?_splice (l cs : List Value) (o i : Nat) (h : o + cs.length ≤ l.length) :
    (splice l o cs)[i]? = if i < o then l[i]? else if i < o + cs.length then cs[i - o]? else l[i]? := by
  unfold splice
  have ht : (l.take o).length = o := by simp; omega
  by_cases h1 : i < o
  · rw [if_pos h1, List.append_assoc, List.getElem?_append_left (by omega), List.getElem?_take, if_pos h1]
  · rw [if_neg h1, List.append_assoc, List.getElem?_append_right (by omega), ht]
    by_cases h2 : i < o + cs.length
    · rw [if_pos h2, List.getElem?_append_left (by omega)]
    · rw [if_neg h2, List.getElem?_append_right (by omega), List.getElem?_drop]
      congr 1; omega
theorem length_splice (l cs : List Value) (o : Nat) (h : o + cs.length ≤ l.length) : (splice l o cs).length = l.length := by
  unfold splice; simp; omega
theorem ones_mem {l : List Value} (h : ones l = true) : ∀ v ∈ l, one v = true := by simpa [ones] using h
theorem ones_rel {l cs : List Value} (ho : ones l = true) (hl : l.length = cs.length) (h : ∀ (i : Nat) (v c : Value), l[i]? = some v → cs[i]? = some c → VRel P H ι v c) :
    ∀ c ∈ cs, c.oneCell' = true := fun c hc => by
  obtain ⟨i, hi⟩ := List.getElem?_of_mem hc
  have hlt := (List.getElem?_eq_some_iff.1 hi).1
  have : l[i]? = some l[i] := List.getElem?_eq_getElem (by omega)
  exact (h i _ c this hi).one (ones_mem ho _ (List.getElem_mem _))

/-- writing the cells cs (as list vs in the machine) at offset o of a row of the frame's own -/
theorem Rel.splice (R : Rel P B w0 frz ι H w) {id : Nat} {r : Row} {l : Loc} (hl : ι id = some l) (hr : H[id]? = some r) (hf : frz ≤ id)
    (vs cs : List Value) (o : Nat) (hlen : vs.length = cs.length) (ho : o + vs.length ≤ r.cells.length) (h1 : ones vs = true)
    (hrel : ∀ (i : Nat) (v c : Value), vs[i]? = some v → cs[i]? = some c → VRel P H ι v c) :
    ∃ w' ι', (storeCells (l.at o) cs).run P w = .ok () w' ∧ Ext H ι (H.set id { r with cells := splice r.cells o vs }) ι' ∧
      Rel P B w0 frz ι' (H.set id { r with cells := splice r.cells o vs }) w' := by
  obtain ⟨q1, ⟨cur, q2, q3⟩, q4⟩ := R.own id l r hl hr hf
  obtain ⟨_, r', hr', hra⟩ := R.row id l hl
  rw [hr] at hr'; cases hr'
  have hcur := hra.1
  have hst := run_storeCells_at P l.b (l.o + o) r.elem cs 0 cur w q2 (by omega) (ones_rel h1 hlen hrel)
  simp only [Nat.add_zero] at hst
  have hsp : l.o + o + cs.length ≤ cur.toList.length := by simp; omega
  obtain ⟨RR, EE⟩ := R.write (r' := { r with cells := VM.splice r.cells o vs }) (l' := l) (cur := cur) (cur' := (VM.splice cur.toList (l.o + o) cs).toArray) hl hr hf rfl (Nat.le_refl _) (fun _ => rfl) rfl q2
    (by simp [length_splice _ _ _ hsp, q3]) (by simp only [length_splice _ _ _ ho]; exact hra.1) (fun i v hi => by
      rw [List.getElem?_toArray, getElem?_splice _ _ _ _ hsp]
      rw [getElem?_splice _ _ _ _ ho] at hi
      by_cases h2 : i < o
      · rw [if_pos h2] at hi; rw [if_pos (by omega)]
        obtain ⟨c, hc, hv⟩ := hra.2 i v hi
        refine ⟨c, ?_, hv⟩
        simpa [World.cell?, Loc.at, q2] using hc
      · rw [if_neg h2] at hi; rw [if_neg (by omega)]
        by_cases h3 : i < o + vs.length
        · rw [if_pos h3] at hi; rw [if_pos (by omega)]
          have hlt : i - o < cs.length := by omega
          refine ⟨cs[i - o], ?_, hrel (i - o) v _ hi (List.getElem?_eq_getElem hlt)⟩
          rw [show l.o + i - (l.o + o) = i - o by omega]; exact List.getElem?_eq_getElem hlt
        · rw [if_neg h3] at hi; rw [if_neg (by omega)]
          obtain ⟨c, hc, hv⟩ := hra.2 i v hi
          refine ⟨c, ?_, hv⟩
          simpa [World.cell?, Loc.at, q2] using hc)
  exact ⟨_, _, hst, EE, RR⟩

theorem store_ok (R : Rel P B w0 frz ι H w) (hv : VRel P H ι v c) (hx : VRel P H ι x d) (h : vstore P frz H t x v = some H') :
    ∃ w' ι', (Instr.storeAt t c d).run P w = .ok () w' ∧ Ext H ι H' ι' ∧ Rel P B w0 frz ι' H' w' := by
  unfold vstore at h
  split at h
  · rename_i a
    split at h
    · rename_i r hr
      obtain ⟨l, hl, rfl⟩ := hv.ptr_inv hr
      obtain ⟨hr1, _⟩ := look_some hr
      split at h
      · rename_i ag n hz
        split at h
        · rename_i hn
          obtain ⟨hf, hsz, hle, h1⟩ := hn
          cases h
          have hb : x ≠ .map none := fun e => by subst e; simp [Value.cells, ones, one] at h1
          obtain ⟨e1, e2⟩ := hx.cells hb
          obtain ⟨w', ι', hst, E, RR⟩ := R.splice hl hr1 hf x.cells.toList d.cells.toList a.off (by simpa using e1) (by simpa [hsz] using hle) h1
            (fun i v c hi hc => e2 i v c (by simpa using hi) (by simpa using hc))
          refine ⟨w', ι', ?_, E, RR⟩
          have hs := tsz_size hz
          cases hq : P.info? t with
          | none => simp [hq] at hs
          | some i =>
            simp [hq] at hs
            have : d.cells.size = i.size := by omega
            simp [Instr.storeAt, Instr.sureAddr, storeVar, sizeOf, typeInfo, hq, this, hst]
        · cases h
      · cases h
    · cases h
  · cases h
end Go.VM
