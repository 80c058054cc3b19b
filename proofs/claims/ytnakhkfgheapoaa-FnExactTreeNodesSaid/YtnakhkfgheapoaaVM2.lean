import Derived.Test.YtnakhkfgheapoaaVM1
import Derived.Laws.CopyOwn
import Derived.Laws.IdiomCopy
import Derived.Deep.MidRow
/-! What an allocation, a write and a move to a new block do to the relation. -/
set_option linter.all false
namespace Go.VM
open Go Go.RowKit
variable {P : Program} {H H' : Heap} {ι ι' : Inj} {v c : Value} {B frz : Nat} {w0 w w' : World} {t : Env} {tmps : Array Value}

theorem heap_alloc_new (w : World) (o : Obj) : (w.alloc o).heap[w.heap.size]? = some o := by
  show (w.heap.push o)[w.heap.size]? = _
  simp

def Inj.at (ι : Inj) (id : Nat) (l : Loc) : Inj := fun x => if x = id then some l else ι x

theorem Rel.lt (R : Rel P B w0 frz ι H w) {id : Nat} {l : Loc} (h : ι id = some l) : id < H.length := by
  obtain ⟨_, r, hr, _⟩ := R.row id l h
  exact (List.getElem?_eq_some_iff.1 hr).1
theorem Rel.drew (R : Rel P B w0 frz ι H w) : Rel P B w0 frz ι H w.drew := ⟨R.below.drew, R.hB, R.row, R.own⟩

theorem RowAt.world {cells : List Value} {l : Loc} (h : RowAt P H ι w cells l) (hw : ∀ a : Addr, a.block = l.b → w'.cell? a = w.cell? a) : RowAt P H ι w' cells l :=
  ⟨h.1, fun i v hv => let ⟨c, h1, h2⟩ := h.2 i v hv; ⟨c, by rw [hw _ rfl]; exact h1, h2⟩⟩

theorem getElem?_push_lt {α : Type} {l : List α} {x r : α} {i : Nat} (h : l[i]? = some r) : (l ++ [x])[i]? = some r := by
  rw [List.getElem?_append_left (List.getElem?_eq_some_iff.1 h).1]; exact h

theorem Ext.push (r : Row) (l : Loc) (_hno : ι H.length = none) : Ext H ι (H ++ [r]) (ι.at H.length l) := fun id r' hr =>
  ⟨r', getElem?_push_lt hr, rfl, Nat.le_refl _, fun _ => by
    have : id ≠ H.length := by have := (List.getElem?_eq_some_iff.1 hr).1; omega
    simp [Inj.at, this]⟩

theorem Rel.fresh_none (R : Rel P B w0 frz ι H w) : ι H.length = none := by
  cases h : ι H.length with
  | none => rfl
  | some l => exact absurd (R.lt h) (Nat.lt_irrefl _)

/-- a new row -/
theorem Rel.alloc (R : Rel P B w0 frz ι H w) (hf : frz ≤ H.length) (cs : List Value) (cs' : Array Value) (e : TypeId) (hlen : cs.length ≤ cs'.size)
    (hrel : ∀ (i : Nat) (v : Value), cs[i]? = some v → ∃ c, cs'[i]? = some c ∧ VRel P H ι v c) :
    Rel P B w0 frz (ι.at H.length ⟨w.heap.size, 0, cs'.size⟩) (H ++ [⟨cs, 0, e⟩]) (w.alloc (.cells cs' e)) ∧
    Ext H ι (H ++ [⟨cs, 0, e⟩]) (ι.at H.length ⟨w.heap.size, 0, cs'.size⟩) := by
  have hno := R.fresh_none
  have E := Ext.push (H := H) (ι := ι) ⟨cs, 0, e⟩ ⟨w.heap.size, 0, cs'.size⟩ hno
  have hB := R.hB
  refine ⟨⟨R.below.alloc R.hB _, by simp; omega, ?_, ?_⟩, E⟩
  · intro id l hl
    by_cases hid : id = H.length
    · subst hid
      simp [Inj.at] at hl
      subst hl
      refine ⟨by simp, ⟨cs, 0, e⟩, by simp, hlen, fun i v hv => ?_⟩
      obtain ⟨c, hc, hv'⟩ := hrel i v hv
      exact ⟨c, by simp [Loc.at, hc], hv'.mono E⟩
    · simp [Inj.at, hid] at hl
      obtain ⟨h1, r, hr, hra⟩ := R.row id l hl
      refine ⟨by simp; omega, r, getElem?_push_lt hr, ?_⟩
      exact (hra.mono E).world fun a ha => World.cell?_alloc_lt _ _ _ (by omega)
  · intro id l r hl hr hfr
    by_cases hid : id = H.length
    · subst hid
      simp [Inj.at] at hl
      subst hl
      simp at hr
      subst hr
      refine ⟨hB, ⟨cs', heap_alloc_new _ _, by simp⟩, fun id' l' hl' hb => ?_⟩
      by_cases hid' : id' = H.length
      · exact hid'
      · simp [Inj.at, hid'] at hl'
        have := (R.row id' l' hl').1
        simp at hb; omega
    · simp [Inj.at, hid] at hl
      have hlt := R.lt hl
      rw [List.getElem?_append_left hlt] at hr
      obtain ⟨h1, ⟨cs1, h2, h3⟩, h4⟩ := R.own id l r hl hr hfr
      have hbl := (R.row id l hl).1
      refine ⟨h1, ⟨cs1, ?_, h3⟩, fun id' l' hl' hb => ?_⟩
      · rw [Below.heap_alloc _ _ _ hbl]; exact h2
      · by_cases hid' : id' = H.length
        · subst hid'; simp [Inj.at] at hl'; subst hl'; simp at hb; omega
        · simp [Inj.at, hid'] at hl'; exact h4 id' l' hl' hb

theorem getElem?_set' {α : Type} (l : List α) (i j : Nat) (x : α) (h : i < l.length) : (l.set i x)[j]? = if j = i then some x else l[j]? := by
  rw [List.getElem?_set]
  by_cases hj : i = j
  · subst hj; simp [h]
  · simp [hj, Ne.symm hj]

theorem Ext.set {id : Nat} {r r' : Row} {l' : Loc} (hr : H[id]? = some r) (he : r'.elem = r.elem) (hg : r.gen ≤ r'.gen) (hl : r'.gen = r.gen → ι id = some l') :
    Ext H ι (H.set id r') (ι.at id l') := fun id' s hs => by
  have hlt : id < H.length := (List.getElem?_eq_some_iff.1 hr).1
  by_cases h : id' = id
  · subst h
    rw [hr] at hs; cases hs
    refine ⟨r', by rw [getElem?_set' _ _ _ _ hlt]; simp, he, hg, fun hge => ?_⟩
    simp [Inj.at, hl hge]
  · exact ⟨s, by rw [getElem?_set' _ _ _ _ hlt]; simp [h, hs], rfl, Nat.le_refl _, fun _ => by simp [Inj.at, h]⟩

/-- a row of the frame's own is written in place -/
theorem Rel.write (R : Rel P B w0 frz ι H w) {id : Nat} {r r' : Row} {l l' : Loc} {cur cur' : Array Value} (hl : ι id = some l) (hr : H[id]? = some r) (hf : frz ≤ id)
    (he : r'.elem = r.elem) (hg : r.gen ≤ r'.gen) (hll : r'.gen = r.gen → l' = l) (hb : l'.b = l.b)
    (hcur : w.heap[l.b]? = some (.cells cur r.elem (0, 0))) (hsz : l'.o + l'.n = cur'.size)
    (hlen : r'.cells.length ≤ l'.n) (hrel : ∀ (i : Nat) (v : Value), r'.cells[i]? = some v → ∃ c, cur'[l'.o + i]? = some c ∧ VRel P H ι v c) :
    Rel P B w0 frz (ι.at id l') (H.set id r') (w.setRow l.b cur') ∧ Ext H ι (H.set id r') (ι.at id l') := by
  have E : Ext H ι (H.set id r') (ι.at id l') := Ext.set hr he hg fun h => by rw [hl, hll h]
  have hlt := R.lt hl
  obtain ⟨o1, ⟨cs1, o2, o3⟩, o4⟩ := R.own id l r hl hr hf
  refine ⟨⟨below_setRow R.below o1 _, by simpa using R.hB, ?_, ?_⟩, E⟩
  · intro id' s hs
    by_cases hid : id' = id
    · subst hid
      simp [Inj.at] at hs
      subst hs
      refine ⟨by simpa [hb] using (R.row _ l hl).1, r', by rw [getElem?_set' _ _ _ _ hlt]; simp, hlen, fun i v hv => ?_⟩
      obtain ⟨c, hc, hv'⟩ := hrel i v hv
      exact ⟨c, by rw [Loc.at, hb, cell_setRow_same _ _ _ _ _ _ _ hcur]; exact hc, hv'.mono E⟩
    · simp [Inj.at, hid] at hs
      obtain ⟨h1, r1, hr1, hra⟩ := R.row id' s hs
      refine ⟨by simpa using h1, r1, by rw [getElem?_set' _ _ _ _ hlt]; simp [hid, hr1], ?_⟩
      exact (hra.mono E).world fun a ha => cell_setRow_other _ _ _ _ (fun e => hid (o4 id' s hs (by rw [← ha]; exact e)))
  · intro id' s r1 hs hr1 hfr
    rw [getElem?_set' _ _ _ _ hlt] at hr1
    by_cases hid : id' = id
    · subst hid
      simp [Inj.at] at hs
      subst hs
      simp at hr1
      subst hr1
      refine ⟨by rw [hb]; exact o1, ⟨cur', by rw [hb, he]; exact setRow_heap _ _ _ _ _ _ hcur, hsz⟩, fun id2 l2 h2 hb2 => ?_⟩
      by_cases hid2 : id2 = id'
      · exact hid2
      · simp [Inj.at, hid2] at h2; exact o4 id2 l2 h2 (by rw [hb2, hb])
    · simp [Inj.at, hid] at hs
      simp [hid] at hr1
      obtain ⟨q1, ⟨cs2, q2, q3⟩, q4⟩ := R.own id' s r1 hs hr1 hfr
      have hne : s.b ≠ l.b := fun e => hid (o4 id' s hs e)
      refine ⟨q1, ⟨cs2, by rw [setRow_other _ _ _ _ hne]; exact q2, q3⟩, fun id2 l2 h2 hb2 => ?_⟩
      by_cases hid2 : id2 = id
      · subst hid2
        simp [Inj.at] at h2
        subst h2
        exact absurd (hb2.symm.trans hb) hne
      · simp [Inj.at, hid2] at h2; exact q4 id2 l2 h2 hb2

/-- a row of the frame's own moves to a new block -/
theorem Rel.move (R : Rel P B w0 frz ι H w) {id : Nat} {r r' : Row} {l : Loc} {cur' : Array Value} (hl : ι id = some l) (hr : H[id]? = some r) (_hf : frz ≤ id)
    (he : r'.elem = r.elem) (hg : r.gen < r'.gen)
    (hlen : r'.cells.length ≤ cur'.size) (hrel : ∀ (i : Nat) (v : Value), r'.cells[i]? = some v → ∃ c, cur'[i]? = some c ∧ VRel P H ι v c) :
    Rel P B w0 frz (ι.at id ⟨w.heap.size, 0, cur'.size⟩) (H.set id r') (w.alloc (.cells cur' r'.elem)) ∧ Ext H ι (H.set id r') (ι.at id ⟨w.heap.size, 0, cur'.size⟩) := by
  have E : Ext H ι (H.set id r') (ι.at id ⟨w.heap.size, 0, cur'.size⟩) := Ext.set hr he (by omega) fun h => by omega
  have hlt := R.lt hl
  have hB := R.hB
  refine ⟨⟨R.below.alloc R.hB _, by simp; omega, ?_, ?_⟩, E⟩
  · intro id' s hs
    by_cases hid : id' = id
    · subst hid
      simp [Inj.at] at hs
      subst hs
      refine ⟨by simp, r', by rw [getElem?_set' _ _ _ _ hlt]; simp, hlen, fun i v hv => ?_⟩
      obtain ⟨c, hc, hv'⟩ := hrel i v hv
      exact ⟨c, by simp [Loc.at, hc], hv'.mono E⟩
    · simp [Inj.at, hid] at hs
      obtain ⟨h1, r1, hr1, hra⟩ := R.row id' s hs
      refine ⟨by simp; omega, r1, by rw [getElem?_set' _ _ _ _ hlt]; simp [hid, hr1], ?_⟩
      exact (hra.mono E).world fun a ha => World.cell?_alloc_lt _ _ _ (by omega)
  · intro id' s r1 hs hr1 hfr
    rw [getElem?_set' _ _ _ _ hlt] at hr1
    by_cases hid : id' = id
    · subst hid
      simp [Inj.at] at hs
      subst hs
      simp at hr1
      subst hr1
      refine ⟨hB, ⟨cur', heap_alloc_new _ _, by simp⟩, fun id2 l2 h2 hb2 => ?_⟩
      by_cases hid2 : id2 = id'
      · exact hid2
      · simp [Inj.at, hid2] at h2
        have := (R.row id2 l2 h2).1
        simp at hb2; omega
    · simp [Inj.at, hid] at hs
      simp [hid] at hr1
      obtain ⟨q1, ⟨cs2, q2, q3⟩, q4⟩ := R.own id' s r1 hs hr1 hfr
      have hsl := (R.row id' s hs).1
      refine ⟨q1, ⟨cs2, by rw [Below.heap_alloc _ _ _ hsl]; exact q2, q3⟩, fun id2 l2 h2 hb2 => ?_⟩
      by_cases hid2 : id2 = id
      · subst hid2
        simp [Inj.at] at h2
        subst h2
        simp at hb2; omega
      · simp [Inj.at, hid2] at h2; exact q4 id2 l2 h2 hb2

/-- the rows stand in any world that leaves the old blocks alone -/
theorem Rel.of_below (R : Rel P B w0 frz ι H w) (hb : Below w.heap.size w w') : Rel P B w0 frz ι H w' := by
  have hB := R.hB
  refine ⟨R.below.trans (hb.mono hB), by have := hb.size; omega, fun id l hl => ?_, fun id l r hl hr hf => ?_⟩
  · obtain ⟨h1, r, hr, hra⟩ := R.row id l hl
    exact ⟨by have := hb.size; omega, r, hr, hra.world fun a ha => hb.cell (by omega)⟩
  · obtain ⟨h1, ⟨cs, h2, h3⟩, h4⟩ := R.own id l r hl hr hf
    exact ⟨h1, ⟨cs, by rw [hb.block _ (R.row id l hl).1]; exact h2, h3⟩, h4⟩
/-- everything that is there is frozen: what a call that changes nothing starts from -/
theorem Rel.freeze (R : Rel P B w0 frz ι H w) : Rel P w.heap.size w H.length ι H w :=
  ⟨Below.refl _ _, Nat.le_refl _, R.row, fun id l r hl hr hf => absurd (R.lt hl) (by omega)⟩
end Go.VM
