import Derived.Test.YtnakhkfgheapoaaVM9
/-! What a call made is laid behind the rows that were there. -/
set_option linter.all false
namespace Go.VM
open Go Go.RowKit
variable {P : Program} {H HF L : Heap} {ι ιF ι' : Inj} {v v' c x y d s : Value} {B frz : Nat} {w0 w wF : World}

def packInj (n : Nat) (ι ιF : Inj) (ids : List Nat) : Inj := fun id => if id < n then ι id else match ids[id - n]? with | some j => ιF j | none => none

structure Good (n : Nat) (HF : Heap) (ids : List Nat) : Prop where
  ge : ∀ j ∈ ids, n ≤ j
  row : ∀ j ∈ ids, ∃ r, HF[j]? = some r
  nodup : ids.Nodup

section
variable (E : Ext H ι HF ιF) (K : Keeps H.length H HF)
include E K
theorem inj_old {id : Nat} (h : id < H.length) : HF[id]? = H[id]? ∧ ιF id = ι id := by
  have h1 := K.2 id h h
  obtain ⟨r', h2, _, _, h3⟩ := E id H[id] (List.getElem?_eq_getElem h)
  refine ⟨h1, h3 ?_⟩
  rw [h1, List.getElem?_eq_getElem h] at h2; cases h2; rfl

theorem old_ptr {a : Addr} {ids : List Nat} (ha : a.block < H.length) (h : VRel P HF ιF (.pointer (some a)) c) : VRel P (H ++ L) (packInj H.length ι ιF ids) (.pointer (some a)) c := by
  obtain ⟨h1, h2⟩ := inj_old E K ha
  cases h with
  | ptr hr hg hl => exact .ptr (by rw [List.getElem?_append_left ha, ← h1]; exact hr) hg (by simp only [packInj, if_pos ha, ← h2]; exact hl)
  | stalePtr hr hg hlt h1' => exact .stalePtr (by rw [List.getElem?_append_left ha, ← h1]; exact hr) hg hlt h1'
theorem old_sl {a : Addr} {len k : Nat} {ids : List Nat} (ha : a.block < H.length) (h : VRel P HF ιF (.slice (some a) len k) c) : VRel P (H ++ L) (packInj H.length ι ιF ids) (.slice (some a) len k) c := by
  obtain ⟨h1, h2⟩ := inj_old E K ha
  cases h with
  | sl hr hg hl hlen hcap => exact .sl (by rw [List.getElem?_append_left ha, ← h1]; exact hr) hg (by simp only [packInj, if_pos ha, ← h2]; exact hl) hlen hcap
  | slZero hr hg hl => exact .slZero (by rw [List.getElem?_append_left ha, ← h1]; exact hr) hg (by simp only [packInj, if_pos ha, ← h2]; exact hl)
  | staleSl hr hg hlt h1' => exact .staleSl (by rw [List.getElem?_append_left ha, ← h1]; exact hr) hg hlt h1'

theorem scrub_ok {ids : List Nat} (h : VRel P HF ιF v c) : VRel P (H ++ L) (packInj H.length ι ιF ids) (scrub H.length v) c := by
  cases v with
  | slice a len k =>
    cases a with
    | none => cases h with | nilSl => exact .nilSl | noSl => exact .noSl
    | some a =>
      simp only [scrub]
      split
      · rename_i ha; exact old_sl E K ha h
      · exact .dead (h.one rfl)
  | pointer a =>
    cases a with
    | none => cases h; exact .nilPtr
    | some a =>
      simp only [scrub]
      split
      · rename_i ha; exact old_ptr E K ha h
      · exact .dead (h.one rfl)
  | func => exact .dead (h.one rfl)
  | agg => exact .bot
  | tuple => exact .bot
  | int => cases h; exact .int _ _
  | bool => cases h; exact .bool _
  | string => cases h; exact .str _
  | nilFunc => cases h; exact .nilFunc
  | chan r => cases h with | dead h1 => exact .dead h1
  | map r => cases h; exact .bot
  | _ => cases h

/-- a header of a new row, told by its turn -/
def PackOk (H HF : Heap) (ι ιF : Inj) (P : Program) (v' c : Value) (ids : List Nat) : Prop :=
  ∀ idsF, ids <+: idsF → Good H.length HF idsF → VRel P (H ++ packed H.length HF idsF) (packInj H.length ι ιF idsF) v' c
omit E K in
theorem packed_get {n : Nat} {ids : List Nat} {k : Nat} {r : Row} {j : Nat} (hj : ids[k]? = some j) (hr : HF[j]? = some r) : (packed n HF ids)[k]? = some (packRow n r) := by
  simp [packed, hj, hr]

theorem packCell_ok {ids ids' : List Nat} (G : Good H.length HF ids) (h : VRel P HF ιF v c) (hp : packCell H.length HF v ids = some (v', ids')) :
    Good H.length HF ids' ∧ ids <+: ids' ∧ PackOk H HF ι ιF P v' c ids' := by
  have fresh : ∀ {a : Addr} {r : Row}, ¬ a.block < H.length → look HF a = some r → ids.contains a.block = false → Good H.length HF (ids ++ [a.block]) := by
    intro a r ha hr hn
    refine ⟨fun j hj => ?_, fun j hj => ?_, ?_⟩
    · simp at hj; rcases hj with hj | rfl
      · exact G.ge j hj
      · omega
    · simp at hj; rcases hj with hj | rfl
      · exact G.row j hj
      · exact ⟨r, (look_some hr).1⟩
    · rw [List.nodup_append]
      refine ⟨G.nodup, by simp, fun x hx y hy => ?_⟩
      simp at hy; subst hy
      intro e; subst e
      simp at hn; exact hn hx
  have newid : ∀ {a : Addr} {r : Row} {idsF : List Nat}, ¬ a.block < H.length → look HF a = some r → (ids ++ [a.block]) <+: idsF →
      (H ++ packed H.length HF idsF)[H.length + ids.length]? = some (packRow H.length r) ∧ packInj H.length ι ιF idsF (H.length + ids.length) = ιF a.block := by
    intro a r idsF ha hr hpre
    obtain ⟨tl, rfl⟩ := hpre
    have hk : (ids ++ [a.block] ++ tl)[ids.length]? = some a.block := by simp
    refine ⟨?_, ?_⟩
    · rw [List.getElem?_append_right (by omega), Nat.add_sub_cancel_left]; exact packed_get hk (look_some hr).1
    · simp only [packInj]; rw [if_neg (by omega), Nat.add_sub_cancel_left, hk]
  cases v with
  | slice a len k =>
    cases a with
    | none => simp [packCell] at hp; obtain ⟨rfl, rfl⟩ := hp; cases h with | nilSl => exact ⟨G, List.prefix_refl _, fun _ _ _ => .nilSl⟩ | noSl => exact ⟨G, List.prefix_refl _, fun _ _ _ => .noSl⟩
    | some a =>
      simp only [packCell] at hp
      split at hp
      · rename_i ha; cases hp; exact ⟨G, List.prefix_refl _, fun _ _ _ => old_sl E K ha h⟩
      · rename_i ha
        split at hp
        · rename_i r hr
          split at hp
          · cases hp
          · rename_i hn
            cases hp
            have hn' : ids.contains a.block = false := by simpa using hn
            refine ⟨fresh ha hr hn', List.prefix_append _ _, fun idsF hpre _ => ?_⟩
            obtain ⟨e1, e2⟩ := newid ha hr hpre
            rcases h.sl_inv hr with ⟨l, cap, hl, hle, hcap, rfl⟩ | ⟨rfl, ⟨l, hl⟩, b, rfl⟩
            · exact .sl (a := ⟨H.length + ids.length, a.off, some 0⟩) e1 rfl (e2.trans hl) hle hcap
            · exact .slZero (a := ⟨H.length + ids.length, a.off, some 0⟩) e1 rfl (e2.trans hl)
        · cases hp
  | pointer a =>
    cases a with
    | none => simp [packCell] at hp; obtain ⟨rfl, rfl⟩ := hp; cases h; exact ⟨G, List.prefix_refl _, fun _ _ _ => .nilPtr⟩
    | some a =>
      simp only [packCell] at hp
      split at hp
      · rename_i ha; cases hp; exact ⟨G, List.prefix_refl _, fun _ _ _ => old_ptr E K ha h⟩
      · rename_i ha
        split at hp
        · rename_i r hr
          split at hp
          · cases hp
          · rename_i hn
            cases hp
            have hn' : ids.contains a.block = false := by simpa using hn
            refine ⟨fresh ha hr hn', List.prefix_append _ _, fun idsF hpre _ => ?_⟩
            obtain ⟨e1, e2⟩ := newid ha hr hpre
            obtain ⟨l, hl, rfl⟩ := h.ptr_inv hr
            exact .ptr (a := ⟨H.length + ids.length, a.off, some 0⟩) e1 rfl (e2.trans hl)
        · cases hp
  | func => simp [packCell] at hp
  | agg => simp [packCell] at hp
  | tuple vs =>
    simp only [packCell] at hp
    split at hp
    · rename_i hs
      cases hp
      cases h with
      | tuple hc hr =>
        rename_i c'
        refine ⟨G, List.prefix_refl _, fun _ _ _ => .tuple hc fun i x y hx => ?_⟩
        have := (Array.getElem?_eq_some_iff.1 hx).1; omega
    · cases hp
  | int => simp [packCell] at hp; obtain ⟨rfl, rfl⟩ := hp; cases h; exact ⟨G, List.prefix_refl _, fun _ _ _ => .int _ _⟩
  | bool => simp [packCell] at hp; obtain ⟨rfl, rfl⟩ := hp; cases h; exact ⟨G, List.prefix_refl _, fun _ _ _ => .bool _⟩
  | string => simp [packCell] at hp; obtain ⟨rfl, rfl⟩ := hp; cases h; exact ⟨G, List.prefix_refl _, fun _ _ _ => .str _⟩
  | nilFunc => simp [packCell] at hp; obtain ⟨rfl, rfl⟩ := hp; cases h; exact ⟨G, List.prefix_refl _, fun _ _ _ => .nilFunc⟩
  | chan r => simp [packCell] at hp; obtain ⟨rfl, rfl⟩ := hp; cases h with | dead h1 => exact ⟨G, List.prefix_refl _, fun _ _ _ => .dead h1⟩
  | map r => simp [packCell] at hp; obtain ⟨rfl, rfl⟩ := hp; cases h; exact ⟨G, List.prefix_refl _, fun _ _ _ => .bot⟩
  | _ => cases h

omit E K in
theorem packList_ok {f : Value → List Nat → Option (Value × List Nat)}
    (hf : ∀ {v c v' ids ids'}, Good H.length HF ids → VRel P HF ιF v c → f v ids = some (v', ids') → Good H.length HF ids' ∧ ids <+: ids' ∧ PackOk H HF ι ιF P v' c ids') :
    ∀ (l cs : List Value) (ids : List Nat) {l' : List Value} {ids' : List Nat}, Good H.length HF ids → LRel P HF ιF l cs → packList f l ids = some (l', ids') →
      Good H.length HF ids' ∧ ids <+: ids' ∧ l'.length = cs.length ∧ ∀ (i : Nat) (x y : Value), l'[i]? = some x → cs[i]? = some y → PackOk H HF ι ιF P x y ids'
  | [], cs, ids, l', ids', G, hl, h => by
    obtain rfl := hl.nil_inv
    simp [packList] at h; obtain ⟨rfl, rfl⟩ := h
    exact ⟨G, List.prefix_refl _, rfl, by simp⟩
  | v :: l, cs, ids, l', ids', G, hl, h => by
    obtain ⟨c, cs', rfl, hv, hl'⟩ := hl.cons_inv
    simp only [packList] at h
    split at h
    · rename_i v1 ids1 h1
      obtain ⟨G1, p1, o1⟩ := hf G hv h1
      split at h
      · rename_i l2 ids2 h2
        cases h
        obtain ⟨G2, p2, hlen, o2⟩ := packList_ok hf l cs' ids1 G1 hl' h2
        refine ⟨G2, p1.trans p2, by simp [hlen], fun i x y hx hy => ?_⟩
        cases i with
        | zero => simp at hx hy; subst hx; subst hy; exact fun idsF hpre hg => o1 idsF (p2.trans hpre) hg
        | succ i => exact o2 i x y (by simpa using hx) (by simpa using hy)
      · cases h
    · cases h

theorem packVal_ok {ids ids' : List Nat} (G : Good H.length HF ids) (h : VRel P HF ιF v c) (hp : packVal H.length HF v ids = some (v', ids')) :
    Good H.length HF ids' ∧ ids <+: ids' ∧ PackOk H HF ι ιF P v' c ids' := by
  unfold packVal at hp
  split at hp
  · rename_i ids0 cs
    obtain ⟨cs', rfl, hs, hrel⟩ := agg_inv h
    split at hp
    · rename_i l ids1 h1
      cases hp
      obtain ⟨G1, p1, hlen, o1⟩ := packList_ok (packCell_ok E K) cs.toList cs'.toList _ G ⟨by simpa using hs, fun i x y hx hy => hrel i x y (by simpa using hx) (by simpa using hy)⟩ h1
      exact ⟨G1, p1, fun idsF hpre hg => .agg (by simpa using hlen) fun i x y hx hy => o1 i x y (by simpa using hx) (by simpa using hy) idsF hpre hg⟩
    · cases hp
  · exact packCell_ok E K G h hp

theorem pack_ok {ids : List Nat} (h : VRel P HF ιF v c) (hp : pack H.length HF v = some (v', ids)) : Good H.length HF ids ∧ PackOk H HF ι ιF P v' c ids := by
  have G0 : Good H.length HF [] := ⟨by simp, by simp, by simp⟩
  unfold pack at hp
  split at hp
  · rename_i vs
    split at hp
    · rename_i hs
      cases hp
      cases h with
      | tuple hc hr =>
        refine ⟨G0, fun _ _ _ => .tuple hc fun i x y hx => ?_⟩
        have := (Array.getElem?_eq_some_iff.1 hx).1; omega
    · split at hp
      · rename_i l ids1 h1
        cases hp
        cases h with
        | tuple hc hr =>
          rename_i c'
          obtain ⟨G1, p1, hlen, o1⟩ := packList_ok (packVal_ok E K) vs.toList c'.toList _ G0 ⟨by simpa using hc, fun i x y hx hy => hr i x y (by simpa using hx) (by simpa using hy)⟩ h1
          exact ⟨G1, fun idsF hpre hg => .tuple (by simpa using hlen) fun i x y hx hy => o1 i x y (by simpa using hx) (by simpa using hy) idsF hpre hg⟩
      · cases hp
  · obtain ⟨g, _, o⟩ := packVal_ok E K G0 h hp
    exact ⟨g, o⟩

omit E K in
theorem packExt {ids : List Nat} : Ext H ι (H ++ L) (packInj H.length ι ιF ids) := fun id r hr => by
  have hlt := (List.getElem?_eq_some_iff.1 hr).1
  exact ⟨r, by rw [List.getElem?_append_left hlt]; exact hr, rfl, Nat.le_refl _, fun _ => by simp only [packInj, if_pos hlt]⟩

theorem pack_rel {ids : List Nat} (R : Rel P B w0 frz ι H w) (RF : Rel P w.heap.size w H.length ιF HF wF) (G : Good H.length HF ids) :
    Rel P B w0 frz (packInj H.length ι ιF ids) (H ++ packed H.length HF ids) wF := by
  have hB := R.hB
  have hsz := RF.below.size
  have EE : Ext H ι (H ++ packed H.length HF ids) (packInj H.length ι ιF ids) := packExt
  have new : ∀ {id : Nat} {l : Loc}, ¬ id < H.length → packInj H.length ι ιF ids id = some l → ∃ j r, ids[id - H.length]? = some j ∧ j ∈ ids ∧ ιF j = some l ∧ HF[j]? = some r ∧
      (H ++ packed H.length HF ids)[id]? = some (packRow H.length r) := by
    intro id l hid hl
    simp only [packInj, if_neg hid] at hl
    cases hj : ids[id - H.length]? with
    | none => rw [hj] at hl; cases hl
    | some j =>
      rw [hj] at hl
      obtain ⟨r, hr⟩ := G.row j (List.mem_of_getElem? hj)
      exact ⟨j, r, rfl, List.mem_of_getElem? hj, hl, hr, by rw [List.getElem?_append_right (by omega)]; exact packed_get hj hr⟩
  refine ⟨R.below.trans (RF.below.mono hB), by omega, fun id l hl => ?_, fun id l r hl hr hf => ?_⟩
  · by_cases hid : id < H.length
    · have hl' : ι id = some l := by simpa only [packInj, if_pos hid] using hl
      obtain ⟨h1, r, hr, hra⟩ := R.row id l hl'
      exact ⟨by omega, r, by rw [List.getElem?_append_left hid]; exact hr, (hra.mono EE).world fun a ha => RF.below.cell (by omega)⟩
    · obtain ⟨j, r, hj, hjm, hl', hr, hget⟩ := new hid hl
      obtain ⟨h1, r', hr', hra⟩ := RF.row j l hl'
      rw [hr] at hr'; cases hr'
      refine ⟨h1, _, hget, by simpa [packRow] using hra.1, fun i v hi => ?_⟩
      simp only [packRow, List.getElem?_map] at hi
      cases hc : r.cells[i]? with
      | none => rw [hc] at hi; cases hi
      | some v0 =>
        rw [hc] at hi; cases hi
        obtain ⟨c, g1, g2⟩ := hra.2 i v0 hc
        exact ⟨c, g1, scrub_ok E K g2⟩
  · by_cases hid : id < H.length
    · have hl' : ι id = some l := by simpa only [packInj, if_pos hid] using hl
      rw [List.getElem?_append_left hid] at hr
      obtain ⟨h1, ⟨cs, h2, h3⟩, h4⟩ := R.own id l r hl' hr hf
      have hb := (R.row id l hl').1
      refine ⟨h1, ⟨cs, by rw [RF.below.block _ hb]; exact h2, h3⟩, fun id' l' hl2 hbb => ?_⟩
      by_cases hid' : id' < H.length
      · exact h4 id' l' (by simpa only [packInj, if_pos hid'] using hl2) hbb
      · obtain ⟨j, r', hj, hjm, hlj, hrj, _⟩ := new hid' hl2
        have := (RF.own j l' r' hlj hrj (G.ge j hjm)).1
        omega
    · obtain ⟨j, r', hj, hjm, hl', hrj, hget⟩ := new hid hl
      rw [hget] at hr; cases hr
      obtain ⟨h1, ⟨cs, h2, h3⟩, h4⟩ := RF.own j l r' hl' hrj (G.ge j hjm)
      refine ⟨by omega, ⟨cs, by simpa [packRow] using h2, h3⟩, fun id' l2 hl2 hbb => ?_⟩
      by_cases hid' : id' < H.length
      · have := (R.row id' l2 (by simpa only [packInj, if_pos hid'] using hl2)).1
        omega
      · obtain ⟨j2, r2, hj2, hjm2, hlj2, hrj2, _⟩ := new hid' hl2
        have : j2 = j := h4 j2 l2 hlj2 hbb
        subst this
        have h5 : id - H.length < ids.length := (List.getElem?_eq_some_iff.1 hj).1
        have h6 : id' - H.length < ids.length := (List.getElem?_eq_some_iff.1 hj2).1
        have := (List.getElem?_inj h6 G.nodup).1 (hj2.trans hj.symm)
        omega
end
end Go.VM
