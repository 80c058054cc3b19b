import Derived.Test.YtnakhkfgheapoaaVM20
import Derived.Test.YtnakhkfgheapoaaVM21
import Derived.Deep.Slices
import Derived.ChangeArms
import Derived.WideShapes
/-! What reads as a datum stands as rows. -/
set_option linter.all false
namespace Go.VM
open Go Go.RowKit Go.ChangeShapes Go.WideShapes Go.Deep

structure Kn (α : Type) where
  sz : Nat
  Is : Heap → α → List Value → Prop
  app : ∀ {H L a vs}, Is H a vs → Is (H ++ L) a vs
  len : ∀ {H a vs}, Is H a vs → vs.length = sz
/-- a slice that reads as xs, of any kind -/
def IsS {α : Type} (d : Kn α) (H : Heap) (v : Value) (xs : List α) : Prop :=
  (v = .slice none 0 0 ∧ xs = []) ∨ ∃ id off r, v = .slice (some ⟨id, off, some r.gen⟩) xs.length 0 ∧ H[id]? = some r ∧ off + xs.length * d.sz ≤ r.cells.length ∧
    ∀ j x, xs[j]? = some x → d.Is H x ((r.cells.drop (off + j * d.sz)).take d.sz)
theorem IsS.app {α : Type} {d : Kn α} {H L : Heap} {v : Value} {xs : List α} (h : IsS d H v xs) : IsS d (H ++ L) v xs := by
  rcases h with h | ⟨id, off, r, h1, h2, h3, h4⟩
  · exact .inl h
  · exact .inr ⟨id, off, r, h1, by rw [List.getElem?_append_left (List.getElem?_eq_some_iff.1 h2).1]; exact h2, h3, fun j x hx => d.app (h4 j x hx)⟩
namespace Kn
def int (k : IntKind) : Kn Int := ⟨1, fun _ a vs => vs = [.int k a], fun h => h, fun h => by rw [h]; rfl⟩
def bool : Kn Bool := ⟨1, fun _ a vs => vs = [.bool a], fun h => h, fun h => by rw [h]; rfl⟩
def string : Kn ByteArray := ⟨1, fun _ a vs => vs = [.string a], fun h => h, fun h => by rw [h]; rfl⟩
def slice {α : Type} (d : Kn α) : Kn (List α) := ⟨1, fun H xs vs => ∃ v, vs = [v] ∧ IsS d H v xs, fun ⟨v, h1, h2⟩ => ⟨v, h1, h2.app⟩, fun ⟨v, h1, _⟩ => by rw [h1]; rfl⟩
def pair {α β : Type} (d : Kn α) (d' : Kn β) : Kn (α × β) := ⟨d.sz + d'.sz, fun H x vs => ∃ v1 v2, vs = v1 ++ v2 ∧ d.Is H x.1 v1 ∧ d'.Is H x.2 v2,
  fun ⟨v1, v2, h, h1, h2⟩ => ⟨v1, v2, h, d.app h1, d'.app h2⟩, fun ⟨v1, v2, h, h1, h2⟩ => by rw [h, List.length_append, d.len h1, d'.len h2]⟩
def iso {α β : Type} (d : Kn α) (f : β → α) : Kn β := ⟨d.sz, fun H x vs => d.Is H (f x) vs, d.app, d.len⟩
end Kn
/-- a slice of numbers -/
theorem IsS.ints {H : Heap} {v : Value} {xs : List Int} (h : IsS (Kn.int .i64) H v xs) : IsI H v xs := by
  rcases h with h | ⟨id, off, r, h1, h2, h3, h4⟩
  · exact .inl h
  · have hs : (Kn.int .i64).sz = 1 := rfl
    rw [hs] at h3 h4
    refine .inr ⟨id, off, r, h1, h2, List.ext_getElem? fun j => ?_, by omega⟩
    by_cases hj : j < xs.length
    · have := h4 j xs[j] (by simp [hj])
      have e : (r.cells.drop (off + j * 1)).take 1 = [.int .i64 xs[j]] := this
      have e2 := congrArg (·[0]?) e
      simp at e2
      rw [List.getElem?_take, if_pos hj, List.getElem?_drop]
      simp [e2, hj]
    · rw [List.getElem?_take, if_neg hj, List.getElem?_eq_none (by rw [List.length_map]; omega)]

/-- the arguments' rows: nobody writes them -/
def Args (P : Program) (W : World) (H : Heap) (ι : Inj) : Prop := Rel P W.heap.size W H.length ι H W
variable {P : Program} {W : World} {H : Heap} {ι : Inj} {t e : TypeId}
theorem Args.nil : Args P W [] (fun _ => none) :=
  ⟨Below.refl _ _, Nat.le_refl _, fun _ _ h => (by cases h), fun _ _ _ h => (by cases h)⟩
theorem Args.lt (A : Args P W H ι) {id : Nat} {l : Loc} (h : ι id = some l) : id < H.length := by
  obtain ⟨_, r, hr, _⟩ := A.row _ _ h
  exact (List.getElem?_eq_some_iff.1 hr).1
theorem Args.push (A : Args P W H ι) (r : Row) (l : Loc) (hl : l.b < W.heap.size) (hr : RowAt P H ι W r.cells l) :
    Args P W (H ++ [r]) (fun id => if id = H.length then some l else ι id) ∧ Ext H ι (H ++ [r]) (fun id => if id = H.length then some l else ι id) := by
  have E : Ext H ι (H ++ [r]) (fun id => if id = H.length then some l else ι id) := fun id q hq => by
    have hlt := (List.getElem?_eq_some_iff.1 hq).1
    exact ⟨q, by rw [List.getElem?_append_left hlt]; exact hq, rfl, Nat.le_refl _, fun _ => if_neg (by omega)⟩
  refine ⟨⟨A.below, A.hB, fun id l' h => ?_, fun id l' q h hq hf => ?_⟩, E⟩
  · by_cases hid : id = H.length
    · simp only [hid, if_true, Option.some.injEq] at h
      subst h; subst hid
      exact ⟨hl, r, by simp, hr.mono E⟩
    · simp only [hid, if_false] at h
      obtain ⟨h1, q, hq, h2⟩ := A.row _ _ h
      exact ⟨h1, q, by rw [List.getElem?_append_left (List.getElem?_eq_some_iff.1 hq).1]; exact hq, h2.mono E⟩
  · have := (List.getElem?_eq_some_iff.1 hq).1
    omega

structure Opens {α : Type} (P : Program) (t : TypeId) (d : Kn α) (wf : α → Prop) : Prop where
  size : P.cellsOf t = d.sz
  read : ∀ {D : Type} {enc : TypeId × Value → D} {w : World} {base : Nat} {held : Bool} {fuel : Nat} {cs : List Value} {x : DataW D × List MemPlace},
    DataW.trod enc P w base (fun _ => true) held fuel t cs = some x → ∀ H ι, Args P w H ι → ∃ (a : α) (L : Heap) (ι' : Inj) (vs : List Value),
      Args P w (H ++ L) ι' ∧ Ext H ι (H ++ L) ι' ∧ LRel P (H ++ L) ι' vs cs ∧ d.Is (H ++ L) a vs ∧ wf a
theorem LRel.one' {v c : Value} (h : VRel P H ι v c) : LRel P H ι [v] [c] := ⟨rfl, fun i x y hx hy => by
  cases i with
  | zero => simp at hx hy; subst hx; subst hy; exact h
  | succ i => simp at hx⟩
theorem opens_int {k : IntKind} (ht : P.underlying t = some (.int k)) (hc : P.cellsOf t = 1) : Opens P t (Kn.int k) (fun x => (Lit.int k x).wf = true) :=
  ⟨hc, fun h H ι A => by
    obtain ⟨n, rfl, _, hw⟩ := DataW.trod_int ht h
    exact ⟨n, [], ι, [.int k n], by simpa using A, by simpa using Ext.refl H ι, LRel.one' (.int _ _), rfl, hw⟩⟩
theorem opens_bool (ht : P.underlying t = some .bool) (hc : P.cellsOf t = 1) : Opens P t Kn.bool (fun _ => True) :=
  ⟨hc, fun h H ι A => by
    obtain ⟨n, rfl, _⟩ := DataW.trod_bool ht h
    exact ⟨n, [], ι, [.bool n], by simpa using A, by simpa using Ext.refl H ι, LRel.one' (.bool _), rfl, trivial⟩⟩
theorem opens_string (ht : P.underlying t = some .string) (hc : P.cellsOf t = 1) : Opens P t Kn.string (fun s => s.size ≤ maxLen) :=
  ⟨hc, fun h H ι A => by
    obtain ⟨n, rfl, _, hw⟩ := DataW.trod_string ht h
    exact ⟨n, [], ι, [.string n], by simpa using A, by simpa using Ext.refl H ι, LRel.one' (.str _), rfl, hw⟩⟩
theorem opens_slice {α : Type} {d : Kn α} {wf : α → Prop} (ht : P.underlying t = some (.slice e)) (hc : P.cellsOf t = 1) (hz : 0 < d.sz) (h : Opens P e d wf) :
    Opens P t (Kn.slice d) (fun l => l.length ≤ maxLen ∧ ∀ x ∈ l, wf x) := by
  refine ⟨hc, fun {D enc w base held fuel cs x} hr H ι A => ?_⟩
  have none_ : ∀ c, VRel P H ι (.slice none 0 0) c → ∃ (a : List α) (L : Heap) (ι' : Inj) (vs : List Value), Args P w (H ++ L) ι' ∧ Ext H ι (H ++ L) ι' ∧ LRel P (H ++ L) ι' vs [c] ∧ (Kn.slice d).Is (H ++ L) a vs ∧ (a.length ≤ maxLen ∧ ∀ x ∈ a, wf x) := fun c hv =>
    ⟨[], [], ι, [.slice none 0 0], by simpa using A, by simpa using Ext.refl H ι, LRel.one' (by simpa using hv), ⟨_, rfl, .inl ⟨rfl, rfl⟩⟩, by simp, by simp⟩
  rcases open_slice ht hr with ⟨rfl, _⟩ | ⟨a, len, cap, m, n, DD, Pl, rfl, _, hl, hm, hmm, _, hel⟩
  · exact none_ _ .nilSl
  · simp only [if_true] at hmm
    subst hmm
    rw [h.size] at hel
    by_cases h0 : m = 0
    · subst h0
      obtain rfl : len = 0 := by omega
      exact none_ _ .noSl
    · obtain ⟨cs0, hc0, _⟩ := hel 0 (by omega)
      obtain ⟨_, hl0, hg0⟩ := World.cells?_some hc0
      have hcell := hg0 0 hz
      simp only [Nat.zero_mul, Addr.add, if_true] at hcell
      rw [List.getElem?_eq_getElem (by omega)] at hcell
      have hlt : a.block < w.heap.size ∧ a.spot = none := by
        unfold World.cell? at hcell
        split at hcell
        · rename_i hh
          refine ⟨(Array.getElem?_eq_some_iff.1 hh).1, ?_⟩
          cases hs : a.spot with
          | none => rfl
          | some q => simp [hs] at hcell
        · cases hcell
      obtain ⟨b, o, s⟩ := a
      obtain ⟨hlt, rfl⟩ : b < w.heap.size ∧ s = none := hlt
      have each : ∀ n', n' ≤ len → ∃ (xs : List α) (L : Heap) (ι' : Inj) (vs : List Value), xs.length = n' ∧ Args P w (H ++ L) ι' ∧ Ext H ι (H ++ L) ι' ∧ vs.length = n' * d.sz ∧
          (∀ j v, vs[j]? = some v → ∃ c, w.cell? ⟨b, o + j, none⟩ = some c ∧ VRel P (H ++ L) ι' v c) ∧ (∀ j x, xs[j]? = some x → d.Is (H ++ L) x ((vs.drop (j * d.sz)).take d.sz)) ∧ ∀ x ∈ xs, wf x := by
        intro n'
        induction n' with
        | zero => exact fun _ => ⟨[], [], ι, [], rfl, by simpa using A, by simpa using Ext.refl H ι, by simp, by simp, by simp, by simp⟩
        | succ n' ih =>
          intro hn
          obtain ⟨xs, L, ι1, vs, e1, e2, e3, e4, e5, e6, e7⟩ := ih (by omega)
          obtain ⟨cs', h1, h2⟩ := hel n' (by omega)
          obtain ⟨y, L2, ι2, us, f1, f2, f3, f4, f5⟩ := h.read h2 _ _ e2
          obtain ⟨_, hlc, hgc⟩ := World.cells?_some h1
          rw [List.append_assoc] at f1 f2 f3 f4
          have hus := d.len f4
          refine ⟨xs ++ [y], L ++ L2, ι2, vs ++ us, by simp [e1], f1, e3.trans f2, by rw [List.length_append, e4, hus, Nat.succ_mul], fun j v hj => ?_, fun j x hj => ?_, fun x hx => ?_⟩
          · by_cases hjl : j < vs.length
            · rw [List.getElem?_append_left hjl] at hj
              obtain ⟨c, k1, k2⟩ := e5 j v hj
              exact ⟨c, k1, k2.mono f2⟩
            · rw [List.getElem?_append_right (by omega)] at hj
              have hj' := (List.getElem?_eq_some_iff.1 hj).1
              have hg := hgc (j - vs.length) (by omega)
              rw [List.getElem?_eq_getElem (by omega)] at hg
              refine ⟨_, ?_, f3.2 _ _ _ hj (List.getElem?_eq_getElem (by omega))⟩
              rw [← hg]; congr 1
              simp only [Addr.add]
              rw [e4] at hjl ⊢
              by_cases q1 : n' * d.sz = 0 <;> by_cases q2 : j - n' * d.sz = 0 <;> simp [q1, q2] <;> omega
          · by_cases hjl : j < xs.length
            · rw [List.getElem?_append_left hjl] at hj
              have := d.app (L := L2) (e6 j x hj)
              rw [List.append_assoc] at this
              have hm1 : (j + 1) * d.sz ≤ xs.length * d.sz := Nat.mul_le_mul_right _ hjl
              rw [Nat.succ_mul, e1] at hm1
              rwa [List.drop_append_of_le_length (by omega), List.take_append_of_le_length (by rw [List.length_drop]; omega)]
            · rw [List.getElem?_append_right (by omega)] at hj
              have hj' := (List.getElem?_eq_some_iff.1 hj).1
              simp at hj'
              obtain rfl : j = xs.length := by omega
              simp at hj
              subst hj
              rw [e1, ← e4, List.drop_append_of_le_length (by omega), List.drop_of_length_le (Nat.le_refl _), List.nil_append, List.take_of_length_le (by omega)]
              exact f4
          · rcases List.mem_append.1 hx with hx | hx
            · exact e7 x hx
            · rw [List.mem_singleton.1 hx]; exact f5
      obtain ⟨xs, L, ι1, vs, e1, e2, e3, e4, e5, e6, e7⟩ := each len (Nat.le_refl _)
      have hml : len * d.sz ≤ m * d.sz := Nat.mul_le_mul_right _ hl
      obtain ⟨k1, k2⟩ := e2.push ⟨vs, 0, e⟩ ⟨b, o, m * d.sz⟩ hlt ⟨by simp only; omega, fun j v hj => e5 j v hj⟩
      rw [List.append_assoc] at k1 k2
      refine ⟨xs, L ++ [⟨vs, 0, e⟩], _, [.slice (some ⟨(H ++ L).length, 0, some 0⟩) len 0], k1, e3.trans k2, LRel.one' ?_, ⟨_, rfl, .inr ⟨_, 0, ⟨vs, 0, e⟩, by rw [e1], by simp, by rw [e1]; simp only; omega, fun j x hj => ?_⟩⟩, by omega, e7⟩
      · exact .sl (a := ⟨(H ++ L).length, 0, some 0⟩) (r := ⟨vs, 0, e⟩) (l := ⟨b, o, m * d.sz⟩) (by simp) rfl (by simp) hl (by simp [h.size])
      · have := d.app (L := [⟨vs, 0, e⟩]) (e6 j x hj)
        rw [List.append_assoc] at this
        simpa using this
/-- Fields one behind the other, from cell o on. -/
structure OpensFs {α : Type} (P : Program) (fs : List Field) (o : Nat) (d : Kn α) (wf : α → Prop) : Prop where
  read : ∀ {D : Type} {enc : TypeId × Value → D} {w : World} {base : Nat} {held : Bool} {fuel : Nat} {cs : List Value} {xs : List (DataW D × List MemPlace)},
    cs.length = o + d.sz → xs.length = fs.length → (∀ (i : Nat) (f : Field), fs[i]? = some f → DataW.trod enc P w base (fun _ => true) held fuel f.type ((cs.drop f.offset).take (P.cellsOf f.type)) = xs[i]?) → ∀ H ι, Args P w H ι →
      ∃ (a : α) (L : Heap) (ι' : Inj) (vs : List Value), Args P w (H ++ L) ι' ∧ Ext H ι (H ++ L) ι' ∧ LRel P (H ++ L) ι' vs (cs.drop o) ∧ d.Is (H ++ L) a vs ∧ wf a
theorem opens_one {α : Type} {d : Kn α} {wf : α → Prop} {f : Field} {o : Nat} (ho : f.offset = o) (h : Opens P f.type d wf) : OpensFs P [f] o d wf := by
  refine ⟨fun {D enc w base held fuel cs xs} hl hx hf H ι A => ?_⟩
  have h0 := hf 0 f rfl
  match xs, hx with
  | [y], _ =>
    rw [ho, List.take_of_length_le (by rw [List.length_drop, h.size]; omega)] at h0
    exact h.read h0 H ι A
theorem opens_cons {α β : Type} {d : Kn α} {d' : Kn β} {wf : α → Prop} {wf' : β → Prop} {f : Field} {fs : List Field} {o o' : Nat} (ho : f.offset = o) (h : Opens P f.type d wf) (ho' : o' = o + d.sz) (h' : OpensFs P fs o' d' wf') :
    OpensFs P (f :: fs) o (Kn.pair d d') (fun x => wf x.1 ∧ wf' x.2) := by
  refine ⟨fun {D enc w base held fuel cs xs} hl hx hf H ι A => ?_⟩
  have h0 := hf 0 f rfl
  match xs, hx with
  | y :: ys, hx =>
    obtain ⟨a, L, ι1, vs, k1, k2, k3, k4, k5⟩ := h.read h0 H ι A
    have hp : (Kn.pair d d').sz = d.sz + d'.sz := rfl
    obtain ⟨b, L2, ι2, us, m1, m2, m3, m4, m5⟩ := h'.read (xs := ys) (cs := cs) (by omega) (by simpa using hx) (fun i g hg => by simpa using hf (i + 1) g (by simpa using hg)) _ _ k1
    rw [ho, h.size] at k3
    have k4' := d.app (L := L2) k4
    rw [List.append_assoc] at m1 m2 m3 m4 k4'
    have hvl := d.len k4
    refine ⟨(a, b), L ++ L2, ι2, vs ++ us, m1, k2.trans m2, ?_, ⟨vs, us, rfl, k4', m4⟩, k5, m5⟩
    have ec : cs.drop o = (cs.drop o).take d.sz ++ cs.drop o' := by rw [ho', ← List.drop_drop, List.take_append_drop]
    rw [ec]
    have hlen1 := k3.1
    refine ⟨by rw [List.length_append, List.length_append, k3.1, m3.1], fun i x y hx hy => ?_⟩
    by_cases hi : i < vs.length
    · rw [List.getElem?_append_left hi] at hx
      rw [List.getElem?_append_left (by omega)] at hy
      exact (k3.2 i x y hx hy).mono m2
    · rw [List.getElem?_append_right (by omega)] at hx
      rw [List.getElem?_append_right (by omega), ← hlen1] at hy
      exact m3.2 _ x y hx hy
theorem opens_struct {α : Type} {d : Kn α} {wf wf0 : α → Prop} {fs : List Field} (ht : P.underlying t = some (.struct fs.toArray)) (hc : P.cellsOf t = d.sz) (h : OpensFs P fs 0 d wf0) (hw : ∀ x, wf0 x → wf x) : Opens P t d wf := by
  refine ⟨hc, fun hr H ι A => ?_⟩
  obtain ⟨xs, n, _, _, hl, hlen, hf⟩ := DataW.trod_struct ht hr
  obtain ⟨a, L, ι', vs, h1, h2, h3, h4, h5⟩ := h.read (by omega) (by simpa using hlen) (fun i f hi => hf i f (by simpa using hi)) H ι A
  exact ⟨a, L, ι', vs, h1, h2, by simpa using h3, h4, hw a h5⟩
theorem opens_iso {α β : Type} {d : Kn α} {wf : α → Prop} (f : β → α) (g : α → β) (hg : ∀ a, f (g a) = a) (h : Opens P t d wf) : Opens P t (Kn.iso d f) (fun b => wf (f b)) :=
  ⟨h.size, fun hr H ι A => by
    obtain ⟨a, L, ι', vs, h1, h2, h3, h4, h5⟩ := h.read hr H ι A
    exact ⟨g a, L, ι', vs, h1, h2, h3, by show d.Is _ (f (g a)) _; rw [hg]; exact h4, by rw [hg]; exact h5⟩⟩
/-- An argument that is a struct. -/
theorem open_arg {α : Type} {d : Kn α} {wf : α → Prop} {D : Type} {enc : TypeId × Value → D} {w w1 : World} {base b0 : Nat} {held : Bool} {r : Reach} {v : Value} {dd : DataW D} {p : List MemPlace} {fs : Array Field}
    (h : Opens P t d wf) (ht : P.underlying t = some (.struct fs)) (hv : Value.okWide P w1 r b0 t v) (hd : DataW.Trod enc P w base (fun _ => true) held t v dd p) (A : Args P w H ι) :
    ∃ (a : α) (L : Heap) (ι' : Inj) (vs : List Value), Args P w (H ++ L) ι' ∧ Ext H ι (H ++ L) ι' ∧ VRel P (H ++ L) ι' (.agg vs.toArray) v ∧ d.Is (H ++ L) a vs ∧ wf a := by
  obtain ⟨cs, rfl, hsz⟩ := okWide_struct ht hv
  obtain ⟨fuel, hf⟩ := hd
  obtain ⟨a, L, ι', vs, h1, h2, h3, h4, h5⟩ := h.read (cs := cs.toList) (by simpa [Value.cells] using hf) H ι A
  exact ⟨a, L, ι', vs, h1, h2, .agg (by simpa using h3.1) fun i x y hx hy => h3.2 i x y (by simpa using hx) (by simpa using hy), h4, h5⟩
/-- An argument that is a slice. -/
theorem open_sl {α : Type} {d : Kn α} {wf : List α → Prop} {D : Type} {enc : TypeId × Value → D} {w w1 : World} {base b0 : Nat} {held : Bool} {r : Reach} {v : Value} {dd : DataW D} {p : List MemPlace}
    (h : Opens P t (Kn.slice d) wf) (ht : P.underlying t = some (.slice e)) (hv : Value.okWide P w1 r b0 t v) (hd : DataW.Trod enc P w base (fun _ => true) held t v dd p) (A : Args P w H ι) :
    ∃ (l : List α) (L : Heap) (ι' : Inj) (u : Value), Args P w (H ++ L) ι' ∧ Ext H ι (H ++ L) ι' ∧ VRel P (H ++ L) ι' u v ∧ IsS d (H ++ L) u l ∧ wf l := by
  obtain ⟨a0, len, cap, rfl⟩ := okWide_slice ht hv
  obtain ⟨fuel, hf⟩ := hd
  obtain ⟨l, L, ι', vs, h1, h2, h3, ⟨u, rfl, h4⟩, h5⟩ := h.read (cs := [.slice a0 len cap]) (by simpa [Value.cells] using hf) H ι A
  exact ⟨l, L, ι', u, h1, h2, h3.2 0 _ _ rfl rfl, h4, h5⟩
theorem LRel.cons' {l cs : List Value} {x c : Value} (h : VRel P H ι x c) (h' : LRel P H ι l cs) : LRel P H ι (x :: l) (c :: cs) :=
  ⟨by simp [h'.1], fun i a b ha hb => by
    cases i with
    | zero => simp at ha hb; subst ha; subst hb; exact h
    | succ i => exact h'.2 i a b (by simpa using ha) (by simpa using hb)⟩
theorem LRel.nil' : LRel P H ι [] [] := ⟨rfl, fun i a b ha => by simp at ha⟩
end Go.VM
