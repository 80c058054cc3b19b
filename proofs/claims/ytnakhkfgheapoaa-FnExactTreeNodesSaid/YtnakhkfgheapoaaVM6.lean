import Derived.Test.YtnakhkfgheapoaaVM5
import Derived.Laws.Slices
/-! Slices of slices, numbers, composites. -/
set_option linter.all false
namespace Go.VM
open Go Go.RowKit
variable {P : Program} {H H' : Heap} {ι ι' : Inj} {v c x y d s : Value} {B frz : Nat} {w0 w w' : World} {t : TypeId}

/-- an optional operand -/
def ORel (P : Program) (H : Heap) (ι : Inj) : Option Value → Option Value → Prop
  | none, none => True
  | some x, some c => VRel P H ι x c
  | _, _ => False
theorem bounds_ok (isSlice : Bool) {len cap : Nat} {lo hi lo' hi' : Option Value} {l h : Int} (h1 : ORel P H ι lo lo') (h2 : ORel P H ι hi hi')
    (hl : vbound 0 lo = some l) (hh : vbound len hi = some h) (g0 : 0 ≤ l) (g1 : l ≤ h) (g2 : h ≤ len) (g3 : len ≤ cap) :
    (Instr.sliceBounds isSlice len cap lo' hi' none).run P w = .ok (l.toNat, h.toNat, cap) w := by
  have e2 : ∀ k code, (Instr.sliceBound (.int k h) cap code).run P w = .ok h.toNat w := fun k code => run_sliceBound (P := P) (w := w) k h cap code (by omega) (by omega)
  have e1 : ∀ k code, (Instr.sliceBound (.int k l) h.toNat code).run P w = .ok l.toNat w := fun k code => run_sliceBound (P := P) (w := w) k l h.toNat code (by omega) (by omega)
  have hi0 : (hi' = none ∧ h = len) ∨ ∃ k, hi' = some (.int k h) := by
    cases hi with
    | none => cases hi' with | none => simp [vbound] at hh; exact .inl ⟨rfl, hh.symm⟩ | some => exact h2.elim
    | some v => cases hi' with
      | none => exact h2.elim
      | some c =>
        cases v with
        | int k n => simp [vbound] at hh; subst hh; cases h2; exact .inr ⟨k, rfl⟩
        | _ => simp [vbound] at hh
  have lo0 : (lo' = none ∧ l = 0) ∨ ∃ k, lo' = some (.int k l) := by
    cases lo with
    | none => cases lo' with | none => simp [vbound] at hl; exact .inl ⟨rfl, hl.symm⟩ | some => exact h1.elim
    | some v => cases lo' with
      | none => exact h1.elim
      | some c =>
        cases v with
        | int k n => simp [vbound] at hl; subst hl; cases h1; exact .inr ⟨k, rfl⟩
        | _ => simp [vbound] at hl
  rcases hi0 with ⟨rfl, rfl⟩ | ⟨k, rfl⟩ <;> rcases lo0 with ⟨rfl, rfl⟩ | ⟨k', rfl⟩
  · simp [Instr.sliceBounds]
  · simp only [Int.toNat_natCast] at e1
    simp [Instr.sliceBounds, e1]
  · simp [Instr.sliceBounds, e2]
  · simp [Instr.sliceBounds, e1, e2]

theorem slice_ok {lo hi lo' hi' : Option Value} (hx : VRel P H ι x c) (h1 : ORel P H ι lo lo') (h2 : ORel P H ι hi hi') (h : vslice P H t lo hi x = some v) :
    ∃ c', (Instr.sliceAt t c lo' hi' none).run P w = .ok c' w ∧ VRel P H ι v c' := by
  unfold vslice at h
  split at h
  · split at h
    · rename_i p he hl hh
      obtain ⟨e, n⟩ := p
      cases h
      obtain ⟨hu, i, z, hi, hsz, hp, hb, hz, hzs⟩ := eltp_spec he
      have hbd := bounds_ok (P := P) (w := w) true (len := 0) (cap := 0) h1 h2 hl hh (by omega) (by omega) (by omega) (by omega)
      cases hx with
      | nilSl => exact ⟨_, by simp [Instr.sliceAt, Instr.slice, run_underlying hu, hbd, run_sizeOf (by rw [hi]; simp; exact hsz : (P.info? e).map (·.size) = some n)], .nilSl⟩
      | noSl => exact ⟨_, by simp [Instr.sliceAt, Instr.slice, run_underlying hu, hbd, run_sizeOf (by rw [hi]; simp; exact hsz : (P.info? e).map (·.size) = some n)]; rfl, .noSl⟩
    · cases h
  · rename_i a len k
    split at h
    · rename_i r hr
      split at h
      · rename_i e n l hh0 he hl hh
        split at h
        · rename_i hc
          obtain ⟨hre, g0, g1, g2⟩ := hc
          cases h
          obtain ⟨hu, i, z, hi, hsz, hp, hb, hz, hzs⟩ := eltp_spec he
          obtain ⟨r1, r2⟩ := look_some hr
          have hs := run_sizeOf (P := P) (by rw [hi]; simp; exact hsz : (P.info? e).map (·.size) = some n) w
          rcases hx.sl_inv hr with ⟨loc, cap, hloc, hle, hcap, rfl⟩ | ⟨rfl, ⟨loc, hloc⟩, b, rfl⟩
          · have hbd := bounds_ok (P := P) (w := w) true h1 h2 hl hh g0 g1 g2 hle
            by_cases hm : cap = l.toNat
            · have hbd' := hbd
              rw [hm] at hbd'
              refine ⟨.slice (some (loc.at a.off)) (hh0.toNat - l.toNat) (cap - l.toNat), by simp [Instr.sliceAt, Instr.slice, run_underlying hu, hbd', hs, hm], ?_⟩
              have e1 : hh0.toNat - l.toNat = 0 := by omega
              have e2 : cap - l.toNat = 0 := by omega
              rw [e1, e2]
              exact .slZero (a := ⟨a.block, a.off + l.toNat * n, a.spot⟩) r1 r2 hloc
            · refine ⟨.slice (some (loc.at (a.off + l.toNat * n))) (hh0.toNat - l.toNat) (cap - l.toNat), by simp [Instr.sliceAt, Instr.slice, run_underlying hu, hbd, hs, hm, Loc.at_add], ?_⟩
              refine .sl (a := ⟨a.block, a.off + l.toNat * n, a.spot⟩) r1 r2 hloc (by omega) ?_
              have hcn : P.cellsOf r.elem = n := by rw [hre, cellsOf_of hi]; exact hsz
              rw [hcn] at hcap ⊢
              have : l.toNat * n + (cap - l.toNat) * n = cap * n := by rw [← Nat.add_mul]; congr 1; omega
              simp only []
              omega
          · have hbd := bounds_ok (P := P) (w := w) (cap := 0) true h1 h2 hl hh g0 g1 g2 (by omega)
            have e0 : l.toNat = 0 := by omega
            have e1 : hh0.toNat = 0 := by omega
            refine ⟨.slice (some b) 0 0, by simp [Instr.sliceAt, Instr.slice, run_underlying hu, hbd, hs, e0, e1], ?_⟩
            rw [e1, Nat.zero_sub]
            exact .slZero (a := ⟨a.block, a.off + l.toNat * n, a.spot⟩) r1 r2 hloc
        · cases h
      · cases h
    · cases h
  · rename_i s
    split at h
    · rename_i l hh0 hl hh
      split at h
      · rename_i hc
        obtain ⟨hu, g0, g1, g2⟩ := hc
        cases hx; cases h
        have hbd := bounds_ok (P := P) (w := w) (len := s.size) (cap := s.size) false h1 h2 hl hh g0 g1 g2 (Nat.le_refl _)
        exact ⟨_, by simp [Instr.sliceAt, Instr.slice, run_underlying (isStr_spec hu), hbd], .str _⟩
      · cases h
    · cases h
  · cases h

theorem bin_int {op : BinOp} {k k' : IntKind} {a b : Int} (h : vbin P op t (.int k a) (.int k' b) = some v) :
    (binOp op t (.int k a) (.int k' b)).run P w = .ok v w ∧ VRel P H ι v v := by
  cases op
  case shl =>
    simp [vbin, ishift] at h
    obtain ⟨_, ⟨hb, rfl⟩, rfl⟩ := h
    exact ⟨by rw [binOp, Op.shift, if_neg (by omega)]; rfl, .int _ _⟩
  case shr =>
    simp [vbin, ishift] at h
    obtain ⟨_, ⟨hb, rfl⟩, rfl⟩ := h
    exact ⟨by rw [binOp, Op.shift, if_neg (by omega)]; rfl, .int _ _⟩
  case quo =>
    simp [vbin, iarith] at h
    obtain ⟨rfl, _, ⟨hb, rfl⟩, rfl⟩ := h
    exact ⟨by simp [binOp, Op.intDiv, hb], .int _ _⟩
  case rem =>
    simp [vbin, iarith] at h
    obtain ⟨rfl, _, ⟨hb, rfl⟩, rfl⟩ := h
    exact ⟨by simp [binOp, Op.intDiv, hb], .int _ _⟩
  case eql => simp [vbin, icmp] at h; obtain ⟨rfl, rfl⟩ := h; exact ⟨by simp [binOp, Op.intCmp]; rfl, .bool _⟩
  case neq => simp [vbin, icmp] at h; obtain ⟨rfl, rfl⟩ := h; exact ⟨by simp [binOp, Op.intCmp]; rfl, .bool _⟩
  case lss => simp [vbin, icmp] at h; obtain ⟨rfl, rfl⟩ := h; exact ⟨by simp [binOp, Op.intCmp], .bool _⟩
  case leq => simp [vbin, icmp] at h; obtain ⟨rfl, rfl⟩ := h; exact ⟨by simp [binOp, Op.intCmp], .bool _⟩
  case gtr => simp [vbin, icmp] at h; obtain ⟨rfl, rfl⟩ := h; exact ⟨by simp [binOp, Op.intCmp], .bool _⟩
  case geq => simp [vbin, icmp] at h; obtain ⟨rfl, rfl⟩ := h; exact ⟨by simp [binOp, Op.intCmp], .bool _⟩
  all_goals
    simp [vbin, iarith] at h
    obtain ⟨rfl, rfl⟩ := h
    exact ⟨by simp [binOp, Op.intArith, Op.intBits], .int _ _⟩

theorem equal_bool {a b : Bool} (hu : P.underlying t = some .bool) : (Op.equal t (.bool a) (.bool b)).run P w = .ok (a == b) w := by
  show (Op.equalIn (9999 + 1) t (.bool a) (.bool b)).run P w = _
  rw [Op.equalIn, Sem.run_bind, run_underlying hu]
  rfl

theorem bin_ok {op : BinOp} (hx : VRel P H ι x c) (hy : VRel P H ι y d) (h : vbin P op t x y = some v) : ∃ c', (binOp op t c d).run P w = .ok c' w ∧ VRel P H ι v c' := by
  by_cases hint : (∃ k a k' b, x = .int k a ∧ y = .int k' b)
  · obtain ⟨k, a, k', b, rfl, rfl⟩ := hint
    cases hx; cases hy
    exact ⟨v, bin_int h⟩
  unfold vbin at h
  split at h
  · exact absurd ⟨_, _, _, _, rfl, rfl⟩ hint
  · cases hx; cases hy
    split at h
    · rename_i hu; cases h
      exact ⟨_, by simp only [binOp, Sem.run_bind, equal_bool hu, Result.andThen_ok]; rfl, .bool _⟩
    · rename_i a b _ _ hu; cases h
      refine ⟨.bool (!(a == b)), by simp only [binOp, Sem.run_bind, equal_bool hu, Result.andThen_ok]; rfl, ?_⟩
      exact .bool _
    · cases h
  · cases hx; cases hy
    split at h
    · cases h; exact ⟨_, by simp [binOp, Op.stringOp], .bool _⟩
    · cases h; exact ⟨_, by simp [binOp, Op.stringOp], .bool _⟩
    · rename_i a b _
      split at h
      · rename_i hsz
        cases h
        have hno : ¬ (IntKind.i64.max < ((a.size + b.size : Nat) : Int)) := by
          have : IntKind.i64.max = 9223372036854775807 := by decide
          omega
        refine ⟨_, ?_, .str _⟩
        simp only [binOp, Op.stringOp]
        rw [if_neg hno]; rfl
      · cases h
    · cases h; exact ⟨_, by simp [binOp, Op.stringOp], .bool _⟩
    · cases h
  · cases h
theorem un_ok {op : UnOp} (hx : VRel P H ι x c) (h : vun op x = some v) : ∃ c', (Op.unary op c).run P w = .ok c' w ∧ VRel P H ι v c' := by
  unfold vun at h
  split at h
  · cases hx
    split at h
    · cases h; exact ⟨_, by simp [Op.unary], .bool _⟩
    · cases h
  · cases hx
    split at h
    · cases h; exact ⟨_, by simp [Op.unary, Op.intArith], .int _ _⟩
    · cases h
  · cases h
theorem convert_ok {src dst : TypeId} {ds : TypeDesc} (hsrc : P.underlying src = some ds) (hx : VRel P H ι x c) (h : vconvert P dst x = some v) : ∃ c', (convert src dst c).run P w = .ok c' w ∧ VRel P H ι v c' := by
  unfold vconvert at h
  split at h
  · cases hx
    split at h
    · rename_i hu; cases h; exact ⟨_, by simp [convert, run_underlying hsrc, run_underlying hu, Conv.intToInt], .int _ _⟩
    · cases h
  · cases hx
    split at h
    · rename_i hu; cases h; exact ⟨_, by simp [convert, run_underlying hsrc, run_underlying hu], .str _⟩
    · cases h
  · cases h
theorem max2_ok (hx : VRel P H ι x c) (hy : VRel P H ι y d) (h : vmax2 x y = some v) : ∃ c', (Builtin.max2 c d).run P w = .ok c' w ∧ VRel P H ι v c' := by
  unfold vmax2 at h
  split at h
  · cases hx; cases hy; cases h
    exact ⟨_, by simp [Builtin.max2], .int _ _⟩
  · cases h
theorem min2_ok (hx : VRel P H ι x c) (hy : VRel P H ι y d) (h : vmin2 x y = some v) : ∃ c', (Builtin.min2 c d).run P w = .ok c' w ∧ VRel P H ι v c' := by
  unfold vmin2 at h
  split at h
  · cases hx; cases hy; cases h
    exact ⟨_, by simp [Builtin.min2], .int _ _⟩
  · cases h

/-- lists of operands -/
def LRel (P : Program) (H : Heap) (ι : Inj) (l cs : List Value) : Prop := l.length = cs.length ∧ ∀ (i : Nat) (x c : Value), l[i]? = some x → cs[i]? = some c → VRel P H ι x c
theorem LRel.cons_inv {l cs : List Value} (h : LRel P H ι (x :: l) cs) : ∃ c cs', cs = c :: cs' ∧ VRel P H ι x c ∧ LRel P H ι l cs' := by
  cases cs with
  | nil => simp [LRel] at h
  | cons c cs' => exact ⟨c, cs', rfl, h.2 0 x c rfl rfl, by simpa using h.1, fun i x c hx hc => h.2 (i + 1) x c hx hc⟩
theorem LRel.nil_inv {cs : List Value} (h : LRel P H ι [] cs) : cs = [] := by
  have := h.1; simpa using this.symm
theorem LRel.of_map {α : Type} (l : List α) (f g : α → Value) (h : ∀ a ∈ l, VRel P H ι (f a) (g a)) : LRel P H ι (l.map f) (l.map g) :=
  ⟨by simp, fun i x c hx hc => by
    simp only [List.getElem?_map] at hx hc
    cases ha : l[i]? with
    | none => simp [ha] at hx
    | some a => simp [ha] at hx hc; subst hx; subst hc; exact h a (List.mem_of_getElem? ha)⟩
theorem LRel.mono {l cs : List Value} (e : Ext H ι H' ι') (h : LRel P H ι l cs) : LRel P H' ι' l cs := ⟨h.1, fun i x c hx hc => (h.2 i x c hx hc).mono e⟩
theorem LRel.append {l cs l' cs' : List Value} (h : LRel P H ι l cs) (h' : LRel P H ι l' cs') : LRel P H ι (l ++ l') (cs ++ cs') :=
  ⟨by simp [h.1, h'.1], fun i x c hx hc => by
    by_cases hi : i < l.length
    · rw [List.getElem?_append_left hi] at hx; rw [List.getElem?_append_left (by rw [← h.1]; exact hi)] at hc; exact h.2 i x c hx hc
    · rw [List.getElem?_append_right (by omega)] at hx; rw [List.getElem?_append_right (by rw [← h.1]; omega), ← h.1] at hc; exact h'.2 _ x c hx hc⟩

theorem fold_ok {f : Value → Value → Option Value} {g : Value → Value → Sem Value} (hf : ∀ {x y c d v}, VRel P H ι x c → VRel P H ι y d → f x y = some v → ∃ c', (g c d).run P w = .ok c' w ∧ VRel P H ι v c') :
    ∀ (l cs : List Value) (x c : Value), VRel P H ι x c → LRel P H ι l cs → vfold f x l = some v → ∃ c', (cs.foldlM g c).run P w = .ok c' w ∧ VRel P H ι v c'
  | [], cs, x, c, hx, hl, h => by
    obtain rfl := hl.nil_inv
    simp [vfold] at h; subst h
    exact ⟨c, by simp, hx⟩
  | y :: l, cs, x, c, hx, hl, h => by
    obtain ⟨d, cs', rfl, hy, hl'⟩ := hl.cons_inv
    simp only [vfold] at h
    split at h
    · rename_i z hz
      obtain ⟨c', h1, h2⟩ := hf hx hy hz
      obtain ⟨c'', h3, h4⟩ := fold_ok hf l cs' z c' h2 hl' h
      exact ⟨c'', by simp [List.foldlM_cons, h1, h3], h4⟩
    · cases h

theorem foldl_zipIdx_splice (l : List Value) : ∀ (k o : Nat) (cs : Array Value), o + k + l.length ≤ cs.size →
    ((l.zipIdx k).foldl (fun cs (x : Value × Nat) => cs.setIfInBounds (o + x.2) x.1) cs).toList = splice cs.toList (o + k) l := by
  induction l with
  | nil => intro k o cs h; simp [splice]
  | cons v l ih =>
    intro k o cs h
    simp only [List.zipIdx_cons, List.foldl_cons]
    rw [ih (k + 1) o _ (by simp at h ⊢; omega)]
    apply List.ext_getElem?
    intro i
    simp at h
    rw [getElem?_splice _ _ _ _ (by simp; omega), getElem?_splice _ _ _ _ (by simp; omega)]
    simp only [Array.toList_setIfInBounds, List.length_cons, List.getElem?_set]
    by_cases h1 : i < o + k
    · rw [if_pos (by omega), if_pos h1, if_neg (by omega)]
    · rw [if_neg h1]
      by_cases h2 : i = o + k
      · subst h2
        rw [if_pos (by omega), if_pos (by omega)]; simp; omega
      · rw [if_neg (by omega)]
        by_cases h3 : i < o + k + (l.length + 1)
        · rw [if_pos (by omega), if_pos h3, show i - (o + k) = (i - (o + (k + 1))) + 1 by omega, List.getElem?_cons_succ]
        · rw [if_neg (by omega), if_neg h3, if_neg (by omega)]

theorem fill_ok {place place' : Nat → Option (Nat × Nat)} (hpl : ∀ i x, place i = some x → place' i = some x) : ∀ (parts parts' : List (Nat × Value)) (l : List Value) (cs : Array Value) {l' : List Value},
    LRel P H ι l cs.toList → parts.length = parts'.length → (∀ (i : Nat) (p q : Nat × Value), parts[i]? = some p → parts'[i]? = some q → p.1 = q.1 ∧ VRel P H ι p.2 q.2) →
    vfill place l parts = some l' → ∃ cs', Instr.fill place' cs parts' = some cs' ∧ LRel P H ι l' cs'.toList
  | [], [], l, cs, l', hl, _, _, h => by simp [vfill] at h; subst h; exact ⟨cs, rfl, hl⟩
  | (i, v) :: parts, [], _, _, _, _, hlen, _, _ => by simp at hlen
  | [], _ :: _, _, _, _, _, hlen, _, _ => by simp at hlen
  | (i, v) :: parts, (j, c) :: parts', l, cs, l', hl, hlen, hp, h => by
    obtain ⟨hij, hv⟩ := hp 0 _ _ rfl rfl
    simp at hij hv
    subst hij
    simp only [vfill] at h
    split at h
    · rename_i o n hpi
      split at h
      · rename_i hc
        obtain ⟨h1, h2, h3⟩ := hc
        have hb : v ≠ .map none := fun e => by subst e; simp [Value.cells, ones, one] at h3
        obtain ⟨e1, e2⟩ := hv.cells hb
        have hlc := hl.1
        simp at hlc
        have hfz := foldl_zipIdx_splice c.cells.toList 0 o cs (by simp; omega)
        have key : LRel P H ι (splice l o v.cells.toList) ((c.cells.zipIdx.foldl (fun (cs : Array Value) (x : Value × Nat) => cs.setIfInBounds (o + x.2) x.1) cs).toList) := by
          have e3 : (c.cells.zipIdx.foldl (fun (cs : Array Value) (x : Value × Nat) => cs.setIfInBounds (o + x.2) x.1) cs).toList = splice cs.toList o c.cells.toList := by
            rw [← Array.foldl_toList]
            simpa using hfz
          rw [e3]
          have hvl : v.cells.toList.length = n := by simpa using h1
          have hcl : c.cells.toList.length = n := by simp; omega
          refine ⟨by rw [length_splice _ _ _ (by omega), length_splice _ _ _ (by simp; omega)]; simpa using hlc, fun i x y hx hy => ?_⟩
          rw [getElem?_splice _ _ _ _ (by omega)] at hx
          rw [getElem?_splice _ _ _ _ (by simp; omega)] at hy
          by_cases g1 : i < o
          · rw [if_pos g1] at hx hy; exact hl.2 i x y hx hy
          · rw [if_neg g1] at hx hy
            by_cases g2 : i < o + n
            · rw [if_pos (by omega)] at hx hy; exact e2 _ x y (by simpa using hx) (by simpa using hy)
            · rw [if_neg (by omega)] at hx hy; exact hl.2 i x y hx hy
        obtain ⟨cs', g1, g2⟩ := fill_ok hpl parts parts' _ _ key (by simpa using hlen) (fun i p q hp' hq' => hp (i + 1) p q (by simpa using hp') (by simpa using hq')) h
        refine ⟨cs', ?_, g2⟩
        simp only [Instr.fill, hpl _ _ hpi]
        rw [if_neg (by simp; omega)]
        exact g1
      · cases h
    · cases h
end Go.VM
