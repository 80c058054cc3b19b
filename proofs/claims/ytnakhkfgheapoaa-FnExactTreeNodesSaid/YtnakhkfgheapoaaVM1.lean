import Derived.Test.YtnakhkfgheapoaaVM0
/-! How the value machine's rows and values stand to the model's world. -/
set_option linter.all false
namespace Go.VM
open Go Go.RowKit

structure Loc where
  b : Nat
  o : Nat
  n : Nat
abbrev Inj := Nat → Option Loc
def Loc.at (l : Loc) (i : Nat) : Addr := ⟨l.b, l.o + i, none⟩

inductive VRel (P : Program) (H : Heap) (ι : Inj) : Value → Value → Prop
  | int (k n) : VRel P H ι (.int k n) (.int k n)
  | bool (b) : VRel P H ι (.bool b) (.bool b)
  | str (s) : VRel P H ι (.string s) (.string s)
  | nilFunc : VRel P H ι .nilFunc .nilFunc
  | nilPtr : VRel P H ι (.pointer none) (.pointer none)
  | nilSl : VRel P H ι (.slice none 0 0) (.slice none 0 0)
  | noSl {b} : VRel P H ι (.slice none 0 0) (.slice (some b) 0 0)
  | ptr {a r l} (hr : H[a.block]? = some r) (hg : a.spot = some r.gen) (hl : ι a.block = some l) :
      VRel P H ι (.pointer (some a)) (.pointer (some (l.at a.off)))
  | stalePtr {a r g c} (hr : H[a.block]? = some r) (hg : a.spot = some g) (h : g < r.gen) (h1 : c.oneCell' = true) : VRel P H ι (.pointer (some a)) c
  | sl {a r l len k cap} (hr : H[a.block]? = some r) (hg : a.spot = some r.gen) (hl : ι a.block = some l) (hlen : len ≤ cap)
      (hcap : a.off + cap * P.cellsOf r.elem ≤ l.n) : VRel P H ι (.slice (some a) len k) (.slice (some (l.at a.off)) len cap)
  | slZero {a r l k b} (hr : H[a.block]? = some r) (hg : a.spot = some r.gen) (hl : ι a.block = some l) : VRel P H ι (.slice (some a) 0 k) (.slice (some b) 0 0)
  | staleSl {a r g len k c} (hr : H[a.block]? = some r) (hg : a.spot = some g) (h : g < r.gen) (h1 : c.oneCell' = true) : VRel P H ι (.slice (some a) len k) c
  | func {fn} {f f' c c' : Array Value} (hf : f.size = f'.size) (hc : c.size = c'.size)
      (h1 : ∀ (i : Nat) (x y : Value), f[i]? = some x → f'[i]? = some y → VRel P H ι x y) (h2 : ∀ (i : Nat) (x y : Value), c[i]? = some x → c'[i]? = some y → VRel P H ι x y) :
      VRel P H ι (.func fn f c) (.func fn f' c')
  | agg {c c' : Array Value} (hc : c.size = c'.size) (h : ∀ (i : Nat) (x y : Value), c[i]? = some x → c'[i]? = some y → VRel P H ι x y) : VRel P H ι (.agg c) (.agg c')
  | tuple {c c' : Array Value} (hc : c.size = c'.size) (h : ∀ (i : Nat) (x y : Value), c[i]? = some x → c'[i]? = some y → VRel P H ι x y) : VRel P H ι (.tuple c) (.tuple c')
  | dead {c} (h1 : c.oneCell' = true) : VRel P H ι (.chan none) c
  | bot {c} : VRel P H ι (.map none) c

def Ext (H : Heap) (ι : Inj) (H' : Heap) (ι' : Inj) : Prop :=
  ∀ id r, H[id]? = some r → ∃ r', H'[id]? = some r' ∧ r'.elem = r.elem ∧ r.gen ≤ r'.gen ∧ (r'.gen = r.gen → ι' id = ι id)

variable {P : Program} {H H' H'' : Heap} {ι ι' ι'' : Inj} {v c : Value}

theorem Ext.refl (H : Heap) (ι : Inj) : Ext H ι H ι := fun _ r h => ⟨r, h, rfl, Nat.le_refl _, fun _ => rfl⟩
theorem Ext.trans (h : Ext H ι H' ι') (k : Ext H' ι' H'' ι'') : Ext H ι H'' ι'' := fun id r hr => by
  obtain ⟨r1, h1, e1, g1, l1⟩ := h id r hr
  obtain ⟨r2, h2, e2, g2, l2⟩ := k id r1 h1
  exact ⟨r2, h2, e2.trans e1, Nat.le_trans g1 g2, fun hg => (l2 (by omega)).trans (l1 (by omega))⟩

theorem VRel.mono (e : Ext H ι H' ι') (h : VRel P H ι v c) : VRel P H' ι' v c := by
  induction h with
  | int => exact .int _ _
  | bool => exact .bool _
  | str => exact .str _
  | nilFunc => exact .nilFunc
  | nilPtr => exact .nilPtr
  | nilSl => exact .nilSl
  | noSl => exact .noSl
  | @ptr a r l hr hg hl =>
    obtain ⟨r', h1, h2, h3, h4⟩ := e _ _ hr
    by_cases hge : r'.gen = r.gen
    · exact .ptr h1 (by rw [hg, hge]) ((h4 hge).trans hl)
    · exact .stalePtr h1 hg (by omega) rfl
  | stalePtr hr hg h h1 =>
    obtain ⟨r', k1, k2, k3, k4⟩ := e _ _ hr
    exact .stalePtr k1 hg (by omega) h1
  | @sl a r l len k cap hr hg hl hlen hcap =>
    obtain ⟨r', h1, h2, h3, h4⟩ := e _ _ hr
    by_cases hge : r'.gen = r.gen
    · exact .sl h1 (by rw [hg, hge]) ((h4 hge).trans hl) hlen (by rw [h2]; exact hcap)
    · exact .staleSl h1 hg (by omega) rfl
  | @slZero a r l k b hr hg hl =>
    obtain ⟨r', h1, h2, h3, h4⟩ := e _ _ hr
    by_cases hge : r'.gen = r.gen
    · exact .slZero h1 (by rw [hg, hge]) ((h4 hge).trans hl)
    · exact .staleSl h1 hg (by omega) rfl
  | staleSl hr hg h h1 =>
    obtain ⟨r', k1, k2, k3, k4⟩ := e _ _ hr
    exact .staleSl k1 hg (by omega) h1
  | func hf hc _ _ i1 i2 => exact .func hf hc i1 i2
  | agg hc _ ih => exact .agg hc ih
  | tuple hc _ ih => exact .tuple hc ih
  | dead h1 => exact .dead h1
  | bot => exact .bot

/-- a literal stands for itself -/
theorem VRel.lit (h : lit1 v = true) : VRel P H ι v v := by
  cases v with
  | int => exact .int _ _
  | bool => exact .bool _
  | string => exact .str _
  | nilFunc => exact .nilFunc
  | pointer a => cases a with | none => exact .nilPtr | some => simp [lit1] at h
  | slice a n m => 
    cases a with
    | some => simp [lit1] at h
    | none => cases n <;> cases m <;> simp [lit1] at h; exact .nilSl
  | _ => simp [lit1] at h
theorem VRel.one (h : VRel P H ι v c) (h1 : VM.one v = true) : c.oneCell' = true := by
  cases h <;> first | rfl | assumption | (simp [VM.one] at h1)
theorem VRel.cells (h : VRel P H ι v c) (hb : v ≠ .map none) : v.cells.size = c.cells.size ∧ ∀ (i : Nat) (x y : Value), v.cells[i]? = some x → c.cells[i]? = some y → VRel P H ι x y := by
  have one : ∀ {v c : Value}, VRel P H ι v c → v.cells = #[v] → c.cells = #[c] → v.cells.size = c.cells.size ∧ ∀ (i : Nat) (x y : Value), v.cells[i]? = some x → c.cells[i]? = some y → VRel P H ι x y := by
    intro v c h hv hc
    rw [hv, hc]
    refine ⟨rfl, fun i x y hx hy => ?_⟩
    cases i with
    | zero => simp at hx hy; subst hx; subst hy; exact h
    | succ i => simp at hx
  have oneC : ∀ c : Value, c.oneCell' = true → c.cells = #[c] := fun c h => by cases c <;> first | rfl | simp [Value.oneCell'] at h
  cases h with
  | agg hc h => exact ⟨hc, h⟩
  | stalePtr hr hg h h1 => exact one (.stalePtr hr hg h h1) rfl (oneC _ h1)
  | staleSl hr hg h h1 => exact one (.staleSl hr hg h h1) rfl (oneC _ h1)
  | dead h1 => exact one (.dead h1) rfl (oneC _ h1)
  | int => exact one (.int _ _) rfl rfl
  | bool => exact one (.bool _) rfl rfl
  | str => exact one (.str _) rfl rfl
  | nilFunc => exact one .nilFunc rfl rfl
  | nilPtr => exact one .nilPtr rfl rfl
  | nilSl => exact one .nilSl rfl rfl
  | noSl => exact one .noSl rfl rfl
  | ptr hr hg hl => exact one (.ptr hr hg hl) rfl rfl
  | sl hr hg hl hlen hcap => exact one (.sl hr hg hl hlen hcap) rfl rfl
  | slZero hr hg hl => exact one (.slZero hr hg hl) rfl rfl
  | func hf hc h1 h2 => exact one (.func hf hc h1 h2) rfl rfl
  | tuple hc h => exact one (.tuple hc h) rfl rfl
  | bot => exact absurd rfl hb

/-- a row's cells stand in the world -/
def RowAt (P : Program) (H : Heap) (ι : Inj) (w : World) (cells : List Value) (l : Loc) : Prop :=
  cells.length ≤ l.n ∧ ∀ i v, cells[i]? = some v → ∃ c, w.cell? (l.at i) = some c ∧ VRel P H ι v c

structure Rel (P : Program) (B : Nat) (w0 : World) (frz : Nat) (ι : Inj) (H : Heap) (w : World) : Prop where
  below : Below B w0 w
  hB : B ≤ w.heap.size
  row : ∀ id l, ι id = some l → l.b < w.heap.size ∧ ∃ r, H[id]? = some r ∧ RowAt P H ι w r.cells l
  own : ∀ id l r, ι id = some l → H[id]? = some r → frz ≤ id → B ≤ l.b ∧ (∃ cs : Array Value, w.heap[l.b]? = some (.cells cs r.elem (0, 0)) ∧ l.o + l.n = cs.size) ∧
    ∀ id' l', ι id' = some l' → l'.b = l.b → id' = id

/-- the frame's slots -/
def ERel (P : Program) (H : Heap) (ι : Inj) (t : Env) (tmps : Array Value) : Prop := ∀ x, VRel P H ι (t x) (tmps.getD x undef)

variable {B frz : Nat} {w0 w w' : World} {t : Env} {tmps : Array Value}

theorem ERel.mono (e : Ext H ι H' ι') (h : ERel P H ι t tmps) : ERel P H' ι' t tmps := fun x => (h x).mono e
theorem RowAt.mono {cells : List Value} {l : Loc} (e : Ext H ι H' ι') (h : RowAt P H ι w cells l) : RowAt P H' ι' w cells l :=
  ⟨h.1, fun i v hv => let ⟨c, h1, h2⟩ := h.2 i v hv; ⟨c, h1, h2.mono e⟩⟩
theorem VRel.undef : VRel P H ι undef undef := .tuple rfl fun i x y h => by simp at h

theorem ERel.put (h : ERel P H ι t tmps) (d : Option Tmp) (hd : ∀ x, d = some x → x < tmps.size) (hv : VRel P H ι v c) (defers : List Deferred) :
    ERel P H ι (put t d v) ((Act.mk tmps defers).put d c).tmps := by
  cases d with
  | none => exact h
  | some d =>
    have hlt := hd d rfl
    intro x
    simp only [VM.put, upd, Act.put]
    by_cases hx : x = d
    · subst hx; simp [hlt, Array.getD, hv]
    · have := h x
      simp only [hx, if_false]
      have e : (tmps.setIfInBounds d c).getD x Go.undef = tmps.getD x Go.undef := by
        simp only [Array.getD_eq_getD_getElem?]
        rw [Array.getElem?_setIfInBounds_ne (by omega)]
      rw [e]; exact this

theorem ev_ok (h : ERel P H ι t tmps) (x : Operand) (defers : List Deferred) : VRel P H ι (ev t x) ((Act.mk tmps defers).eval x) := by
  cases x with
  | tmp x => exact h x
  | const v =>
    simp only [ev, Act.eval]
    by_cases hl : lit1 v = true
    · have : vlit v = v := by
        cases v with
        | pointer a => cases a with | none => rfl | some => simp [lit1] at hl
        | slice a n m => cases a with | some => simp [lit1] at hl | none => cases n <;> cases m <;> simp [lit1] at hl; rfl
        | _ => first | rfl | (simp [lit1] at hl)
      rw [this]; exact .lit hl
    · have : vlit v = .map none := by
        cases v with
        | pointer a => cases a with | none => simp [lit1] at hl | some => rfl
        | slice a n m => cases a with | some => rfl | none => cases n <;> cases m <;> first | rfl | (simp [lit1] at hl)
        | _ => first | rfl | (simp [lit1] at hl)
      rw [this]; exact .bot
  | global g => exact .bot
  | func f => exact .func rfl rfl (fun i x y h => by simp at h) (fun i x y h => by simp at h)
end Go.VM
