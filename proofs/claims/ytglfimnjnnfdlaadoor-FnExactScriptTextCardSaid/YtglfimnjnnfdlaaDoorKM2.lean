/- Texts of a proof, joined. -/
import Derived.OpenShut
import Derived.LaidMore
import Derived.ProofKit
import Derived.Test.YtglfimnjnnfdlaaDoorKM0
import Derived.Test.YtglfimnjnnfdlaaDoorKM1
/-! Running with what is to hold at the end. -/
set_option linter.all false
namespace Go.VM
open Go
variable {P : Program} {H H' H'' L : Heap} {v w x y : Value} {t t' : Env} {C : Ctx} {F : Frm} {Q Q' : Value → Heap → Prop} {r : Option (Value × Heap)} {d : Option Tmp} {k k1 k2 : List Itm}

/-- the call returns, and what it returns satisfies Q -/
def wp (r : Option (Value × Heap)) (Q : Value → Heap → Prop) : Prop := ∃ v H, r = some (v, H) ∧ Q v H
@[simp] theorem wp_some : wp (some (v, H)) Q ↔ Q v H := ⟨fun ⟨v', H', h, hq⟩ => by cases h; exact hq, fun h => ⟨v, H, rfl, h⟩⟩
@[simp] theorem wp_none : wp none Q ↔ False := ⟨fun ⟨_, _, h, _⟩ => (by cases h), fun h => h.elim⟩
theorem wp.mono (h : wp r Q) (k : ∀ v H, Q v H → Q' v H) : wp r Q' := by
  obtain ⟨v, H, h1, h2⟩ := h; exact ⟨v, H, h1, k _ _ h2⟩
theorem wp_eq (h : r = some (v, H)) (hq : Q v H) : wp r Q := ⟨v, H, h, hq⟩
theorem wp_thn (h : wp r Q') (hk : ∀ v H', Q' v H' → wp (go F k .normal (put t d v) H') Q) : wp (thn F r d k t) Q := by
  obtain ⟨v, H, rfl, h2⟩ := h; exact hk _ _ h2
theorem wp_thnW {op : Op} {b : Bool} {all : Array Oper} {fl : List Nat × List Nat} {n : Nat} {wl : List Wat} {l : List Oper} (h : wp r Q')
    (hk : ∀ v H', Q' v H' → Wok F.C.P H' (wgrow b op t v H' wl) ∧ wp (go F (.opsW all fl (n + 1) (wgrow b op t v H' wl) l :: k) .normal (put t d v) H') Q) : wp (thnW F r op b d all fl n wl l k t) Q := by
  obtain ⟨v, H, rfl, h2⟩ := h
  obtain ⟨k1, k2⟩ := hk _ _ h2
  simp only [thnW_some, wneed, k1, or_true, if_true]; exact k2
theorem wp_wneed {p : Prop} (h : p) (hk : wp r Q) : wp (wneed p r) Q := by unfold wneed; rw [if_pos h]; exact hk
theorem wp_need {p : Prop} [Decidable p] (h : p) (hk : wp r Q) : wp (vneed p r) Q := by unfold vneed; rw [if_pos h]; exact hk
theorem wp_dec {p : Prop} [Decidable p] (h1 : p → wp (go F k1 .normal t H) Q) (h2 : ¬ p → wp (go F k2 .normal t H) Q) : wp (br F (.bool (decide p)) k1 k2 t H) Q := by
  by_cases h : p
  · simp only [h, decide_true]; exact h1 h
  · simp only [h, decide_false]; exact h2 h
theorem wp_bool {b : Bool} (h1 : b = true → wp (go F k1 .normal t H) Q) (h2 : b = false → wp (go F k2 .normal t H) Q) : wp (br F (.bool b) k1 k2 t H) Q := by
  cases b; exact h2 rfl; exact h1 rfl
theorem wpg_dec {p : Prop} [Decidable p] {want : Bool} {op : Op} (h1 : p → wp (gd F (.bool true) want op d k t H) Q) (h2 : ¬ p → wp (gd F (.bool false) want op d k t H) Q) :
    wp (gd F (.bool (decide p)) want op d k t H) Q := by
  by_cases h : p
  · simp only [h, decide_true]; exact h1 h
  · simp only [h, decide_false]; exact h2 h
theorem wpg_bool {b want : Bool} {op : Op} (h1 : b = true → wp (gd F (.bool true) want op d k t H) Q) (h2 : b = false → wp (gd F (.bool false) want op d k t H) Q) :
    wp (gd F (.bool b) want op d k t H) Q := by cases b; exact h2 rfl; exact h1 rfl
/-- a loop: what holds at each round -/
theorem wp_inv {B : Code} (I : Nat → Env → Heap → Prop)
    (round : ∀ n t H, I n t H → (∀ m t' H', I m t' H' → m < n → wp (go F (.again B :: k) .normal t' H') Q) → wp (go F (.code B :: .again B :: k) .normal t H) Q)
    {n : Nat} (h : I n t H) : wp (go F (.code (.loop B) :: k) .normal t H) Q := by
  induction n using Nat.strongRecOn generalizing t H with
  | _ n ih =>
    rw [go_loop]
    exact round n t H h fun m t' H' hI hm => by rw [go_again]; exact ih m hm hI

/-- elements told by cells -/
structure Fl (α : Type) where
  n : Nat
  f : α → List Value
  len : ∀ a, (f a).length = n
def Fl.int : Fl Int := ⟨1, fun a => [.int .i64 a], fun _ => rfl⟩
def Fl.u8 : Fl Int := ⟨1, fun a => [.int .u8 a], fun _ => rfl⟩
def Fl.str : Fl ByteArray := ⟨1, fun a => [.string a], fun _ => rfl⟩
def Fl.bool : Fl Bool := ⟨1, fun a => [.bool a], fun _ => rfl⟩
/-- elements that are values themselves (headers of slices) -/
def Fl.val : Fl Value := ⟨1, fun a => [a], fun _ => rfl⟩
@[simp] theorem Fl.int_n : Fl.int.n = 1 := rfl
@[simp] theorem Fl.u8_n : Fl.u8.n = 1 := rfl
@[simp] theorem Fl.str_n : Fl.str.n = 1 := rfl
@[simp] theorem Fl.bool_n : Fl.bool.n = 1 := rfl
@[simp] theorem Fl.val_n : Fl.val.n = 1 := rfl
@[simp] theorem Fl.int_f (a : Int) : Fl.int.f a = [.int .i64 a] := rfl
@[simp] theorem Fl.u8_f (a : Int) : Fl.u8.f a = [.int .u8 a] := rfl
@[simp] theorem Fl.str_f (a : ByteArray) : Fl.str.f a = [.string a] := rfl
@[simp] theorem Fl.bool_f (a : Bool) : Fl.bool.f a = [.bool a] := rfl
@[simp] theorem Fl.val_f (a : Value) : Fl.val.f a = [a] := rfl

variable {α : Type} {D : Fl α} {xs ys : List α} {e ty : TypeId}
def cellsOf (D : Fl α) (xs : List α) : List Value := xs.flatMap D.f
@[simp] theorem cellsOf_nil : cellsOf D [] = [] := rfl
@[simp] theorem cellsOf_cons (a : α) : cellsOf D (a :: xs) = D.f a ++ cellsOf D xs := by simp [cellsOf]
@[simp] theorem cellsOf_app : cellsOf D (xs ++ ys) = cellsOf D xs ++ cellsOf D ys := by simp [cellsOf]
@[simp] theorem cellsOf_len : (cellsOf D xs).length = xs.length * D.n := by
  induction xs with
  | nil => simp
  | cons a l ih => simp [ih, D.len, Nat.succ_mul]; omega
theorem cellsOf_drop (j : Nat) : (cellsOf D xs).drop (j * D.n) = cellsOf D (xs.drop j) := by
  induction j generalizing xs with
  | zero => simp
  | succ j ih =>
    cases xs with
    | nil => simp
    | cons a l =>
      rw [cellsOf_cons, Nat.succ_mul, Nat.add_comm, ← List.drop_drop, List.drop_left' (D.len a), ih]; rfl
theorem cellsOf_take (j : Nat) : (cellsOf D xs).take (j * D.n) = cellsOf D (xs.take j) := by
  induction j generalizing xs with
  | zero => simp
  | succ j ih =>
    cases xs with
    | nil => simp
    | cons a l =>
      rw [cellsOf_cons, Nat.succ_mul, Nat.add_comm, List.take_append, D.len, List.take_of_length_le (by rw [D.len]; omega), Nat.add_sub_cancel_left, ih]; simp
@[simp] theorem cellsOf_val (vs : List Value) : cellsOf Fl.val vs = vs := by
  induction vs with
  | nil => rfl
  | cons a l ih => simp [ih]
theorem cellsOf_int (xs : List Int) : cellsOf Fl.int xs = xs.map (.int .i64) := by
  induction xs with
  | nil => rfl
  | cons a l ih => simp [ih]

/-- a slice that reads as xs -/
def Rd (D : Fl α) (H : Heap) (v : Value) (xs : List α) : Prop :=
  (v = .slice none 0 0 ∧ xs = []) ∨ ∃ id off r, v = .slice (some ⟨id, off, some r.gen⟩) xs.length 0 ∧ H[id]? = some r ∧ (r.cells.drop off).take (xs.length * D.n) = cellsOf D xs ∧ off + xs.length * D.n ≤ r.cells.length
/-- the same with the row's element type told -/
def Ow (D : Fl α) (e : TypeId) (H : Heap) (v : Value) (xs : List α) : Prop :=
  (v = .slice none 0 0 ∧ xs = []) ∨ ∃ id off r, v = .slice (some ⟨id, off, some r.gen⟩) xs.length 0 ∧ H[id]? = some r ∧ (r.cells.drop off).take (xs.length * D.n) = cellsOf D xs ∧
    off + xs.length * D.n ≤ r.cells.length ∧ r.elem = e ∧ ones r.cells = true
theorem Ow.rd (h : Ow D e H v xs) : Rd D H v xs := by
  rcases h with h | ⟨id, off, r, h1, h2, h3, h4, _⟩
  · exact .inl h
  · exact .inr ⟨id, off, r, h1, h2, h3, h4⟩
/-- the rows that a value names -/
def ids : Value → List Nat
  | .slice (some a) _ _ => [a.block]
  | .pointer (some a) => [a.block]
  | _ => []
@[simp] theorem ids_nil (n k : Nat) : ids (.slice none n k) = [] := rfl
@[simp] theorem ids_sl (a : Addr) (n k : Nat) : ids (.slice (some a) n k) = [a.block] := rfl
@[simp] theorem ids_ptr (a : Addr) : ids (.pointer (some a)) = [a.block] := rfl
/-- rows may have been added, and those of a list changed -/
def Chg (H H' : Heap) (is : List Nat) : Prop := H.length ≤ H'.length ∧ ∀ i, i < H.length → i ∉ is → H'[i]? = H[i]?
theorem get_app {i : Nat} (h : i < H.length) : (H ++ L)[i]? = H[i]? := List.getElem?_append_left h
theorem Chg.refl (is : List Nat) : Chg H H is := ⟨Nat.le_refl _, fun _ _ _ => rfl⟩
theorem Chg.app (is : List Nat) : Chg H (H ++ L) is := ⟨by simp, fun _ h _ => get_app h⟩
theorem Chg.trans {is : List Nat} (h : Chg H H' is) (h' : Chg H' H'' is) : Chg H H'' is := ⟨Nat.le_trans h.1 h'.1, fun i hl hi => (h'.2 i (Nat.lt_of_lt_of_le hl h.1) hi).trans (h.2 i hl hi)⟩
/-- what is new may be changed as well -/
theorem Chg.trans' {is js : List Nat} (h : Chg H H' is) (h' : Chg H' H'' js) (k : ∀ i ∈ js, i ∈ is ∨ H.length ≤ i) : Chg H H'' is := ⟨Nat.le_trans h.1 h'.1, fun i hl hi => (h'.2 i (Nat.lt_of_lt_of_le hl h.1) (fun hj => (k i hj).elim hi (by omega))).trans (h.2 i hl hi)⟩
theorem Chg.mono {is js : List Nat} (h : Chg H H' is) (k : ∀ i ∈ is, i ∈ js) : Chg H H' js := ⟨h.1, fun i hl hi => h.2 i hl fun hh => hi (k i hh)⟩
/-- the rows in front are changed, those behind stay -/
theorem Chg.split {A B : Heap} {is : List Nat} (h : Chg (A ++ B) H' is) (k : ∀ i ∈ is, i < A.length) : ∃ A' M, H' = A' ++ (B ++ M) ∧ A'.length = A.length ∧ Chg A A' is := by
  have hl := h.1
  simp at hl
  refine ⟨H'.take A.length, H'.drop (A.length + B.length), ?_, by simp; omega, by simp; omega, fun i hi hn => ?_⟩
  · have e : (H'.drop A.length).take B.length = B := by
      apply List.ext_getElem?
      intro i
      rw [List.getElem?_take]
      by_cases hi : i < B.length
      · rw [if_pos hi, List.getElem?_drop, h.2 (A.length + i) (by simp; omega) (fun hh => by have := k _ hh; omega), List.getElem?_append_right (by omega), Nat.add_sub_cancel_left]
      · rw [if_neg hi, List.getElem?_eq_none (by omega)]
    have e2 : H'.drop (A.length + B.length) = (H'.drop A.length).drop B.length := by rw [List.drop_drop]
    rw [e2]
    conv => lhs; rw [← List.take_append_drop A.length H', ← List.take_append_drop B.length (H'.drop A.length), e]
  · rw [List.getElem?_take, if_pos hi, h.2 i (by simp; omega) hn, get_app hi]
theorem Chg.ex {is : List Nat} (h : Chg H H' is) (k : ∀ i ∈ is, H.length ≤ i) : ∃ M, H' = H ++ M := by
  have hl := h.1
  refine ⟨H'.drop H.length, ?_⟩
  have : H'.take H.length = H := by
    apply List.ext_getElem?
    intro i
    rw [List.getElem?_take]
    by_cases hi : i < H.length
    · rw [if_pos hi, h.2 i hi (fun hh => by have := k i hh; omega)]
    · rw [if_neg hi, List.getElem?_eq_none (by omega)]
  conv => lhs; rw [← List.take_append_drop H.length H', this]
theorem Rd.frame (h : Rd D H v xs) (k : ∀ i ∈ ids v, H'[i]? = H[i]?) : Rd D H' v xs := by
  rcases h with h | ⟨id, off, r, rfl, h2, h3⟩
  · exact .inl h
  · exact .inr ⟨id, off, r, rfl, by rw [k id (by simp)]; exact h2, h3⟩
theorem Ow.frame (h : Ow D e H v xs) (k : ∀ i ∈ ids v, H'[i]? = H[i]?) : Ow D e H' v xs := by
  rcases h with h | ⟨id, off, r, rfl, h2, h3⟩
  · exact .inl h
  · exact .inr ⟨id, off, r, rfl, by rw [k id (by simp)]; exact h2, h3⟩
theorem Rd.lt (h : Rd D H v xs) : ∀ i ∈ ids v, i < H.length := by
  rcases h with ⟨rfl, _⟩ | ⟨id, off, r, rfl, h2, h3⟩
  · simp
  · simpa using (List.getElem?_eq_some_iff.1 h2).1
theorem Ow.lt (h : Ow D e H v xs) : ∀ i ∈ ids v, i < H.length := h.rd.lt
theorem Rd.app (h : Rd D H v xs) : Rd D (H ++ L) v xs := h.frame fun i hi => get_app (h.lt i hi)
theorem Ow.app (h : Ow D e H v xs) : Ow D e (H ++ L) v xs := h.frame fun i hi => get_app (h.lt i hi)
theorem Rd.chg {is : List Nat} (h : Rd D H v xs) (k : Chg H H' is) (k' : ∀ i ∈ ids v, i ∉ is) : Rd D H' v xs := h.frame fun i hi => k.2 i (h.lt i hi) (k' i hi)
theorem Ow.chg {is : List Nat} (h : Ow D e H v xs) (k : Chg H H' is) (k' : ∀ i ∈ ids v, i ∉ is) : Ow D e H' v xs := h.frame fun i hi => k.2 i (h.lt i hi) (k' i hi)
theorem Rd.one' (h : Rd D H v xs) : VM.one v = true := by
  rcases h with ⟨rfl, rfl⟩ | ⟨id, off, r, rfl, _⟩ <;> rfl
theorem Rd.cells (h : Rd D H v xs) : v.cells = #[v] := by
  rcases h with ⟨rfl, rfl⟩ | ⟨id, off, r, rfl, _⟩ <;> rfl
theorem Rd.sl (h : Rd D H v xs) : ∃ a, v = .slice a xs.length 0 := by
  rcases h with ⟨rfl, rfl⟩ | ⟨id, off, r, rfl, _⟩ <;> exact ⟨_, rfl⟩
theorem Rd.len (h : Rd D H v xs) (hs : isSl P ty = true) : vlen P H ty v = some (.int .i64 xs.length) := by
  rcases h with ⟨rfl, rfl⟩ | ⟨id, off, r, rfl, h2, h3⟩
  · simp [vlen, hs]
  · simp [vlen, look, h2, hs]
theorem Rd.room (h : Rd D H v xs) : ∀ id off g, v = .slice (some ⟨id, off, g⟩) xs.length 0 → ∃ r, H[id]? = some r ∧ g = some r.gen ∧ (r.cells.drop off).take (xs.length * D.n) = cellsOf D xs ∧ off + xs.length * D.n ≤ r.cells.length := by
  rcases h with ⟨rfl, rfl⟩ | ⟨id, off, r, rfl, h2, h3⟩
  · intro id off g h; cases h
  · intro id' off' g h; cases h; exact ⟨r, h2, rfl, h3⟩
theorem Rd.idx (h : Rd D H v xs) (he : eltp P ty = some (e, D.n)) {i : Int} (h0 : 0 ≤ i) (h1 : i < xs.length) : vindexAddr P H ty v (.int .i64 i) = some (elp v (i.toNat * D.n)) := by
  rcases h with ⟨rfl, rfl⟩ | ⟨id, off, r, rfl, h2, h3⟩
  · simp at h1; omega
  · simp [vindexAddr, look, h2, he, elp, h0, h1]
/-- a cell of an element -/
theorem cell_at {l : List Value} {off : Nat} (h3 : (l.drop off).take (xs.length * D.n) = cellsOf D xs) {j c : Nat} (hj : j < xs.length) (hc : c < D.n) : l[off + (j * D.n + c)]? = (D.f xs[j])[c]? := by
  have hlt : j * D.n + c < xs.length * D.n := by
    have : (j + 1) * D.n ≤ xs.length * D.n := Nat.mul_le_mul_right _ hj
    rw [Nat.succ_mul] at this; omega
  have e1 : ((l.drop off).take (xs.length * D.n))[j * D.n + c]? = l[off + (j * D.n + c)]? := by
    rw [List.getElem?_take, if_pos hlt, List.getElem?_drop]
  rw [← e1, h3, ← List.getElem?_drop, cellsOf_drop, List.drop_eq_getElem_cons hj, cellsOf_cons, List.getElem?_append_left (by rw [D.len]; exact hc)]
theorem Rd.cell (h : Rd D H v xs) (he : tsz P e = some (false, 1)) {j c : Nat} (hj : j < xs.length) (hc : c < D.n) : vload P H e (elp v (j * D.n + c)) = (D.f xs[j])[c]? := by
  rcases h with ⟨rfl, rfl⟩ | ⟨id, off, r, rfl, h2, h3, _⟩
  · simp at hj
  · simp only [elp, vload, look, h2, he, if_true]
    exact cell_at h3 hj hc
theorem Rd.field (h : Rd D H v xs) {s : TypeId} {f o n : Nat} {ag : Bool} (hf : finfo P s f = some (o, ag, n)) {j : Nat} (hj : 0 < xs.length) : vfieldAddr P H s f (elp v j) = some (elp v (j + o)) := by
  rcases h with ⟨rfl, rfl⟩ | ⟨id, off, r, rfl, h2, h3⟩
  · simp at hj
  · simp [vfieldAddr, elp, look, h2, hf, Nat.add_assoc]
theorem Rd.load (h : Rd D H v xs) (he : tsz P e = some (true, D.n)) {j : Nat} (hj : j < xs.length) : vload P H e (elp v (j * D.n)) = some (.agg (D.f xs[j]).toArray) := by
  rcases h with ⟨rfl, rfl⟩ | ⟨id, off, r, rfl, h2, h3, h4⟩
  · simp at hj
  · have hm : (j + 1) * D.n ≤ xs.length * D.n := Nat.mul_le_mul_right _ hj
    rw [Nat.succ_mul] at hm
    have e1 : ((r.cells.drop (off + j * D.n)).take D.n) = D.f xs[j] := by
      rw [← List.drop_drop]
      have : (((r.cells.drop off).take (xs.length * D.n)).drop (j * D.n)).take D.n = ((r.cells.drop off).drop (j * D.n)).take D.n := by
        rw [List.drop_take, List.take_take, Nat.min_eq_left (by omega)]
      rw [← this, h3, cellsOf_drop, List.drop_eq_getElem_cons hj, cellsOf_cons, List.take_left' (D.len _)]
    simp only [elp, vload, look, h2, he, if_true]
    rw [e1, if_pos (by omega)]
theorem Rd.src (h : Rd D H v xs) : vsrc D.n H v = some (xs.length, cellsOf D xs) := by
  rcases h with ⟨rfl, rfl⟩ | ⟨id, off, r, rfl, h2, h3, h4⟩
  · rfl
  · simp [vsrc, look, h2, h3, h4]
theorem vkeep_def (l : List Value) (o k : Nat) : vkeep l o k = (l.drop o).take k := by
  unfold vkeep
  split
  · rw [List.take_of_length_le]; rw [List.length_drop]; omega
  · rfl
theorem ones_take (l : List Value) (n : Nat) (h : ones l = true) : ones (l.take n) = true := by
  unfold ones at *; rw [List.all_eq_true] at *; exact fun x hx => h x (List.mem_of_mem_take hx)
theorem ones_drop (l : List Value) (n : Nat) (h : ones l = true) : ones (l.drop n) = true := by
  unfold ones at *; rw [List.all_eq_true] at *; exact fun x hx => h x (List.mem_of_mem_drop hx)
theorem ones_splice {l cs : List Value} {o : Nat} (h : ones l = true) (h' : ones cs = true) : ones (splice l o cs) = true := by
  unfold splice; simp [ones_take _ _ h, ones_drop _ _ h, h']
theorem splice_len {l cs : List Value} {o : Nat} (h : o + cs.length ≤ l.length) : (splice l o cs).length = l.length := by
  unfold splice; simp; omega
theorem splice_mid (A m B cs : List Value) (o : Nat) (h : o + cs.length ≤ m.length) : splice (A ++ (m ++ B)) (A.length + o) cs = A ++ (splice m o cs ++ B) := by
  unfold splice
  have e1 : (A ++ (m ++ B)).take (A.length + o) = A ++ m.take o := by
    rw [List.take_append, List.take_of_length_le (by omega), Nat.add_sub_cancel_left, List.take_append_of_le_length (by omega)]
  have e2 : (A ++ (m ++ B)).drop (A.length + o + cs.length) = m.drop (o + cs.length) ++ B := by
    rw [Nat.add_assoc, List.drop_append, List.drop_of_length_le (by omega), Nat.add_sub_cancel_left, List.drop_append_of_le_length h]; rfl
  rw [e1, e2]; simp [List.append_assoc]
theorem splice_len' {m cs : List Value} {o : Nat} (h : o + cs.length ≤ m.length) : (splice m o cs).length = m.length := splice_len h
theorem splice_region {l cs m : List Value} {off o N : Nat} (h : (l.drop off).take N = m) (h1 : off + N ≤ l.length) (h2 : o + cs.length ≤ N) : ((splice l (off + o) cs).drop off).take N = splice m o cs := by
  subst h
  have hl : l = l.take off ++ ((l.drop off).take N ++ (l.drop off).drop N) := by rw [List.take_append_drop, List.take_append_drop]
  have ha : (l.take off).length = off := by rw [List.length_take]; omega
  have hm : ((l.drop off).take N).length = N := by rw [List.length_take, List.length_drop]; omega
  generalize l.take off = A at hl ha
  generalize (l.drop off).drop N = B at hl
  generalize (l.drop off).take N = m at hl hm
  subst hl; subst ha; subst hm
  rw [splice_mid _ _ _ _ _ h2, List.drop_left' rfl, List.take_left' (splice_len h2)]
theorem cellsOf_splice {j : Nat} {y : α} (hj : j < xs.length) : splice (cellsOf D xs) (j * D.n) (D.f y) = cellsOf D (xs.set j y) := by
  unfold splice
  have e : j * D.n + (D.f y).length = (j + 1) * D.n := by rw [D.len, Nat.succ_mul]
  rw [e, cellsOf_take, cellsOf_drop, List.set_eq_take_append_cons_drop, if_pos hj]
  simp
theorem cellsOf_splice1 {j c : Nat} {y : α} {x : Value} (hj : j < xs.length) (hc : c < D.n) (hy : D.f y = (D.f xs[j]).set c x) : splice (cellsOf D xs) (j * D.n + c) [x] = cellsOf D (xs.set j y) := by
  rw [← cellsOf_splice hj]
  have e1 : cellsOf D xs = cellsOf D (xs.take j) ++ (D.f xs[j] ++ cellsOf D (xs.drop (j + 1))) := by
    rw [← cellsOf_cons, ← List.drop_eq_getElem_cons hj, ← cellsOf_app, List.take_append_drop]
  have l1 : (cellsOf D (xs.take j)).length = j * D.n := by rw [cellsOf_len, List.length_take, Nat.min_eq_left (by omega)]
  have l2 := D.len xs[j]
  rw [e1]
  generalize cellsOf D (xs.take j) = A at *
  generalize cellsOf D (xs.drop (j + 1)) = B at *
  rw [hy]
  generalize D.f xs[j] = M at *
  have e2 := splice_mid A M B [x] c (by simp; omega)
  have e3 := splice_mid A M B (M.set c x) 0 (by simp)
  rw [← l1, e2]
  rw [Nat.add_zero] at e3
  rw [e3]
  have e4 : splice M c [x] = M.set c x := by
    unfold splice; rw [List.set_eq_take_append_cons_drop, if_pos (by omega)]; simp
  have e5 : splice M 0 (M.set c x) = M.set c x := by unfold splice; simp
  rw [e4, e5]
/-- writing a cell of an element -/
theorem Ow.store1 {frz : Nat} (h : Ow D e H v xs) {et : TypeId} {ag : Bool} (he : tsz P et = some (ag, 1)) {j c : Nat} {y : α} (hj : j < xs.length) (hc : c < D.n) (hx : x.cells = #[x]) (ho : VM.one x = true) (hy : D.f y = (D.f xs[j]).set c x) (hf : ∀ i ∈ ids v, frz ≤ i) :
    ∃ H', vstore P frz H et x (elp v (j * D.n + c)) = some H' ∧ Ow D e H' v (xs.set j y) ∧ Chg H H' (ids v) ∧ H'.length = H.length := by
  rcases h with ⟨rfl, rfl⟩ | ⟨id, off, r, rfl, h2, h3, h4, h5, h6⟩
  · simp at hj
  · have hlt : j * D.n + c < xs.length * D.n := by
      have : (j + 1) * D.n ≤ xs.length * D.n := Nat.mul_le_mul_right _ hj
      rw [Nat.succ_mul] at this; omega
    have hid := (List.getElem?_eq_some_iff.1 h2).1
    refine ⟨H.set id { r with cells := splice r.cells (off + (j * D.n + c)) [x] }, ?_, .inr ⟨id, off, { r with cells := splice r.cells (off + (j * D.n + c)) [x] }, by simp, by simp [hid], ?_, ?_, h5, ones_splice h6 (by simp [ho])⟩, ⟨by simp, fun i _ hi => ?_⟩, by simp⟩
    · have hf' : frz ≤ id := hf id (by simp)
      have : off + (j * D.n + c) + 1 ≤ r.cells.length := by omega
      simp [elp, vstore, look, h2, he, hx, ho, hf', this]
    · rw [List.length_set, splice_region h3 h4 (by simp; omega), cellsOf_splice1 hj hc hy]
    · rw [List.length_set, splice_len (by simp; omega)]; exact h4
    · have : i ≠ id := fun hh => hi (by simp [hh])
      rw [List.getElem?_set_ne (fun hh => this hh.symm)]
/-- writing an element -/
theorem Ow.store {frz : Nat} (h : Ow D e H v xs) {et : TypeId} {ag : Bool} (he : tsz P et = some (ag, D.n)) {j : Nat} {y : α} (hj : j < xs.length) (hx : x.cells.toList = D.f y) (ho : ones (D.f y) = true) (hf : ∀ i ∈ ids v, frz ≤ i) :
    ∃ H', vstore P frz H et x (elp v (j * D.n)) = some H' ∧ Ow D e H' v (xs.set j y) ∧ Chg H H' (ids v) ∧ H'.length = H.length := by
  rcases h with ⟨rfl, rfl⟩ | ⟨id, off, r, rfl, h2, h3, h4, h5, h6⟩
  · simp at hj
  · have hlt : (j + 1) * D.n ≤ xs.length * D.n := Nat.mul_le_mul_right _ hj
    rw [Nat.succ_mul] at hlt
    have hn := D.len y
    have hid := (List.getElem?_eq_some_iff.1 h2).1
    refine ⟨H.set id { r with cells := splice r.cells (off + j * D.n) (D.f y) }, ?_, .inr ⟨id, off, { r with cells := splice r.cells (off + j * D.n) (D.f y) }, by simp, by simp [hid], ?_, ?_, h5, ones_splice h6 ho⟩, ⟨by simp, fun i _ hi => ?_⟩, by simp⟩
    · have hf' : frz ≤ id := hf id (by simp)
      have : off + j * D.n + D.n ≤ r.cells.length := by omega
      have hs : x.cells.size = D.n := by rw [← Array.length_toList, hx, hn]
      simp [elp, vstore, look, h2, he, hx, ho, hf', this, hs]
    · rw [List.length_set, splice_region h3 h4 (by omega), cellsOf_splice hj]
    · rw [List.length_set, splice_len (by omega)]; exact h4
    · have : i ≠ id := fun hh => hi (by simp [hh])
      rw [List.getElem?_set_ne (fun hh => this hh.symm)]
/-- a part of a slice -/
theorem Ow.slice (h : Ow D e H v xs) (he : eltp P ty = some (e, D.n)) {lo hi : Option Value} {l u : Nat} (h1 : vbound 0 lo = some (l : Int)) (h2 : vbound xs.length hi = some (u : Int)) (hlu : l ≤ u) (hu : u ≤ xs.length) :
    ∃ v', vslice P H ty lo hi v = some v' ∧ Ow D e H v' ((xs.drop l).take (u - l)) ∧ ids v' = ids v := by
  rcases h with ⟨rfl, rfl⟩ | ⟨id, off, r, rfl, k2, h3, h4, h5, h6⟩
  · obtain rfl : u = 0 := by simpa using hu
    obtain rfl : l = 0 := by omega
    refine ⟨.slice none 0 0, ?_, .inl ⟨rfl, by simp⟩, rfl⟩
    have h2' : vbound 0 hi = some (0 : Int) := h2
    have h1' : vbound 0 lo = some (0 : Int) := h1
    unfold vslice; simp only [he, h1', h2']
  · have hle : ((xs.drop l).take (u - l)).length = u - l := by simp; omega
    have hb : u * D.n ≤ xs.length * D.n := Nat.mul_le_mul_right _ hu
    have hc : (u - l) * D.n + l * D.n = u * D.n := by rw [← Nat.add_mul]; congr 1; omega
    refine ⟨.slice (some ⟨id, off + l * D.n, some r.gen⟩) (u - l) 0, ?_, .inr ⟨id, off + l * D.n, r, by rw [hle], k2, ?_, ?_, h5, h6⟩, rfl⟩
    · have : ((u : Int) ≤ xs.length) := by omega
      have hlu1 : (l : Int) ≤ u := by omega
      have hl0 : (0 : Int) ≤ l := by omega
      simp only [vslice, look, k2, he, h1, h2, h5, if_true, Int.toNat_natCast]
      rw [if_pos ⟨trivial, trivial, hl0, hlu1, this⟩]
    · rw [hle, ← cellsOf_take, ← cellsOf_drop, ← h3, List.drop_take, List.drop_drop, List.take_take, Nat.min_eq_left (by omega)]
    · rw [hle]; omega
/-- append -/
theorem Ow.append {frz : Nat} (h : Ow D e H v xs) (hx : Rd D H x ys) (he : eltp P ty = some (e, D.n)) (ho : ones (cellsOf D ys) = true) (hl : xs.length + ys.length ≤ 1073741824) (hf : ∀ i ∈ ids v, frz ≤ i) :
    ∃ v' H', vappend P frz H ty ty v x = some (v', H') ∧ Ow D e H' v' (xs ++ ys) ∧ Chg H H' (ids v) ∧ ∀ i ∈ ids v', i ∈ ids v ∨ H.length ≤ i := by
  by_cases hy : ys.length = 0
  · obtain rfl : ys = [] := List.length_eq_zero_iff.1 hy
    refine ⟨v, H, ?_, by simpa using h, Chg.refl _, fun i hi => .inl hi⟩
    rcases h with ⟨rfl, rfl⟩ | ⟨id, off, r, rfl, h2, h3, h4⟩
    · simp [vappend, he, hx.src]
    · simp [vappend, he, hx.src, look, h2]
  · rcases h with ⟨rfl, rfl⟩ | ⟨id, off, r, rfl, h2, h3, h4, h5, h6⟩
    · refine ⟨.slice (some ⟨H.length, 0, some 0⟩) ys.length 0, H ++ [⟨cellsOf D ys, 0, e⟩], ?_, .inr ⟨H.length, 0, ⟨cellsOf D ys, 0, e⟩, rfl, by simp, ?_, by simp, rfl, ho⟩, Chg.app _, fun i hi => .inr (by simp at hi; omega)⟩
      · have : ys.length ≤ 1073741824 := by simpa using hl
        simp [vappend, he, hx.src, hy, this, ho]
      · simp; rw [← cellsOf_len, List.take_length]
    · refine ⟨.slice (some ⟨id, 0, some (r.gen + 1)⟩) (xs.length + ys.length) 0, H.set id ⟨vkeep r.cells off (xs.length * D.n) ++ cellsOf D ys, r.gen + 1, e⟩, ?_, .inr ⟨id, 0, ⟨vkeep r.cells off (xs.length * D.n) ++ cellsOf D ys, r.gen + 1, e⟩, by simp, ?_, ?_, ?_, rfl, ?_⟩, ⟨by simp, fun i hl hi => ?_⟩, fun i hi => .inl (by simpa using hi)⟩
      · have hf' : frz ≤ id := hf id (by simp)
        simp [vappend, he, hx.src, hy, look, h2, hf', h4, h5, h6, hl, ho]
      · have := (List.getElem?_eq_some_iff.1 h2).1
        simp [this]
      · rw [vkeep_def, h3, List.drop_zero, ← cellsOf_app, ← cellsOf_len, List.take_length]
      · rw [vkeep_def, h3, ← cellsOf_app, cellsOf_len]; simp
      · rw [vkeep_def]; simp [ones_take _ _ (ones_drop _ _ h6)]; simpa using ho
      · have : i ≠ id := fun hh => hi (by simp [hh])
        rw [List.getElem?_set_ne (fun hh => this hh.symm)]
/-- one cell an element -/
theorem Rd.cell1 (h : Rd D H v xs) (hn : D.n = 1) (he : tsz P e = some (false, 1)) {j : Nat} (hj : j < xs.length) : vload P H e (elp v j) = (D.f xs[j])[0]? := by
  have := h.cell (P := P) he hj (c := 0) (by omega)
  simpa [hn] using this
theorem Rd.cell0 (h : Rd D H v xs) (he : tsz P e = some (false, 1)) {j : Nat} (hj : j < xs.length) (hn : 0 < D.n) : vload P H e (elp v (j * D.n)) = (D.f xs[j])[0]? := by
  have := h.cell (P := P) he hj (c := 0) hn
  simpa using this
theorem Ow.put1 {frz : Nat} (h : Ow D e H v xs) (hn : D.n = 1) {et : TypeId} {ag : Bool} (he : tsz P et = some (ag, 1)) {j : Nat} {y : α} (hj : j < xs.length) (hx : x.cells = #[x]) (ho : VM.one x = true) (hy : D.f y = [x]) (hf : ∀ i ∈ ids v, frz ≤ i) :
    ∃ H', vstore P frz H et x (elp v j) = some H' ∧ Ow D e H' v (xs.set j y) ∧ Chg H H' (ids v) ∧ H'.length = H.length := by
  have hl := D.len xs[j]
  have := h.store1 (P := P) (frz := frz) he hj (c := 0) (by omega) hx ho (y := y) (by
    rw [hy]; match hm : D.f xs[j], hl with
    | [z], _ => rfl
    | [], hl => simp [hn] at hl
    | _ :: _ :: _, hl => simp [hn] at hl) hf
  simpa [hn] using this
theorem Rd.isI {xs : List Int} (h : Rd Fl.int H v xs) : IsI H v xs := by
  rcases h with h | ⟨id, off, r, h1, h2, h3, h4⟩
  · exact .inl h
  · exact .inr ⟨id, off, r, h1, h2, by simpa [cellsOf_int] using h3, by simpa using h4⟩
theorem IsI.rd {xs : List Int} (h : IsI H v xs) : Rd Fl.int H v xs := by
  rcases h with h | ⟨id, off, r, h1, h2, h3, h4⟩
  · exact .inl h
  · exact .inr ⟨id, off, r, h1, h2, by simpa [cellsOf_int] using h3, by simpa using h4⟩
/-- a new row -/
theorem Ow.new {L : Heap} {k : Nat} {g : Nat} {cs : List Value} (h : L[k]? = some ⟨cs, g, e⟩) (hc : cs = cellsOf D xs) (ho : ones cs = true) {n : Nat} (hn : n = xs.length) : Ow D e (H ++ L) (.slice (some ⟨H.length + k, 0, some g⟩) n 0) xs := by
  subst hn hc
  refine .inr ⟨H.length + k, 0, ⟨cellsOf D xs, g, e⟩, rfl, by simpa using h, ?_, by simp, rfl, ho⟩
  rw [List.drop_zero, ← cellsOf_len, List.take_length]
theorem Ow.new0 {L : Heap} {g : Nat} {cs : List Value} (h : L[0]? = some ⟨cs, g, e⟩) (hc : cs = cellsOf D xs) (ho : ones cs = true) {n : Nat} (hn : n = xs.length) : Ow D e (H ++ L) (.slice (some ⟨H.length, 0, some g⟩) n 0) xs := Ow.new (k := 0) h hc ho hn

/-- what a call hands back in new rows -/
def Made (D : Fl α) (e : TypeId) (H : Heap) (xs : List α) (r : Value) (H' : Heap) : Prop := ∃ L, H' = H ++ L ∧ Ow D e (H ++ L) r xs ∧ ∀ i ∈ ids r, H.length ≤ i
theorem ids_nodup (v : Value) : (ids v).Nodup := by
  unfold ids; split <;> simp
/-- slices of slices -/
def RdL (D : Fl α) (H : Heap) (v : Value) (hs : List Value) (xss : List (List α)) : Prop :=
  Rd Fl.val H v hs ∧ hs.length = xss.length ∧ ∀ (j : Nat) (a : Value) (xs : List α), hs[j]? = some a → xss[j]? = some xs → Rd D H a xs
def OwL (D : Fl α) (e oe : TypeId) (H : Heap) (v : Value) (hs : List Value) (xss : List (List α)) : Prop :=
  Ow Fl.val oe H v hs ∧ hs.length = xss.length ∧ ∀ (j : Nat) (a : Value) (xs : List α), hs[j]? = some a → xss[j]? = some xs → Ow D e H a xs
def idsL (v : Value) (hs : List Value) : List Nat := ids v ++ hs.flatMap ids
variable {hs : List Value} {xss : List (List α)} {oe : TypeId}
theorem OwL.rd (h : OwL D e oe H v hs xss) : RdL D H v hs xss := ⟨h.1.rd, h.2.1, fun j a xs ha hx => (h.2.2 j a xs ha hx).rd⟩
theorem mem_idsL {j : Nat} {a : Value} (ha : hs[j]? = some a) {i : Nat} (hi : i ∈ ids a) : i ∈ idsL v hs :=
  List.mem_append.2 (.inr (List.mem_flatMap.2 ⟨a, List.mem_of_getElem? ha, hi⟩))
theorem RdL.frame (h : RdL D H v hs xss) (k : ∀ i ∈ idsL v hs, H'[i]? = H[i]?) : RdL D H' v hs xss :=
  ⟨h.1.frame fun i hi => k i (List.mem_append.2 (.inl hi)), h.2.1, fun j a xs ha hx => (h.2.2 j a xs ha hx).frame fun i hi => k i (mem_idsL ha hi)⟩
theorem OwL.frame (h : OwL D e oe H v hs xss) (k : ∀ i ∈ idsL v hs, H'[i]? = H[i]?) : OwL D e oe H' v hs xss :=
  ⟨h.1.frame fun i hi => k i (List.mem_append.2 (.inl hi)), h.2.1, fun j a xs ha hx => (h.2.2 j a xs ha hx).frame fun i hi => k i (mem_idsL ha hi)⟩
theorem RdL.lt (h : RdL D H v hs xss) : ∀ i ∈ idsL v hs, i < H.length := fun i hi => by
  rcases List.mem_append.1 hi with hi | hi
  · exact h.1.lt i hi
  · obtain ⟨a, ha, hi⟩ := List.mem_flatMap.1 hi
    obtain ⟨j, hj, rfl⟩ := List.getElem_of_mem ha
    have hj' : j < xss.length := h.2.1 ▸ hj
    exact (h.2.2 j _ xss[j] (by simp [hj]) (by simp [hj'])).lt i hi
theorem RdL.app (h : RdL D H v hs xss) : RdL D (H ++ L) v hs xss := h.frame fun i hi => get_app (h.lt i hi)
theorem OwL.lt (h : OwL D e oe H v hs xss) : ∀ i ∈ idsL v hs, i < H.length := h.rd.lt
theorem OwL.app (h : OwL D e oe H v hs xss) : OwL D e oe (H ++ L) v hs xss := h.frame fun i hi => get_app (h.lt i hi)
theorem RdL.chg {is : List Nat} (h : RdL D H v hs xss) (k : Chg H H' is) (k' : ∀ i ∈ idsL v hs, i ∉ is) : RdL D H' v hs xss := h.frame fun i hi => k.2 i (h.lt i hi) (k' i hi)
theorem OwL.chg {is : List Nat} (h : OwL D e oe H v hs xss) (k : Chg H H' is) (k' : ∀ i ∈ idsL v hs, i ∉ is) : OwL D e oe H' v hs xss := h.frame fun i hi => k.2 i (h.lt i hi) (k' i hi)
theorem RdL.inner (h : RdL D H v hs xss) {j : Nat} (hj : j < xss.length) : ∃ (a : Value), hs[j]? = some a ∧ Rd D H a xss[j] := by
  have hj' : j < hs.length := h.2.1 ▸ hj
  exact ⟨hs[j], by simp [hj'], h.2.2 j _ _ (by simp [hj']) (by simp [hj])⟩
theorem OwL.inner (h : OwL D e oe H v hs xss) {j : Nat} (hj : j < xss.length) : ∃ (a : Value), hs[j]? = some a ∧ Ow D e H a xss[j] := by
  have hj' : j < hs.length := h.2.1 ▸ hj
  exact ⟨hs[j], by simp [hj'], h.2.2 j _ _ (by simp [hj']) (by simp [hj])⟩
end Go.VM
/-! What a call of mode 0 that returns no rows leaves. -/
set_option linter.all false
namespace Go.VM
open Go
variable {P : Program} {H H' H'' L : Heap} {v w x y : Value} {t t' : Env} {C : Ctx} {F : Frm} {Q Q' : Value → Heap → Prop} {r : Option (Value × Heap)} {d : Option Tmp} {k k1 k2 : List Itm} {frz g : Nat} {l : List Value}

def plain : Value → Bool
  | .int _ _ | .bool _ | .string _ => true
  | _ => false
theorem packVal_plain {n : Nat} {v : Value} {ids : List Nat} (h : packVal n H w [] = some (v, ids)) (hv : plain v = true) : ids = [] := by
  unfold packVal at h
  split at h
  · split at h
    · cases h; simp [plain] at hv
    · cases h
  · unfold packCell at h
    split at h
    · split at h
      · cases h; simp [plain] at hv
      · split at h
        · split at h
          · cases h
          · cases h; simp [plain] at hv
        · cases h
    · split at h
      · cases h; simp [plain] at hv
      · split at h
        · split at h
          · cases h
          · cases h; simp [plain] at hv
        · cases h
    · cases h
    · cases h
    · split at h
      · cases h; simp [plain] at hv
      · cases h
    · cases h; rfl
theorem vfinish_plain {fn : Func} (hm : C.mode g = 0) (h : vfinish C g fn H t' H' = some (v, H'')) (hv : plain v = true) : H'' = H := by
  unfold vfinish at h
  split at h
  · rw [if_pos hm] at h
    split at h
    · rename_i vs _ a ids hp
      cases h
      have : ids = [] := by
        unfold pack at hp
        split at hp
        · split at hp
          · cases hp; simp [plain] at hv
          · split at hp
            · cases hp; simp [plain] at hv
            · cases hp
        · exact packVal_plain hp hv
      subst this; simp [packed]
    · cases h
  · cases h
theorem call_plain (hm : C.mode g = 0) (h : vcall C frz g l H = some (v, H'')) (hv : plain v = true) : H'' = H := by
  rw [vcall_eq] at h
  unfold vcallWith at h
  split at h
  · split at h
    · split at h
      · split at h
        · exact vfinish_plain hm h hv
        · exact vfinish_plain hm h hv
        · cases h
      · cases h
    · cases h
  · cases h
/-- what is told of the result alone is an equation -/
theorem wp.exact {u : Value} (hm : C.mode g = 0) (h : wp (vcall C frz g l H) (fun r _ => r = u)) (hu : plain u = true) : vcall C frz g l H = some (u, H) := by
  obtain ⟨v, H', h1, rfl⟩ := h
  rw [h1, call_plain hm h1 hu]
/-- bits, behind a name -/
def iand (k : IntKind) (a b : Int) : Int := k.wrap (BitVec.ofInt k.bits a &&& BitVec.ofInt k.bits b).toNat
def ixor (k : IntKind) (a b : Int) : Int := k.wrap (BitVec.ofInt k.bits a ^^^ BitVec.ofInt k.bits b).toNat
def ior (k : IntKind) (a b : Int) : Int := k.wrap (BitVec.ofInt k.bits a ||| BitVec.ofInt k.bits b).toNat
def ishr (k : IntKind) (a b : Int) : Int := a.fdiv (2 ^ min b.toNat k.bits)
def ishl (k : IntKind) (a b : Int) : Int := k.wrap (a * 2 ^ min b.toNat k.bits)
section
variable (ty : TypeId) (k k' : IntKind) (a b : Int)
@[simp] theorem vbin_and : vbin P .and ty (.int k a) (.int k b) = some (.int k (iand k a b)) := by simp [vbin, iarith, iand]
@[simp] theorem vbin_xor : vbin P .xor ty (.int k a) (.int k b) = some (.int k (ixor k a b)) := by simp [vbin, iarith, ixor]
@[simp] theorem vbin_or : vbin P .or ty (.int k a) (.int k b) = some (.int k (ior k a b)) := by simp [vbin, iarith, ior]
@[simp] theorem vbin_shr : vbin P .shr ty (.int k a) (.int k' b) = vneed (0 ≤ b) (some (.int k (ishr k a b))) := by
  simp only [vbin, ishift, vneed, ishr]
  by_cases h : b < 0
  · rw [if_pos h, if_neg (by omega)]; rfl
  · rw [if_neg h, if_pos (by omega)]; rfl
@[simp] theorem vbin_shl : vbin P .shl ty (.int k a) (.int k' b) = vneed (0 ≤ b) (some (.int k (ishl k a b))) := by
  simp only [vbin, ishift, vneed, ishl]
  by_cases h : b < 0
  · rw [if_pos h, if_neg (by omega)]; rfl
  · rw [if_neg h, if_pos (by omega)]; rfl
end
@[simp] theorem vconv_int (P : Program) (s d : TypeId) (H : Heap) (k : IntKind) (n : Int) : vconv P s d H (.int k n) = vconvert P d (.int k n) := rfl
@[simp] theorem vconv_str (P : Program) (s d : TypeId) (H : Heap) (b : ByteArray) : vconv P s d H (.string b) = vconvert P d (.string b) := rfl
@[simp] theorem vconvert_int (d : TypeId) (k : IntKind) (n : Int) : vconvert P d (.int k n) = match P.underlying d with | some (.int k') => some (.int k' (k'.wrap n)) | _ => none := rfl
@[simp] theorem vcopy_mk (frz : Nat) (t u : TypeId) (a : Addr) (len c : Nat) (x : Value) : vcopy P frz H t u (.slice (some a) len c) x =
    if t = u then match eltp P t with
    | some (_, n) => match vsrc n H x with
      | some (m, news) => match look H a with
        | some r => if frz ≤ a.block ∧ a.off + len * n ≤ r.cells.length ∧ ones news = true
            then some (.int .i64 (Nat.min m len), H.set a.block { r with cells := splice r.cells a.off (news.take (Nat.min m len * n)) }) else none
        | none => none
      | none => none
    | none => none else none := rfl
theorem bits_and (m n : Nat) (hm : m < 2 ^ 64) (hn : n < 2 ^ 64) (k : IntKind) (hk : k.bits = 64) : (BitVec.ofInt k.bits (m : Int) &&& BitVec.ofInt k.bits (n : Int)).toNat = m &&& n := by
  rw [BitVec.toNat_and, BitVec.toNat_ofInt, BitVec.toNat_ofInt, hk]
  congr 1 <;> omega
theorem ishr_nat (k : IntKind) (m j : Nat) (hj : j ≤ k.bits) : ishr k (m : Int) (j : Int) = ((m / 2 ^ j : Nat) : Int) := by
  unfold ishr
  rw [Int.toNat_natCast, Nat.min_eq_left hj, Int.fdiv_eq_ediv_of_nonneg _ (Int.le_of_lt (Int.pow_pos (by decide)))]
  simp
end Go.VM
/-! Data that lie in rows of their own. -/
set_option linter.all false
namespace Go.VM
open Go
variable {P : Program} {H H' H'' L : Heap}

/-- a kind of data: V names its slices, A tells what they hold -/
structure Dt (V A : Type) where
  val : V → A → Value
  Ow : Heap → V → A → Prop
  ids : V → List Nat
  frame : ∀ {H H' : Heap} {v : V} {a : A}, Ow H v a → (∀ i ∈ ids v, H'[i]? = H[i]?) → Ow H' v a
  lt : ∀ {H : Heap} {v : V} {a : A}, Ow H v a → ∀ i ∈ ids v, i < H.length
variable {V A : Type} {T : Dt V A} {v : V} {a : A} {is : List Nat}
theorem Dt.chg (h : T.Ow H v a) (c : Chg H H' is) (k : ∀ i ∈ T.ids v, i ∉ is) : T.Ow H' v a := T.frame h fun i hi => c.2 i (T.lt h i hi) (k i hi)
theorem Dt.chg0 (h : T.Ow H v a) (c : Chg H H' []) : T.Ow H' v a := Dt.chg h c (by simp)
theorem Dt.app (h : T.Ow H v a) : T.Ow (H ++ L) v a := Dt.chg0 h (Chg.app [])
/-- what a call hands back in rows of its own -/
def Dt.Made (T : Dt V A) (H : Heap) (a : A) (r : Value) (H' : Heap) : Prop := ∃ v, r = T.val v a ∧ T.Ow H' v a ∧ Chg H H' [] ∧ (∀ i ∈ T.ids v, H.length ≤ i) ∧ (T.ids v).Nodup
theorem Dt.Made.base {r : Value} (h : T.Made (H ++ L) a r H') : T.Made H a r H' := by
  obtain ⟨v, rfl, o, c, n, d⟩ := h
  exact ⟨v, rfl, o, (Chg.app []).trans c, fun i hi => by have := n i hi; simp at this; omega, d⟩
theorem Dt.Made.base' {r : Value} (h : T.Made H' a r H'') (c : Chg H H' []) : T.Made H a r H'' := by
  obtain ⟨v, rfl, o, c', n, d⟩ := h
  exact ⟨v, rfl, o, c.trans c', fun i hi => by have := n i hi; have := c.1; omega, d⟩
theorem box_chg {b : Nat} {r : Row} (h : H[b]? = some r) (c : Chg H H' is) (k : b ∉ is) : H'[b]? = some r := by
  rw [c.2 b (List.getElem?_eq_some_iff.1 h).1 k]; exact h
theorem box_lt {b : Nat} {r : Row} (h : H[b]? = some r) : b < H.length := (List.getElem?_eq_some_iff.1 h).1
theorem chg_lt {i n : Nat} (h : i < H.length) (c : Chg H H' is) : i < H'.length := Nat.lt_of_lt_of_le h c.1
/-- lists of ids that lie apart -/
theorem apart {l m : List Nat} {n : Nat} (h : ∀ i ∈ l, i < n) (k : ∀ i ∈ m, n ≤ i) : ∀ i ∈ l, i ∉ m := fun i hi hm => by have := h i hi; have := k i hm; omega
theorem apart' {l m : List Nat} {n : Nat} (h : ∀ i ∈ l, i < n) (k : ∀ i ∈ m, n ≤ i) : ∀ i ∈ m, i ∉ l := fun i hi hm => by have := h i hm; have := k i hi; omega
/-- one slice of flat elements -/
def dFlat {α : Type} (D : Fl α) (e : TypeId) (n : Nat) : Dt Value (List α) where
  val v _ := v
  Ow H v xs := VM.Ow D e H v xs ∧ xs.length ≤ n
  ids := VM.ids
  frame h k := ⟨h.1.frame k, h.2⟩
  lt h := h.1.lt
/-- append of one element -/
theorem Ow.push {α : Type} {D : Fl α} {e ty : TypeId} {v : Value} {xs : List α} {a : α} {frz : Nat} (h : VM.Ow D e H v xs) (he : eltp P ty = some (e, D.n)) (ho : ones (D.f a) = true) (hl : xs.length + 1 ≤ 1073741824) (hf : ∀ i ∈ VM.ids v, frz ≤ i) :
    ∃ v' H', vappend P frz (H ++ [⟨D.f a, 0, e⟩]) ty ty v (.slice (some ⟨H.length, 0, some 0⟩) 1 0) = some (v', H') ∧ VM.Ow D e H' v' (xs ++ [a]) ∧ Chg H H' (VM.ids v) ∧ ∀ i ∈ VM.ids v', i ∈ VM.ids v ∨ H.length ≤ i := by
  have hx : Rd D (H ++ [⟨D.f a, 0, e⟩]) (.slice (some ⟨H.length, 0, some 0⟩) 1 0) [a] := (Ow.new0 (D := D) (xs := [a]) rfl (by simp) ho rfl).rd
  obtain ⟨v', H', h1, h2, h3, h4⟩ := (h.app (L := [⟨D.f a, 0, e⟩])).append (P := P) (frz := frz) (ty := ty) hx he (by simpa using ho) (by simpa using hl) hf
  refine ⟨v', H', h1, h2, (Chg.app _).trans h3, fun i hi => ?_⟩
  rcases h4 i hi with h5 | h5
  · exact .inl h5
  · simp at h5; exact .inr (by omega)
/-- a cell of a box is written -/
theorem chg_set (b : Nat) (r : Row) : Chg H (H.set b r) [b] := ⟨by simp, fun i _ hi => by rw [List.getElem?_set_ne (by simp at hi; omega)]⟩
theorem set_get {b : Nat} {r r' : Row} (h : H[b]? = some r) : (H.set b r')[b]? = some r' := by
  have := box_lt h
  simp [this]
theorem get_app' {b : Nat} {r : Row} (h : H[b]? = some r) (L : Heap) : (H ++ L)[b]? = some r := by rw [get_app (box_lt h)]; exact h
@[simp] theorem vbin_bool_neq (ty : TypeId) (a b : Bool) : vbin P .neq ty (.bool a) (.bool b) = match P.underlying ty with | some .bool => some (.bool (a != b)) | _ => none := by
  simp only [vbin]; cases P.underlying ty with
  | none => rfl
  | some t => cases t <;> rfl
@[simp] theorem vbin_bool_eql (ty : TypeId) (a b : Bool) : vbin P .eql ty (.bool a) (.bool b) = match P.underlying ty with | some .bool => some (.bool (a == b)) | _ => none := by
  simp only [vbin]; cases P.underlying ty with
  | none => rfl
  | some t => cases t <;> rfl
/-- ways that come together again: what holds there, then what follows -/
theorem wp_join {F : Frm} {k : List Itm} {Q : Value → Heap → Prop} {R : Prop} (I : Env → Heap → Prop)
    (main : (∀ t H, I t H → wp (go F k .normal t H) Q) → R) (rest : ∀ t H, I t H → wp (go F k .normal t H) Q) : R := main rest
/-- the same before a call -/
theorem wp_joinc {F : Frm} {k : List Itm} {d : Option Tmp} {Q : Value → Heap → Prop} {R : Prop} (I : Option (Value × Heap) → Env → Prop)
    (main : (∀ r t, I r t → wp (thn F r d k t) Q) → R) (rest : ∀ r t, I r t → wp (thn F r d k t) Q) : R := main rest
/-- the same before a test, and before an operation that waits for a test -/
theorem wp_joinb {F : Frm} {k1 k2 : List Itm} {Q : Value → Heap → Prop} {R : Prop} (I : Value → Env → Heap → Prop)
    (main : (∀ c t H, I c t H → wp (br F c k1 k2 t H) Q) → R) (rest : ∀ c t H, I c t H → wp (br F c k1 k2 t H) Q) : R := main rest
theorem wp_joing {F : Frm} {k : List Itm} {d : Option Tmp} {want : Bool} {op : Op} {Q : Value → Heap → Prop} {R : Prop} (I : Value → Env → Heap → Prop)
    (main : (∀ c t H, I c t H → wp (gd F c want op d k t H) Q) → R) (rest : ∀ c t H, I c t H → wp (gd F c want op d k t H) Q) : R := main rest
/-- the same where a loop has been left -/
theorem wp_joino {F : Frm} {k : List Itm} {o : Out} {Q : Value → Heap → Prop} {R : Prop} (I : Env → Heap → Prop)
    (main : (∀ t H, I t H → wp (go F k o t H) Q) → R) (rest : ∀ t H, I t H → wp (go F k o t H) Q) : R := main rest
end Go.VM
/-! What a row's list of package variables gives the machine. -/
set_option linter.all false
namespace Go.VM
open Go Go.RowKit
theorem var_ints {Hh : Type} {enc : TypeId × Value → Hh} {P : Program} {w : World} {n : String} {g t e N base m : Nat} {spare : Nat → Bool} {held : Bool} {cs : Array Value} {k : IntKind} {ks : List Int} {p : List MemPlace}
    (hg : P.globalNamed n = some g) (hv : w.var? P n = some cs) (hu : P.underlying t = some (.array N e)) (hue : P.underlying e = some (.int k)) (c1 : P.cellsOf e = 1)
    (hd : DataW.trod enc P w base spare held m t cs.toList = some (.agg (ks.map fun x => .lit (.int k x)), p)) :
    ∀ i x, ks[i]? = some x → w.cell? ⟨g, i, none⟩ = some (.int k x) := by
  obtain ⟨xs, m1, rfl, hx1, hlen, hn, hel⟩ := DataW.trod_array hu hd
  simp only [Prod.mk.injEq, DataW.agg.injEq] at hx1
  have hl : ks.length = xs.length := by have := congrArg List.length hx1.1; simpa using this
  intro i x hi
  have hlt : i < ks.length := (List.getElem?_eq_some_iff.1 hi).1
  have h0 := hel i (by omega)
  rw [c1, Nat.mul_one, List.getElem?_eq_getElem (by omega)] at h0
  obtain ⟨y, e1, e2, _⟩ := DataW.trod_int hue h0
  have e3 : (ks.map fun x => (DataW.lit (.int k x) : DataW Hh))[i]? = (xs.map (·.1))[i]? := by rw [hx1.1]
  rw [List.getElem?_map, hi, List.getElem?_map, List.getElem?_eq_getElem (by omega), e2] at e3
  simp at e3
  rw [World.var?_cell hg hv i, e3]
  have e4 : ((cs.toList.drop i).take 1)[0]? = some (.int k y) := by rw [e1]; rfl
  rw [List.getElem?_take, if_pos (by omega), List.getElem?_drop] at e4
  simpa using e4
theorem laid_at {P : Program} {w : World} : ∀ {laid : List (String × DataW Unit)} {ps : List MemPlace}, DataW.LaidVars P w laid ps → ∀ n d, (n, d) ∈ laid → ∃ g t cs fuel p, P.globalNamed n = some g ∧ (P.globals[g]?).map (·.type) = some t ∧ w.var? P n = some cs ∧ DataW.trod (fun _ => ()) P w 0 (fun _ => true) false fuel t cs.toList = some (d, p)
  | [], _, _, n, d, hm => by cases hm
  | (n', d') :: rest, ps, h, n, d, hm => by
    obtain ⟨g, t, cs, f, p, q, h1, h2, h3, h4, h5, _⟩ := h
    rcases List.mem_cons.1 hm with e | hm
    · cases e; exact ⟨g, t, cs, f, p, h1, h2, h3, h4⟩
    · exact laid_at h5 n d hm
theorem cell_lt {w : World} {g i : Nat} {v : Value} (h : w.cell? ⟨g, i, none⟩ = some v) : g < w.heap.size := by
  rcases Nat.lt_or_ge g w.heap.size with k | k
  · exact k
  · have : w.heap[g]? = none := Array.getElem?_eq_none k
    simp [World.cell?, this] at h
/-- the powers of ten, listed -/
theorem gl_pow {P : Program} {w : World} {laid : List (String × DataW Unit)} {ps : List MemPlace} {g t e N : Nat} (hv : DataW.LaidVars P w laid ps) (hm : ("internal/strconv.uint64pow10", .agg (pow10s.map fun x => .lit (.int .u64 x))) ∈ laid)
    (hg : P.globalNamed "internal/strconv.uint64pow10" = some g) (ht : (P.globals[g]?).map (·.type) = some t) (hu : P.underlying t = some (.array N e)) (hue : P.underlying e = some (.int .u64)) (c1 : P.cellsOf e = 1) (h2 : P.globalNamed "strings.asciiSpace" = none) : GL P w.heap.size w := fun g' o v h => by
  obtain ⟨g1, t1, cs, f, p, k1, k2, k3, k4⟩ := laid_at hv _ _ hm
  rw [hg] at k1; cases k1
  rw [ht] at k2; cases k2
  unfold gtab at h
  rw [hg, h2] at h
  split at h
  · rename_i e0
    cases e0
    rw [Option.map_eq_some_iff] at h
    obtain ⟨x, hx, rfl⟩ := h
    have := var_ints hg k3 hu hue c1 k4 o x hx
    exact ⟨cell_lt this, this⟩
  · rw [if_neg (by simp)] at h; cases h
/-- powers of ten and spaces, listed -/
theorem gl_both {P : Program} {w : World} {laid : List (String × DataW Unit)} {ps : List MemPlace} {g t e N g2 t2 e2 N2 : Nat} (hv : DataW.LaidVars P w laid ps) (hm : ("internal/strconv.uint64pow10", .agg (pow10s.map fun x => .lit (.int .u64 x))) ∈ laid)
    (hg : P.globalNamed "internal/strconv.uint64pow10" = some g) (ht : (P.globals[g]?).map (·.type) = some t) (hu : P.underlying t = some (.array N e)) (hue : P.underlying e = some (.int .u64)) (c1 : P.cellsOf e = 1)
    (hm2 : ("strings.asciiSpace", .agg (((List.range 256).map spaceN).map fun x => .lit (.int .u8 x))) ∈ laid)
    (hg2 : P.globalNamed "strings.asciiSpace" = some g2) (ht2 : (P.globals[g2]?).map (·.type) = some t2) (hu2 : P.underlying t2 = some (.array N2 e2)) (hue2 : P.underlying e2 = some (.int .u8)) (c2 : P.cellsOf e2 = 1) : GL P w.heap.size w := fun g' o v h => by
  obtain ⟨g1, t1, cs, f, p, k1, k2, k3, k4⟩ := laid_at hv _ _ hm
  rw [hg] at k1; cases k1
  rw [ht] at k2; cases k2
  obtain ⟨g1', t1', cs', f', p', k1', k2', k3', k4'⟩ := laid_at hv _ _ hm2
  rw [hg2] at k1'; cases k1'
  rw [ht2] at k2'; cases k2'
  unfold gtab at h
  rw [hg, hg2] at h
  split at h
  · rename_i e0
    cases e0
    rw [Option.map_eq_some_iff] at h
    obtain ⟨x, hx, rfl⟩ := h
    have := var_ints hg k3 hu hue c1 k4 o x hx
    exact ⟨cell_lt this, this⟩
  · split at h
    · rename_i e0
      cases e0
      split at h
      · rename_i ho
        cases h
        have := var_ints hg2 k3' hu2 hue2 c2 k4' o (spaceN o) (by rw [List.getElem?_map, List.getElem?_range ho]; rfl)
        exact ⟨cell_lt this, this⟩
      · cases h
    · cases h
end Go.VM
