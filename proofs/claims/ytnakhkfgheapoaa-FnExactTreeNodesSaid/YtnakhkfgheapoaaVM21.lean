import Derived.Test.YtnakhkfgheapoaaVM15
/-! Slices of numbers, read. -/
set_option linter.all false
namespace Go.VM
open Go
variable {P : Program} {H H' L : Heap} {v w x y : Value} {t t' : Env} {C : Ctx} {ty e : TypeId} {xs : List Int}

/-- a slice that reads as the numbers xs -/
def IsI (H : Heap) (v : Value) (xs : List Int) : Prop :=
  (v = .slice none 0 0 ∧ xs = []) ∨ ∃ id off r, v = .slice (some ⟨id, off, some r.gen⟩) xs.length 0 ∧ H[id]? = some r ∧ (r.cells.drop off).take xs.length = xs.map (.int .i64) ∧ off + xs.length ≤ r.cells.length
/-- the place of an element -/
def elp (v : Value) (j : Nat) : Value := match v with | .slice (some a) _ _ => .pointer (some ⟨a.block, a.off + j, a.spot⟩) | _ => dead

theorem IsI.app (h : IsI H v xs) (L : Heap) : IsI (H ++ L) v xs := by
  rcases h with h | ⟨id, off, r, h1, h2, h3, h4⟩
  · exact .inl h
  · exact .inr ⟨id, off, r, h1, by rw [List.getElem?_append_left (List.getElem?_eq_some_iff.1 h2).1]; exact h2, h3, h4⟩
theorem IsI.len (h : IsI H v xs) (hs : isSl P ty = true) : vlen P H ty v = some (.int .i64 xs.length) := by
  rcases h with ⟨rfl, rfl⟩ | ⟨id, off, r, rfl, h2, h3, h4⟩
  · simp [vlen, hs]
  · simp [vlen, look, h2, hs]
theorem IsI.idx (h : IsI H v xs) (he : eltp P ty = some (e, 1)) {i : Int} (h0 : 0 ≤ i) (h1 : i < xs.length) : vindexAddr P H ty v (.int .i64 i) = some (elp v i.toNat) := by
  rcases h with ⟨rfl, rfl⟩ | ⟨id, off, r, rfl, h2, h3, h4⟩
  · simp at h1; omega
  · simp [vindexAddr, look, h2, he, elp, h0, h1]
theorem IsI.load (h : IsI H v xs) (he : tsz P e = some (false, 1)) {j : Nat} (h1 : j < xs.length) : vload P H e (elp v j) = some (.int .i64 (xs.getD j 0)) := by
  rcases h with ⟨rfl, rfl⟩ | ⟨id, off, r, rfl, h2, h3, h4⟩
  · simp at h1
  · have := congrArg (·[j]?) h3
    simp [h1] at this
    simp [vload, elp, look, h2, he, this, h1]
theorem IsI.one' (h : IsI H v xs) : VM.one v = true := by
  rcases h with ⟨rfl, rfl⟩ | ⟨id, off, r, rfl, h2, h3, h4⟩ <;> rfl
theorem IsI.cells (h : IsI H v xs) : v.cells = #[v] := by
  rcases h with ⟨rfl, rfl⟩ | ⟨id, off, r, rfl, h2, h3, h4⟩ <;> rfl
theorem IsI.src (h : IsI H v xs) : vsrc 1 H v = some (xs.length, xs.map (.int .i64)) := by
  rcases h with ⟨rfl, rfl⟩ | ⟨id, off, r, rfl, h2, h3, h4⟩
  · rfl
  · simp [vsrc, look, h2, h3, h4]
/-- the same with rows behind -/
theorem IsI.lenA (h : IsI H v xs) (hs : isSl P ty = true) : vlen P (H ++ L) ty v = some (.int .i64 xs.length) := (h.app L).len hs
theorem IsI.idxA (h : IsI H v xs) (he : eltp P ty = some (e, 1)) {i : Int} (h0 : 0 ≤ i) (h1 : i < xs.length) : vindexAddr P (H ++ L) ty v (.int .i64 i) = some (elp v i.toNat) := (h.app L).idx he h0 h1
theorem IsI.loadA (h : IsI H v xs) (he : tsz P e = some (false, 1)) {j : Nat} (h1 : j < xs.length) : vload P (H ++ L) e (elp v j) = some (.int .i64 (xs.getD j 0)) := (h.app L).load he h1
/-- a new row of numbers -/
theorem IsI.row {id : Nat} {r : Row} (h : H[id]? = some r) (hc : r.cells = xs.map (.int .i64)) : IsI H (.slice (some ⟨id, 0, some r.gen⟩) xs.length 0) xs :=
  .inr ⟨id, 0, r, rfl, h, by rw [hc, List.drop_zero, List.take_of_length_le (by simp)], by simp [hc]⟩

attribute [simp] vbuiltin newp vfieldAddr vfold vmax2 vmin2 vmake vbuildSlice vbuild vfill vfield part' vbound
@[simp] theorem vlen_nil (P : Program) (H : Heap) (t : TypeId) : vlen P H t (.slice none 0 0) = if isSl P t = true then some (.int .i64 0) else none := rfl
@[simp] theorem vlen_mk (P : Program) (H : Heap) (t : TypeId) (a : Addr) (len k : Nat) : vlen P H t (.slice (some a) len k) =
    match look H a with
    | some _ => if isSl P t = true then some (.int .i64 len) else none
    | none => none := rfl
@[simp] theorem vcap_nil (P : Program) (t : TypeId) : vcap P t (.slice none 0 0) = if isSl P t = true then some (.int .i64 0) else none := rfl
@[simp] theorem vslice_nil (P : Program) (H : Heap) (t : TypeId) (lo hi : Option Value) : vslice P H t lo hi (.slice none 0 0) =
    match eltp P t, vbound 0 lo, vbound 0 hi with
    | some _, some 0, some 0 => some (.slice none 0 0)
    | _, _, _ => none := rfl
@[simp] theorem vslice_mk (P : Program) (H : Heap) (t : TypeId) (lo hi : Option Value) (a : Addr) (len c : Nat) : vslice P H t lo hi (.slice (some a) len c) =
    match look H a with
    | some r => match eltp P t, vbound 0 lo, vbound len hi with
      | some (e, n), some l, some h => if r.elem = e ∧ 0 ≤ l ∧ l ≤ h ∧ h ≤ len then some (.slice (some ⟨a.block, a.off + l.toNat * n, a.spot⟩) (h.toNat - l.toNat) 0) else none
      | _, _, _ => none
    | none => none := rfl
/-- reading, writing and pointing at elements, once the row is known -/
@[simp] theorem vindexAddr_mk (P : Program) (H : Heap) (t : TypeId) (a : Addr) (len : Nat) (k : IntKind) (i : Int) : vindexAddr P H t (.slice (some a) len 0) (.int k i) =
    match look H a with
    | some _ => match eltp P t with
      | some (_, n) => if 0 ≤ i ∧ i < len then some (.pointer (some ⟨a.block, a.off + i.toNat * n, a.spot⟩)) else none
      | none => none
    | none => none := rfl
@[simp] theorem vload_mk (P : Program) (H : Heap) (t : TypeId) (a : Addr) : vload P H t (.pointer (some a)) =
    match look H a with
    | some r => match tsz P t with
      | some (true, n) => if a.off + n ≤ r.cells.length then some (.agg ((r.cells.drop a.off).take n).toArray) else none
      | some (false, _) => r.cells[a.off]?
      | none => none
    | none => none := rfl
@[simp] theorem vstore_mk (P : Program) (frz : Nat) (H : Heap) (t : TypeId) (x : Value) (a : Addr) : vstore P frz H t x (.pointer (some a)) =
    match look H a with
    | some r => match tsz P t with
      | some (_, n) => if frz ≤ a.block ∧ x.cells.size = n ∧ a.off + n ≤ r.cells.length ∧ ones x.cells.toList = true
          then some (H.set a.block { r with cells := splice r.cells a.off x.cells.toList }) else none
      | none => none
    | none => none := rfl
@[simp] theorem vsrc_nil (n : Nat) (H : Heap) : vsrc n H (.slice none 0 0) = some (0, []) := rfl
@[simp] theorem vsrc_mk (n : Nat) (H : Heap) (a : Addr) (len c : Nat) : vsrc n H (.slice (some a) len c) =
    match look H a with
    | some r => if a.off + len * n ≤ r.cells.length then some (len, (r.cells.drop a.off).take (len * n)) else none
    | none => none := rfl
@[simp] theorem vappend_nil (P : Program) (frz : Nat) (H : Heap) (t u : TypeId) (x : Value) : vappend P frz H t u (.slice none 0 0) x =
    if t = u then match eltp P t with
    | some (e, n) => match vsrc n H x with
      | some (m, news) => if m = 0 then some (.slice none 0 0, H) else
          if m ≤ 1073741824 ∧ ones news = true then some (.slice (some ⟨H.length, 0, some 0⟩) m 0, H ++ [⟨news, 0, e⟩]) else none
      | none => none
    | none => none else vappendZ P H t u (.slice none 0 0) x := rfl
@[simp] theorem vappend_mk (P : Program) (frz : Nat) (H : Heap) (t u : TypeId) (a : Addr) (len c : Nat) (x : Value) : vappend P frz H t u (.slice (some a) len c) x =
    if t = u then match eltp P t with
    | some (e, n) => match vsrc n H x with
      | some (m, news) => match look H a with
        | some r => if m = 0 then some (.slice (some a) len c, H) else
            if frz ≤ a.block ∧ a.off + len * n ≤ r.cells.length ∧ r.elem = e ∧ len + m ≤ 1073741824 ∧ ones r.cells = true ∧ ones news = true
            then some (.slice (some ⟨a.block, 0, some (r.gen + 1)⟩) (len + m) 0, H.set a.block ⟨vkeep r.cells a.off (len * n) ++ news, r.gen + 1, e⟩) else none
        | none => none
      | none => none
    | none => none else vappendZ P H t u (.slice (some a) len c) x := rfl
@[simp] theorem vappendZ_nil (P : Program) (H : Heap) (t u : TypeId) (q : IntKind) (k : Int) : vappendZ P H t u (.slice none 0 0) (.int q k) =
    match P.underlying u with
    | some (.int _) => match eltp P t with
      | some (e, n) => if 0 < n ∧ 0 < k ∧ k ≤ 1073741824 then some (.slice (some ⟨H.length, 0, some 0⟩) k.toNat 0, H ++ [⟨[], 0, e⟩]) else none
      | none => none
    | _ => none := rfl
@[simp] theorem vkeep_all (l : List Value) : vkeep l 0 l.length = l := by simp [vkeep]
@[simp] theorem vkeep_none (l : List Value) (o : Nat) : vkeep l o 0 = [] := by unfold vkeep; split <;> simp <;> omega
theorem vkeep_len {l : List Value} {k : Nat} (h : k = l.length) : vkeep l 0 k = l := by subst h; simp
@[simp] theorem vkeep_map {α : Type} (f : α → Value) (xs : List α) : vkeep (xs.map f) 0 xs.length = xs.map f := vkeep_len (by simp)
@[simp] theorem vkeep_mapE {α : Type} (f : α → Value) (xs : List α) {k : Nat} (h : xs.length = k) : vkeep (xs.map f) 0 k = xs.map f := vkeep_len (by simp [h])
@[simp] theorem ones_nil : ones [] = true := rfl
@[simp] theorem ones_cons (v : Value) (l : List Value) : ones (v :: l) = (VM.one v && ones l) := rfl
@[simp] theorem ones_app (l m : List Value) : ones (l ++ m) = (ones l && ones m) := List.all_append
@[simp] theorem ones_ints (k : IntKind) (xs : List Int) : ones (xs.map (.int k)) = true := by
  induction xs <;> simp_all [ones, VM.one]
@[simp] theorem one_int (k : IntKind) (n : Int) : VM.one (Value.int k n) = true := rfl
@[simp] theorem one_bool (b : Bool) : VM.one (Value.bool b) = true := rfl
@[simp] theorem one_str (b : ByteArray) : VM.one (Value.string b) = true := rfl
@[simp] theorem one_sl (a : Option Addr) (n c : Nat) : VM.one (Value.slice a n c) = true := rfl
@[simp] theorem one_ptr (a : Option Addr) : VM.one (Value.pointer a) = true := rfl
@[simp] theorem cells_int (k : IntKind) (n : Int) : (Value.int k n).cells = #[.int k n] := rfl
@[simp] theorem cells_bool (b : Bool) : (Value.bool b).cells = #[.bool b] := rfl
@[simp] theorem cells_str (b : ByteArray) : (Value.string b).cells = #[.string b] := rfl
@[simp] theorem cells_sl (a : Option Addr) (n c : Nat) : (Value.slice a n c).cells = #[.slice a n c] := rfl
@[simp] theorem cells_ptr (a : Option Addr) : (Value.pointer a).cells = #[.pointer a] := rfl
@[simp] theorem cells_agg (a : Array Value) : (Value.agg a).cells = a := rfl
@[simp] theorem app_get (H L : Heap) (i : Nat) : (H ++ L)[H.length + i]? = L[i]? := by rw [List.getElem?_append_right (by omega), Nat.add_sub_cancel_left]
@[simp] theorem app_get0 (H L : Heap) : (H ++ L)[H.length]? = L[0]? := by rw [List.getElem?_append_right (by omega), Nat.sub_self]
@[simp] theorem app_set (H L : Heap) (i : Nat) (r : Row) : (H ++ L).set (H.length + i) r = H ++ L.set i r := by rw [List.set_append_right _ _ (by omega), Nat.add_sub_cancel_left]
@[simp] theorem app_set0 (H L : Heap) (r : Row) : (H ++ L).set H.length r = H ++ L.set 0 r := by rw [List.set_append_right _ _ (by omega), Nat.sub_self]
@[simp] theorem look_app (H L : Heap) (i o : Nat) (s : Option Nat) : look (H ++ L) ⟨H.length + i, o, s⟩ = look L ⟨i, o, s⟩ := by simp [look]
@[simp] theorem look_app0 (H L : Heap) (o : Nat) (s : Option Nat) : look (H ++ L) ⟨H.length, o, s⟩ = look L ⟨0, o, s⟩ := by simp [look]
@[simp] theorem look_zero (r : Row) (L : Heap) (o : Nat) (s : Option Nat) : look (r :: L) ⟨0, o, s⟩ = if s = some r.gen then some r else none := rfl
@[simp] theorem look_succ (r : Row) (L : Heap) (n o : Nat) (s : Option Nat) : look (r :: L) ⟨n + 1, o, s⟩ = look L ⟨n, o, s⟩ := rfl

@[simp] theorem splice_succ (a : Value) (l cs : List Value) (o : Nat) : splice (a :: l) (o + 1) cs = a :: splice l o cs := by simp [splice, Nat.add_right_comm o 1]
@[simp] theorem splice_cons (a c : Value) (l cs : List Value) : splice (a :: l) 0 (c :: cs) = c :: splice l 0 cs := by simp [splice]
@[simp] theorem splice_nil (l : List Value) : splice l 0 [] = l := by simp [splice]
/-- filling a row from the left -/
theorem splice_fill {α : Type} (f : α → Value) (z : Value) (xs : List α) (i : Nat) (h : i < xs.length) : splice ((xs.take i).map f ++ List.replicate (xs.length - i) z) i [f xs[i]] = (xs.take (i + 1)).map f ++ List.replicate (xs.length - (i + 1)) z := by
  have h1 : ((xs.take i).map f).length = i := by simp; omega
  unfold splice
  rw [List.take_append_of_le_length (by omega), List.take_of_length_le (by omega), List.drop_append, List.drop_of_length_le (by simp; omega), h1]
  rw [List.take_succ_eq_append_getElem h]
  simp only [List.map_append, List.map_cons, List.map_nil, List.nil_append, List.length_cons, List.length_nil, List.drop_replicate]
  congr 2; omega
/-- the same, as simp writes it -/
theorem splice_fill' {α : Type} (f : α → Value) (z : Value) (xs : List α) (i : Nat) (h : i < xs.length) : splice ((xs.map f).take i ++ List.replicate (xs.length - i) z) i [f xs[i]] = (xs.map f).take (i + 1) ++ List.replicate (xs.length - (i + 1)) z := by
  have := splice_fill f z xs i h
  simpa only [List.map_take] using this
theorem scrub_ints (n : Nat) (k : IntKind) (xs : List Int) : (xs.map (Value.int k)).map (scrub n) = xs.map (.int k) := by
  rw [List.map_map]; rfl

@[simp] theorem add_lt_me (a n : Nat) : (a + n < a) = False := by simp
@[simp] theorem me_le_add (a n : Nat) : (a ≤ a + n) = True := by simp
theorem vbin_beq (hb : P.underlying ty = some .bool) (a b : Bool) : vbin P .eql ty (.bool a) (.bool b) = some (.bool (a == b)) := by simp [vbin, hb]
theorem vbin_bne (hb : P.underlying ty = some .bool) (a b : Bool) : vbin P .neq ty (.bool a) (.bool b) = some (.bool (!(a == b))) := by simp [vbin, hb, bne]
@[simp] theorem vbin_streq (a b : ByteArray) : vbin P .eql ty (.string a) (.string b) = some (.bool (a.toList == b.toList)) := rfl
@[simp] theorem vbin_strne (a b : ByteArray) : vbin P .neq ty (.string a) (.string b) = some (.bool (!(a.toList == b.toList))) := rfl
@[simp] theorem vbin_strlss (a b : ByteArray) : vbin P .lss ty (.string a) (.string b) = some (.bool (Op.bytesLess a.toList b.toList)) := rfl
/-- a row of numbers among the new rows -/
theorem IsI.at {L : Heap} {k : Nat} {g : Nat} {e : TypeId} (h : L[k]? = some ⟨xs.map (.int .i64), g, e⟩) : IsI (H ++ L) (.slice (some ⟨H.length + k, 0, some g⟩) xs.length 0) xs :=
  IsI.row (r := ⟨xs.map (.int .i64), g, e⟩) (by simpa using h) rfl
theorem IsI.at0 {L : Heap} {g : Nat} {e : TypeId} (h : L[0]? = some ⟨xs.map (.int .i64), g, e⟩) : IsI (H ++ L) (.slice (some ⟨H.length, 0, some g⟩) xs.length 0) xs :=
  IsI.row (r := ⟨xs.map (.int .i64), g, e⟩) (by simpa using h) rfl
@[simp] theorem scrub_intC (n : Nat) (k : IntKind) : (scrub n ∘ Value.int k) = Value.int k := rfl
@[simp] theorem take_len_map {α β : Type} (xs : List α) (f : α → β) : (xs.map f).take xs.length = xs.map f := List.take_of_length_le (by simp)

/-- a loop: what holds at each round; everything ends in z -/
theorem go_inv {F : Frm} {k : List Itm} {B : Code} {z : Option (Value × Heap)} (I : Nat → Env → Heap → Prop)
    (round : ∀ n t H, I n t H → (∀ m t' H', I m t' H' → m < n → go F (.again B :: k) .normal t' H' = z) → go F (.code B :: .again B :: k) .normal t H = z)
    {n : Nat} (h : I n t H) : go F (.code (.loop B) :: k) .normal t H = z := by
  induction n using Nat.strongRecOn generalizing t H with
  | _ n ih =>
    rw [go_loop]
    exact round n t H h fun m t' H' hI hm => by rw [go_again]; exact ih m hm hI
end Go.VM
