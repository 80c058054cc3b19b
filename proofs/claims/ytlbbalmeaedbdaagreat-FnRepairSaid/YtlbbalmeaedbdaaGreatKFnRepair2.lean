/- Texts of a proof, joined. -/
import Derived.Test.YtlbbalmeaedbdaaGreatKM0
import Derived.Test.YtlbbalmeaedbdaaGreatKM1
import Derived.Test.YtlbbalmeaedbdaaGreatKM2
import Derived.Test.YtlbbalmeaedbdaaGreatKFnRepair0
import Derived.Test.YtlbbalmeaedbdaaGreatKFnRepair1
/-! Dependencies of tables and of replies. -/
set_option linter.all false
namespace Go.Proofs.YtlbbalmeaedbdaaGreat.V
open Go Go.VM Go.Proofs
set_option maxRecDepth 10000
variable {frz : Nat} {H : Heap} {v : Value} {xs ys : List Int} {e : TypeId}
theorem arrK_congr {l m : List Int} (h : ∀ x, x ∈ l ↔ x ∈ m) : arrK l = arrK m := strict_ext (arrK_asc l) (arrK_asc m) fun x => by rw [mem_arrK, mem_arrK, h]
theorem arrK_len (l : List Int) : (arrK l).length ≤ l.length := by
  have := fold_len l []
  unfold arrK; simpa using this
theorem mem_adjN {l : List Int} {i : Nat} {x : Int} : x ∈ adjN l i ↔ ∃ k, k < i ∧ x = key (G l k) (G l (k + 1)) := by
  simp [adjN, eq_comm]
theorem mem_adjK {l : List Int} {x : Int} : x ∈ adjK l ↔ ∃ k, k + 1 < l.length ∧ x = key (G l k) (G l (k + 1)) := by
  unfold adjK
  rw [mem_adjN]
  constructor <;> rintro ⟨k, h1, h2⟩ <;> exact ⟨k, by omega, h2⟩
theorem adj_small {w h : Int} {b T : List Int} {a to : Int} (ha : isN w h a) : ∀ x ∈ adjK (walk w h b T a to), (0 ≤ x / 1024 ∧ x / 1024 < 64) ∧ 0 ≤ x % 1024 ∧ x % 1024 < 64 := fun x hx => by
  obtain ⟨k, h1, rfl⟩ := mem_adjK.1 hx
  have q1 := walk_chan (b := b) (T := T) ha (to := to) (G (walk w h b T a to) k) (by rw [G_get (by omega)]; exact List.getElem_mem _)
  have q2 := walk_chan (b := b) (T := T) ha (to := to) (G (walk w h b T a to) (k + 1)) (by rw [G_get h1]; exact List.getElem_mem _)
  unfold key
  omega
theorem depsOf_small {w h : Int} {b T : List Int} : ∀ x ∈ depsOf w h b T, (0 ≤ x / 1024 ∧ x / 1024 < 64) ∧ 0 ≤ x % 1024 ∧ x % 1024 < 64 := fun x hx => by
  unfold depsOf at hx
  split at hx
  · rw [mem_arrK] at hx
    obtain ⟨p, hp, hx⟩ := List.mem_flatMap.1 hx
    exact adj_small (isN_nat (mem_allPairs (a := p.1) (c := p.2).1 hp).1) x hx
  · simp at hx
theorem depsOf_asc {w h : Int} {b T : List Int} : (depsOf w h b T).Pairwise (· < ·) := by
  unfold depsOf; split
  · exact arrK_asc _
  · exact List.Pairwise.nil
theorem depsOf_ok {w h : Int} {b T : List Int} : dOk (depsOf w h b T) := dOk_of depsOf_asc fun x hx => by have := depsOf_small x hx; omega
theorem depsOf_len (w h : Int) (b T : List Int) : (depsOf w h b T).length ≤ 65536 := by
  unfold depsOf; split
  · have h1 := arrK_len (walkAdj w h b T (allPairs (cnt w h).toNat (cnt w h).toNat))
    have h2 := walkAdj_len w h b T (allPairs (cnt w h).toNat (cnt w h).toNat)
    have h3 := allPairs_len (cnt w h).toNat (cnt w h).toNat
    have h4 : (cnt w h).toNat * (cnt w h).toNat ≤ 16 * 16 := Nat.mul_le_mul (by have := cnt_range w h; omega) (by have := cnt_range w h; omega)
    omega
  · simp
theorem sqp {w h : Int} {i : Nat} (hi : i < (cnt w h).toNat * (cnt w h).toNat) : i / (cnt w h).toNat < (cnt w h).toNat ∧ i % (cnt w h).toNat < (cnt w h).toNat := by
  have h0 : 0 < (cnt w h).toNat := by
    rcases Nat.eq_zero_or_pos (cnt w h).toNat with q | q
    · rw [q] at hi; simp at hi
    · exact q
  exact ⟨Nat.div_lt_of_lt_mul hi, Nat.mod_lt _ h0⟩
def sqAdj (w h : Int) (b T : List Int) (i : Nat) : List Int := (List.range i).flatMap fun i => adjK (walk w h b T (i / (cnt w h).toNat : Nat) (i % (cnt w h).toNat : Nat))
theorem sqAdj_succ (w h : Int) (b T : List Int) (i : Nat) : sqAdj w h b T (i + 1) = sqAdj w h b T i ++ adjK (walk w h b T (i / (cnt w h).toNat : Nat) (i % (cnt w h).toNat : Nat)) := by simp [sqAdj, List.range_succ]
theorem sqAdj_len (w h : Int) (b T : List Int) : ∀ i, (sqAdj w h b T i).length ≤ 256 * i
  | 0 => by simp [sqAdj]
  | i + 1 => by
    rw [sqAdj_succ, List.length_append]
    have := sqAdj_len w h b T i
    have h1 := walk_lenE w h b T (i / (cnt w h).toNat : Nat) (i % (cnt w h).toNat : Nat)
    have h2 : (adjK (walk w h b T (i / (cnt w h).toNat : Nat) (i % (cnt w h).toNat : Nat))).length = (walk w h b T (i / (cnt w h).toNat : Nat) (i % (cnt w h).toNat : Nat)).length - 1 := adjN_len _ _
    omega
theorem walk_selfK {w h : Int} {b T : List Int} (k : tableOk w h b T) {a : Nat} (ha : a < (cnt w h).toNat) : walk w h b T a a = [] := by
  have h4 := (k.2 a ha a ha).1 rfl
  unfold walk
  cases (cnt w h).toNat <;> simp [walkN, h4]
theorem sqAdj_eq {w h : Int} {b T : List Int} (k : tableOk w h b T) : arrK (sqAdj w h b T ((cnt w h).toNat * (cnt w h).toNat)) = depsOf w h b T := by
  rw [depsOf, if_pos k]
  refine arrK_congr fun x => ?_
  unfold sqAdj walkAdj
  rw [List.mem_flatMap, List.mem_flatMap]
  constructor
  · rintro ⟨i, hi, hx⟩
    have hi := List.mem_range.1 hi
    obtain ⟨q1, q2⟩ := sqp hi
    refine ⟨(i / (cnt w h).toNat, i % (cnt w h).toNat), mem_allPairs.2 ⟨q1, q2, fun e => ?_⟩, hx⟩
    rw [← e, walk_selfK k q1] at hx
    simp [adjK, adjN] at hx
  · rintro ⟨p, hp, hx⟩
    obtain ⟨q1, q2, q3⟩ := (mem_allPairs (a := p.1) (c := p.2)).1 hp
    have e1 : (p.1 * (cnt w h).toNat + p.2) / (cnt w h).toNat = p.1 := by rw [Nat.mul_comm, Nat.mul_add_div (by omega), Nat.div_eq_of_lt q2, Nat.add_zero]
    have e2 : (p.1 * (cnt w h).toNat + p.2) % (cnt w h).toNat = p.2 := by rw [Nat.mul_comm, Nat.mul_add_mod, Nat.mod_eq_of_lt q2]
    refine ⟨p.1 * (cnt w h).toNat + p.2, List.mem_range.2 ?_, by rw [e1, e2]; exact hx⟩
    have : (p.1 + 1) * (cnt w h).toNat ≤ (cnt w h).toNat * (cnt w h).toNat := Nat.mul_le_mul_right _ q1
    rw [Nat.succ_mul] at this
    omega
theorem arrK_snoc (l : List Int) (k : Int) : arrK (l ++ [k]) = insK k (arrK l) := by unfold arrK; rw [List.foldl_append]; rfl
end Go.Proofs.YtlbbalmeaedbdaaGreat.V
/-! Orders: the channels in turn, each behind those that lead to it. -/
set_option linter.all false
namespace Go.Proofs.YtlbbalmeaedbdaaGreat.V
open Go Go.VM Go.Proofs
set_option maxRecDepth 10000
/-- a channel without a rank to which no channel without a rank leads -/
def ordFree (ds : List (Nat × Nat)) (ranks : List Int) (c : Nat) : Prop := ranks.getD c 0 < 0 ∧ ∀ d ∈ ds, d.2 = c → ¬ ranks.getD d.1 0 < 0
instance (ds : List (Nat × Nat)) (ranks : List Int) (c : Nat) : Decidable (ordFree ds ranks c) := inferInstanceAs (Decidable (_ ∧ _))
def ordNext (ds : List (Nat × Nat)) (ranks : List Int) : Option Nat := (List.range 128).find? fun c => decide (ordFree ds ranks c)
/-- the ranks after some rounds, if there was a free channel in every round -/
def ordRun (ds : List (Nat × Nat)) : Nat → Option (List Int)
  | 0 => some (List.replicate 128 (-1))
  | r + 1 => match ordRun ds r with
    | some ranks => match ordNext ds ranks with
      | some c => some (ranks.set c (r : Int))
      | none => none
    | none => none
def orderOk (ds : List (Nat × Nat)) : Prop := ordRun ds 128 ≠ none
instance (ds : List (Nat × Nat)) : Decidable (orderOk ds) := inferInstanceAs (Decidable (_ ≠ _))
def negs (ranks : List Int) : Nat := (ranks.filter fun x => decide (x < 0)).length
theorem negs_set : ∀ (ranks : List Int) (c : Nat) (x : Int), c < ranks.length → ranks.getD c 0 < 0 → 0 ≤ x → negs (ranks.set c x) + 1 = negs ranks
  | [], c, x, h, _, _ => by simp at h
  | a :: l, 0, x, _, h1, h2 => by
    have h1 : a < 0 := h1
    unfold negs
    rw [List.set_cons_zero, List.filter_cons_of_neg (by simp; omega), List.filter_cons_of_pos (by simp; omega)]
    rfl
  | a :: l, c + 1, x, h, h1, h2 => by
    have ih := negs_set l c x (by simpa using h) h1 h2
    unfold negs at ih ⊢
    rw [List.set_cons_succ, List.filter_cons, List.filter_cons]
    split
    · simp only [List.length_cons]; omega
    · omega
theorem negs_pos {ranks : List Int} (h : 0 < negs ranks) : ∃ c, c < ranks.length ∧ ranks.getD c 0 < 0 := by
  unfold negs at h
  obtain ⟨x, hx⟩ := List.exists_mem_of_length_pos h
  obtain ⟨h1, h2⟩ := List.mem_filter.1 hx
  obtain ⟨c, hc, rfl⟩ := List.mem_iff_getElem.1 h1
  exact ⟨c, hc, by simpa [List.getD_eq_getElem?_getD, hc] using h2⟩
/-- among the channels without a rank one is lowest -/
theorem lowest (φ : Nat → Int) (P : Nat → Prop) : ∀ n, (∃ c, c < n ∧ P c) → ∃ c, c < n ∧ P c ∧ ∀ c', c' < n → P c' → φ c ≤ φ c'
  | 0, ⟨c, h, _⟩ => by omega
  | n + 1, ⟨c, h, hp⟩ => by
    by_cases e : ∃ c, c < n ∧ P c
    · obtain ⟨m, m1, m2, m3⟩ := lowest φ P n e
      by_cases q : P n ∧ φ n < φ m
      · refine ⟨n, by omega, q.1, fun c' h1 h2 => ?_⟩
        by_cases ec : c' = n
        · subst ec; omega
        · have := m3 c' (by omega) h2; omega
      · refine ⟨m, by omega, m2, fun c' h1 h2 => ?_⟩
        by_cases ec : c' = n
        · subst ec
          rcases Int.lt_or_le (φ c') (φ m) with k | k
          · exact absurd ⟨h2, k⟩ q
          · exact k
        · exact m3 c' (by omega) h2
    · have ec : c = n := by
        rcases Nat.lt_or_ge c n with k | k
        · exact absurd ⟨c, k, hp⟩ e
        · omega
      subst ec
      refine ⟨c, h, hp, fun c' h1 h2 => ?_⟩
      have : c' = c := by
        rcases Nat.lt_or_ge c' c with k | k
        · exact absurd ⟨c', k, h2⟩ e
        · omega
      subst this; omega
theorem ordRun_ok {ds : List (Nat × Nat)} (hd : ∀ d ∈ ds, d.1 < 128) (φ : Nat → Int) (hφ : ∀ d ∈ ds, φ d.1 < φ d.2) : ∀ r, r ≤ 128 → ∃ ranks, ordRun ds r = some ranks ∧ ranks.length = 128 ∧ negs ranks = 128 - r
  | 0, _ => ⟨_, rfl, by simp, by
    unfold negs
    rw [List.filter_eq_self.2]
    · simp
    · intro x hx
      rw [List.eq_of_mem_replicate hx]; decide⟩
  | r + 1, hr => by
    obtain ⟨ranks, h1, h2, h3⟩ := ordRun_ok hd φ hφ r (by omega)
    obtain ⟨c0, k1, k2⟩ := negs_pos (ranks := ranks) (by omega)
    obtain ⟨c, m1, m2, m3⟩ := lowest φ (fun c => ranks.getD c 0 < 0) 128 ⟨c0, by omega, k2⟩
    have hf : ordFree ds ranks c := ⟨m2, fun d hdm e k => by
      have := m3 d.1 (hd d hdm) k
      have := hφ d hdm
      rw [e] at this; omega⟩
    have hn : ordNext ds ranks ≠ none := fun e => by
      have := List.find?_eq_none.1 e c (List.mem_range.2 m1)
      simp [hf] at this
    obtain ⟨c', hc'⟩ : ∃ c', ordNext ds ranks = some c' := Option.ne_none_iff_exists'.1 hn
    have hf' : ordFree ds ranks c' := by simpa using List.find?_some hc'
    have hl' : c' < 128 := List.mem_range.1 (List.mem_of_find?_eq_some hc')
    refine ⟨ranks.set c' (r : Int), ?_, by rw [List.length_set]; exact h2, ?_⟩
    · unfold ordRun; rw [h1]; simp only; rw [hc']
    · have := negs_set ranks c' (r : Int) (by omega) hf'.1 (by omega)
      omega
/-- where ranks grow there is an order -/
theorem order_of {ds : List (Nat × Nat)} (hd : ∀ d ∈ ds, d.1 < 128) (φ : Nat → Int) (hφ : ∀ d ∈ ds, φ d.1 < φ d.2) : orderOk ds := by
  obtain ⟨ranks, h, _⟩ := ordRun_ok hd φ hφ 128 (Nat.le_refl _)
  unfold orderOk; rw [h]; simp
end Go.Proofs.YtlbbalmeaedbdaaGreat.V
/-! Branching channels: the functions with closures. -/
set_option linter.all false
namespace Go.Proofs.YtlbbalmeaedbdaaGreat.V
open Go Go.VM Go.Proofs
set_option maxRecDepth 10000
variable {frz : Nat} {H : Heap}
/-- the first place where a test holds, or -1 -/
def placeP (p : Int → Bool) (b : List Int) : Int := if b.any p then b.findIdx p else -1
theorem placeP_range (p : Int → Bool) (b : List Int) : -1 ≤ placeP p b ∧ placeP p b < b.length ∧ (0 ≤ placeP p b ↔ b.any p = true) := by
  unfold placeP
  split
  · rename_i h
    obtain ⟨x, hx, hp⟩ := List.any_eq_true.1 h
    have := List.findIdx_lt_length_of_exists ⟨x, hx, hp⟩
    refine ⟨by omega, by omega, ?_⟩
    simp only [h, iff_true]; omega
  · rename_i h
    refine ⟨by omega, by omega, ?_⟩
    simp only [h]; simp
theorem placeP_at {p : Int → Bool} {b : List Int} {i : Nat} (h : i < b.length) (h1 : ∀ x ∈ b.take i, p x = false) (h2 : p b[i] = true) : placeP p b = i := by
  unfold placeP
  rw [if_pos (List.any_eq_true.2 ⟨b[i], List.getElem_mem h, h2⟩)]
  congr 1
  rw [List.findIdx_eq h]
  refine ⟨h2, fun j hj => ?_⟩
  refine Bool.eq_false_iff.1 ?_ |> fun hh => by simpa using hh
  exact h1 _ (by rw [List.mem_take_iff_getElem]; exact ⟨j, by omega, rfl⟩)
theorem indexFunc_c (v f : Value) (p : Int → Bool) (b : List Int) (hI : IsI H v b) (hl : b.length ≤ 1073741824)
    (hf : ∀ x ∈ b, vclos (vcall C H.length) f [.int .i64 x] H = some (.bool (p x), H)) :
   vcall C frz 101 [v, f] H = some (.int .i64 (placeP p b), H) := by
  rw [vcall_go (fn := Tryz.f101) Tryz.func101 rfl (by kernel_rfl) rfl]
  simp [hI.len]
  refine go_inv (fun n t H' => ∃ i : Nat, n = b.length - i ∧ i ≤ b.length ∧ t 0 = v ∧ t 1 = f ∧ t 6 = v ∧ t 7 = .int .i64 b.length ∧ t 8 = .int .i64 i ∧ H' = H ∧ ∀ x ∈ b.take i, p x = false) ?_ (n := b.length) ⟨0, by simp⟩
  rintro n t H' ⟨i, rfl, hi, h0, h1, h2, h3, h4, rfl, hj⟩ ih
  simp [h0, h1, h2, h3, h4, hI.len]
  refine br_dec _ ?_ ?_ <;> intro h5
  · simp [h0, h1, h2, h3, h4, h5, hI.idx, hI.load, getD_get, hf]
    refine br_eq _ ?_ ?_ <;> intro h6 <;> simp [h0, h1, h2, h3, h4, h6]
    · rw [placeP_at h5 hj h6]
    · refine ih (b.length - (i + 1)) _ _ ⟨i + 1, rfl, by omega, by simp [h0], by simp [h1], by simp [h2], by simp [h3], ?_, rfl, ?_⟩ (by omega)
      · simp; rw [w64 (by omega) (by omega)]
      · rw [List.take_succ_eq_append_getElem h5]
        intro x hx
        rcases List.mem_append.1 hx with hx | hx
        · exact hj x hx
        · rw [List.mem_singleton.1 hx]; exact h6
  · have : i = b.length := by omega
    subst this
    simp [h0, h1, h2, h3]
    rw [List.take_length] at hj
    rw [placeP, if_neg]
    rw [List.any_eq_true]
    rintro ⟨x, hx, hp⟩
    rw [hj x hx] at hp; cases hp
end Go.Proofs.YtlbbalmeaedbdaaGreat.V
/-! Orders of dependencies. -/
set_option linter.all false
namespace Go.Proofs.YtlbbalmeaedbdaaGreat.V
open Go Go.VM Go.Proofs
set_option maxRecDepth 10000
variable {frz : Nat} {H : Heap} {v : Value} {xs ys : List Int} {e : TypeId}
theorem ints_ix {z : Value} {ws : List Int} (hz : IsI H z ws) {k : Nat} (hk : k < ws.length) : vindexAddr Tryz.prog H 26 z (.int .i64 k) = some (elp z k) ∧ vload Tryz.prog H 3 (elp z k) = some (.int .i64 (G ws k)) := by
  refine ⟨?_, hz.load (by simp) hk⟩
  have := hz.idx (P := Tryz.prog) (ty := 26) (e := 3) (by simp) (i := (k : Int)) (by omega) (by omega)
  simpa using this
theorem clone_c (v : Value) (l : List Int) (hI : IsI H v l) (hne : 0 < l.length) (hl : l.length ≤ 1073741824) : vcall C frz 84 [v] H = some (.slice (some ⟨H.length, 0, some 0⟩) l.length 0, H ++ [⟨l.map (.int .i64), 0, 3⟩]) := by
  rw [vcall_go (fn := Tryz.f84) Tryz.func84 rfl (by kernel_rfl) rfl]
  have hsrc := (hI.app [⟨[], 0, 3⟩]).src
  rcases hI with ⟨rfl, rfl⟩ | ⟨id, off, r, rfl, h2, h3⟩
  · simp at hne
  have h0 : ¬ l.length = 0 := by omega
  simp [hsrc, h0, hl, vnilq, VM.look, h2]
  done
end Go.Proofs.YtlbbalmeaedbdaaGreat.V
/-! Orders of dependencies: what the program finds. -/
set_option linter.all false
namespace Go.Proofs.YtlbbalmeaedbdaaGreat.V
open Go Go.VM Go.Proofs
set_option maxRecDepth 10000
variable {frz : Nat} {H : Heap} {v : Value} {xs ys : List Int} {e : TypeId}
/-- the channels of a key -/
def prs (xs : List Int) : List (Nat × Nat) := xs.map fun k => ((k / 1024).toNat, (k % 1024).toNat)
theorem G_set {l : List Int} {i : Nat} (x : Int) (h : i < l.length) (c : Nat) : G (l.set i x) c = if c = i then x else G l c := by
  unfold G
  rw [List.getD_eq_getElem?_getD, List.getD_eq_getElem?_getD, List.getElem?_set]
  by_cases e : i = c
  · subst e; simp [h]
  · rw [if_neg e, if_neg (Ne.symm e)]
theorem prs_free (rk : List Int) (c : Nat) : ordFree (prs xs) rk c ↔ G rk c < 0 ∧ ∀ j, j < xs.length → (G xs j % 1024).toNat = c → ¬ G rk (G xs j / 1024).toNat < 0 := by
  unfold ordFree prs
  refine and_congr Iff.rfl ⟨fun h j hj e => ?_, fun h d hd e => ?_⟩
  · rw [G_get hj] at e ⊢
    exact h _ (List.mem_map_of_mem (List.getElem_mem hj)) e
  · obtain ⟨k, hk, rfl⟩ := List.mem_map.1 hd
    obtain ⟨j, hj, rfl⟩ := List.mem_iff_getElem.1 hk
    have := h j hj
    rw [G_get hj] at this
    exact this e
theorem ordRun_len {ds : List (Nat × Nat)} : ∀ {r : Nat} {rk : List Int}, ordRun ds r = some rk → rk.length = 128
  | 0, rk, h => by cases h; simp
  | r + 1, rk, h => by
    unfold ordRun at h
    split at h
    · rename_i rk0 h0
      split at h
      · cases h; rw [List.length_set]; exact ordRun_len h0
      · cases h
    · cases h
theorem ordRun_none {ds : List (Nat × Nat)} {r : Nat} (h : ordRun ds r = none) : ∀ k, ordRun ds (r + k) = none
  | 0 => h
  | k + 1 => by
    show ordRun ds ((r + k) + 1) = none
    unfold ordRun
    rw [ordRun_none h k]
theorem ordRun_no {ds : List (Nat × Nat)} {r : Nat} {rk : List Int} (hr : r < 128) (h : ordRun ds r = some rk) (hn : ordNext ds rk = none) : ¬ orderOk ds := fun k => by
  have h1 : ordRun ds (r + 1) = none := by
    unfold ordRun; rw [h]; simp only [hn]
  have := ordRun_none h1 (128 - (r + 1))
  rw [show r + 1 + (128 - (r + 1)) = 128 by omega] at this
  exact k this
theorem ordRun_go {ds : List (Nat × Nat)} {r c : Nat} {rk : List Int} (h : ordRun ds r = some rk) (hn : ordNext ds rk = some c) : ordRun ds (r + 1) = some (rk.set c (r : Int)) := by
  unfold ordRun; rw [h]; simp only [hn]
theorem ordNext_at {ds : List (Nat × Nat)} {rk : List Int} {c : Nat} (hc : c < 128) (h : ordFree ds rk c) (hl : ∀ k, k < c → ¬ ordFree ds rk k) : ordNext ds rk = some c := by
  unfold ordNext
  rw [List.find?_eq_some_iff_getElem]
  refine ⟨by simpa using h, c, by simpa using hc, by simp, fun j hj => ?_⟩
  simpa using hl j hj
theorem ordNext_no {ds : List (Nat × Nat)} {rk : List Int} (hl : ∀ k, k < 128 → ¬ ordFree ds rk k) : ordNext ds rk = none := by
  unfold ordNext
  rw [List.find?_eq_none]
  intro k hk
  simpa using hl k (List.mem_range.1 hk)
theorem place_next {fr rk : List Int} (fl : fr.length = 128) (hf : ∀ c, G fr c = -2 ↔ ordFree (prs xs) rk c) :
    (∃ c : Nat, c < 128 ∧ placeP (fun x => decide (x = -2)) fr = c ∧ ordNext (prs xs) rk = some c) ∨ (placeP (fun x => decide (x = -2)) fr = -1 ∧ ordNext (prs xs) rk = none) := by
  cases hn : ordNext (prs xs) rk with
  | none =>
    refine .inr ⟨?_, rfl⟩
    unfold placeP
    rw [if_neg]
    rw [List.any_eq_true]
    rintro ⟨x, hx, hp⟩
    obtain ⟨c, hc, rfl⟩ := List.mem_iff_getElem.1 hx
    have h1 : G fr c = -2 := by rw [G_get hc]; simpa using hp
    have := List.find?_eq_none.1 hn c (List.mem_range.2 (by omega))
    exact this (by simpa using (hf c).1 h1)
  | some c =>
    unfold ordNext at hn
    rw [List.find?_eq_some_iff_getElem] at hn
    obtain ⟨h1, i, hi, h2, h3⟩ := hn
    simp at hi h2 h1
    subst h2
    refine .inl ⟨i, hi, placeP_at (by omega) (fun x hx => ?_) ?_, rfl⟩
    · rw [List.mem_take_iff_getElem] at hx
      obtain ⟨j, hj, rfl⟩ := hx
      have := h3 j (by omega)
      simp at this
      have q : ¬ G fr j = -2 := fun h => this ((hf j).1 h)
      rw [G_get (by omega)] at q
      simpa using q
    · have := (hf i).2 h1
      rw [G_get (by omega)] at this
      simpa using this
/-- what an order's search returns -/
def OrdRes (H : Heap) (xs : List Int) (r : Value) (H' : Heap) : Prop :=
  ∃ z ranks, r = .tuple #[z, .bool (decide (dOk xs ∧ orderOk (prs xs)))] ∧ Rd Fl.int H' z ranks ∧ Chg H H' [] ∧ ∀ i ∈ ids z, H.length ≤ i
theorem chg_app_of {A B : Heap} {is : List Nat} (h : Chg A B is) (L : Heap) : Chg A (B ++ L) is := h.trans (Chg.app _)
theorem next1_c (x : Int) : vcall C frz 102 [.int .i64 x] H = some (.bool (decide (x = -2)), H) := by
  rw [vcall_go (fn := Tryz.f102) Tryz.func102 rfl (by kernel_rfl) rfl]
  simp
theorem nextRanked_c (u : Value) (fr : List Int) (hI : IsI H u fr) (hl : fr.length ≤ 1073741824) : vcall C frz 85 [v, u] H = some (.int .i64 (placeP (fun x => decide (x = -2)) fr), H) := by
  rw [vcall_go (fn := Tryz.f85) Tryz.func85 rfl (by kernel_rfl) rfl]
  have hf : ∀ F, ∀ x ∈ fr, vclos (vcall C F) (.func (.func 102) #[] #[]) [.int .i64 x] H = some (.bool (decide (x = -2)), H) := fun F x hx => by
    simp [vclos, next1_c]
  have := fun F => indexFunc_c (frz := F) u (.func (.func 102) #[] #[]) (fun x => decide (x = -2)) fr hI hl (hf _)
  simp [this]
  done
theorem orderOf_w (v : Value) (xs : List Int) (h : OwE e H v xs) (hl : xs.length ≤ 1073741824) : wp (vcall C frz 63 [v] H) (OrdRes H xs) := by
  rw [vcall_go (fn := Tryz.f63) Tryz.func63 rfl (by kernel_rfl) rfl]
  simp [dependsOk_c v xs h hl]
  refine wp_dec ?_ ?_ <;> intro hd
  · obtain ⟨R, hR⟩ : ∃ R : List Value, R = List.replicate 128 (.int .i64 (-1)) := ⟨_, rfl⟩
    have rc := fun F => repeat_c (frz := F) (H := H ++ [⟨[.int .i64 (-1)], 0, 3⟩]) H.length (-1) 128 (by simp) (by decide) (by decide)
    rw [← hR] at rc
    simp at rc
    simp [rc]
    obtain ⟨K, hK⟩ : ∃ K, K = H ++ [⟨[.int .i64 (-1)], 0, 3⟩, ⟨R, 0, 3⟩] := ⟨_, rfl⟩
    obtain ⟨s, hs⟩ : ∃ s : Value, s = .slice (some ⟨H.length + 1, 0, some 0⟩) 128 0 := ⟨_, rfl⟩
    have hcell : R = cellsOf Fl.int (List.replicate 128 (-1)) := by rw [hR, cellsOf_int, List.map_replicate]
    have o0 : Ow Fl.int 3 K s (List.replicate 128 (-1)) := by
      rw [hK, hs]; exact Ow.new (k := 1) rfl hcell (by rw [hR]; simp [ones, VM.one]) (by simp)
    have cK : Chg H K [] := by rw [hK]; exact Chg.app _
    have hids : ids s = [H.length + 1] := by rw [hs]; rfl
    rw [← hK, ← hs]
    clear hK rc hcell
    refine wp_inv (fun n t H' => ∃ (r : Nat) (rk : List Int), n = 128 - r ∧ r ≤ 128 ∧ t 0 = v ∧ t 4 = s ∧ t 17 = .int .i64 r ∧ ordRun (prs xs) r = some rk ∧ Ow Fl.int 3 H' s rk ∧ Chg H H' []) ?_ (n := 128)
      ⟨0, _, rfl, by omega, by simp, by simp, by simp, rfl, o0, cK⟩
    rintro n t H' ⟨r, rk, rfl, hr, t0, t4, t17, hrk, o, ch⟩ ih
    have hlen := ordRun_len hrk
    simp [t0, t4, t17]
    refine wp_dec ?_ ?_ <;> intro hlt
    · have cl := fun F => clone_c (frz := F) s rk o.rd.isI (by omega) (by omega)
      have rl := o.rd.len (P := Tryz.prog) (ty := 26) (by simp)
      rw [hlen] at cl rl
      have rlL := fun L => (o.app (L := L)).rd.len (P := Tryz.prog) (ty := 26) (by simp)
      rw [hlen] at rlL
      simp [t0, t4, t17, cl, rlL]
      obtain ⟨u, hu⟩ : ∃ u : Value, u = .slice (some ⟨H'.length, 0, some 0⟩) 128 0 := ⟨_, rfl⟩
      obtain ⟨K1, hK1⟩ : ∃ K1, K1 = H' ++ [⟨rk.map (.int .i64), 0, 3⟩] := ⟨_, rfl⟩
      have ou : Ow Fl.int 3 K1 u rk := by rw [hK1, hu, ← hlen]; exact Ow.new0 rfl (cellsOf_int rk).symm (by simp) rfl
      have c1 : Chg H' K1 [] := by rw [hK1]; exact Chg.app _
      have hiu : ids u = [H'.length] := by rw [hu]; rfl
      have hsl : H.length + 1 < H'.length := o.lt _ (by rw [hids]; simp)
      rw [← hK1, ← hu]
      clear hK1
      have o1 := o.chg c1 (by simp)
      refine wp_inv (fun m t H2 => ∃ (i : Nat) (fr : List Int), m = 128 - i ∧ i ≤ 128 ∧ t 0 = v ∧ t 4 = s ∧ t 5 = .int .i64 r ∧ t 6 = u ∧ t 17 = .int .i64 r ∧ t 22 = s ∧ t 23 = .int .i64 128 ∧ t 24 = .int .i64 i ∧ Ow Fl.int 3 H2 u fr ∧ fr.length = 128 ∧ Chg K1 H2 [H'.length] ∧
          ∀ c, G fr c = if c < i ∧ G rk c < 0 then -2 else G rk c) ?_ (n := 128)
        ⟨0, rk, rfl, by omega, by simp [t0], by simp [t4], by simp, by simp, by simp [t17], by simp, by simp, by simp, ou, hlen, Chg.refl _, fun c => by simp⟩
      rintro m t H2 ⟨i, fr, rfl, hi, t0, t4, t5, t6, t17, t22, t23, t24, o2, fl, ch2, hf⟩ ih1
      simp [t0, t4, t5, t6, t17, t22, t23, t24]
      refine wp_dec ?_ ?_ <;> intro hlt1
      · have os := o1.chg ch2 (by rw [hids]; simp; omega)
        have p1 := ints_ix os.rd.isI (k := i) (by omega)
        have p2 := ints_ix o2.rd.isI (k := i) (by omega)
        have w1 : ∀ [Inhabited Unit], IntKind.i64.wrap ((i : Int) + 1) = ((i + 1 : Nat) : Int) := by intro _; rw [w64 (by omega) (by omega)]; omega
        simp [t0, t4, t5, t6, t17, t22, t23, t24, p1]
        refine wp_dec ?_ ?_ <;> intro hneg
        · obtain ⟨H3, st, o3, c3, l3⟩ := o2.put1 (P := Tryz.prog) (frz := H.length) (et := 3) (ag := false) rfl (by simp) (j := i) (by omega) (x := .int .i64 (-2)) (y := -2) rfl rfl rfl (by rw [hiu]; simp; omega)
          simp [t0, t4, t5, t6, t17, t22, t23, t24, p2, st, w1]
          refine ih1 (128 - (i + 1)) _ _ ⟨i + 1, _, rfl, by omega, by simp [t0], by simp [t4], by simp [t5], by simp [t6], by simp [t17], by simp [t22], by simp [t23], by simp, o3, by simpa using fl, ch2.trans (hiu ▸ c3), fun c => ?_⟩ (by omega)
          rw [G_set _ (by omega), hf c]
          by_cases hc : c = i
          · subst hc; simp [hneg]
          · rw [if_neg hc]
            by_cases hc2 : c < i
            · simp [hc2, show c < i + 1 by omega]
            · rw [if_neg (fun h => hc2 h.1), if_neg (fun h => by omega)]
        · simp [t0, t4, t5, t6, t17, t22, t23, t24, w1]
          refine ih1 (128 - (i + 1)) _ _ ⟨i + 1, fr, rfl, by omega, by simp [t0], by simp [t4], by simp [t5], by simp [t6], by simp [t17], by simp [t22], by simp [t23], by simp, o2, fl, ch2, fun c => ?_⟩ (by omega)
          rw [hf c]
          by_cases hc : c = i
          · subst hc; rw [if_neg (fun h => by omega), if_neg (fun h => hneg h.2)]
          · by_cases hc2 : c < i
            · simp [hc2, show c < i + 1 by omega]
            · rw [if_neg (fun h => hc2 h.1), if_neg (fun h => by omega)]
      · have hi' : i = 128 := by omega
        subst hi'
        have h2 := h.chg (((ch.trans c1).trans' ch2 (fun i hi => .inr (by simp at hi; omega)))) (by simp)
        simp [t0, t4, t5, t6, t17, h2.rd.len]
        have hsm := fun j (hj : j < xs.length) => (hd j hj).1
        have hbd := fun j => h.2.G j
        refine wp_inv (fun m t H3 => ∃ (i : Nat) (fr : List Int), m = xs.length - i ∧ i ≤ xs.length ∧ t 0 = v ∧ t 4 = s ∧ t 5 = .int .i64 r ∧ t 6 = u ∧ t 17 = .int .i64 r ∧ t 35 = v ∧ t 36 = .int .i64 xs.length ∧ t 37 = .int .i64 i ∧ Ow Fl.int 3 H3 u fr ∧ fr.length = 128 ∧ Chg K1 H3 [H'.length] ∧
            ∀ c, G fr c = -2 ↔ G rk c < 0 ∧ ∀ j, j < i → (G xs j % 1024).toNat = c → ¬ G rk (G xs j / 1024).toNat < 0) ?_ (n := xs.length)
          ⟨0, fr, by simp, by omega, by simp [t0], by simp [t4], by simp [t5], by simp [t6], by simp [t17], by simp, by simp, by simp, o2, fl, ch2, fun c => by
            rw [hf c]
            by_cases hc : c < 128
            · by_cases hg : G rk c < 0
              · simp [hc, hg]
              · simp [hg]; omega
            · have : G rk c = 0 := by unfold G; rw [List.getD_eq_getElem?_getD, List.getElem?_eq_none (by omega)]; rfl
              simp [this]⟩
        clear hf o2 fl ch2 t0 t4 t5 t6 t17 t22 t23 t24 h2
        rintro m t H3 ⟨i, fr, rfl, hi2, t0, t4, t5, t6, t17, t35, t36, t37, o2, fl, ch2, hf⟩ ih2
        have h2 := h.chg (((ch.trans c1).trans' ch2 (fun i hi => .inr (by simp at hi; omega)))) (by simp)
        simp [t0, t4, t5, t6, t17, t35, t36, t37]
        refine wp_dec ?_ ?_ <;> intro hlt2
        · have os := fun L => (o1.chg ch2 (by rw [hids]; simp; omega)).app (L := L)
          have b := hbd i
          have b1 := b.1; have b2 := b.2
          have b3 := hsm i hlt2
          have p1 := rw_ix h2 hlt2
          have p10 := p1 []
          simp only [List.append_nil] at p10
          obtain ⟨f, hfr⟩ : ∃ f : Nat, f = (G xs i / 1024).toNat := ⟨_, rfl⟩
          obtain ⟨g, hto⟩ : ∃ g : Nat, g = (G xs i % 1024).toNat := ⟨_, rfl⟩
          have ef : G xs i / 1024 = (f : Int) := by omega
          have eg : G xs i % 1024 = (g : Int) := by omega
          have p2 := fun L => ints_ix (os L).rd.isI (k := f) (by omega)
          have p3 := fun L => ints_ix (os L).rd.isI (k := g) (by omega)
          have o2L := fun L => o2.app (L := L)
          have p4 := fun L => ints_ix (o2L L).rd.isI (k := g) (by omega)
          have w1 : ∀ [Inhabited Unit], IntKind.i64.wrap ((i : Int) + 1) = ((i + 1 : Nat) : Int) := by intro _; rw [w64 (by omega) (by omega)]; omega
          have yes := fun (t' : Env) (H4 : Heap) (fr' : List Int) (x0 : t' 0 = v) (x4 : t' 4 = s) (x5 : t' 5 = .int .i64 r) (x6 : t' 6 = u) (x17 : t' 17 = .int .i64 r) (x35 : t' 35 = v) (x36 : t' 36 = .int .i64 xs.length) (x37 : t' 37 = .int .i64 (i + 1 : Nat)) (o4 : Ow Fl.int 3 H4 u fr') (fl' : fr'.length = 128) (ch4 : Chg K1 H4 [H'.length])
            (hq : ∀ c, G fr' c = -2 ↔ G rk c < 0 ∧ ∀ j, j < i + 1 → (G xs j % 1024).toNat = c → ¬ G rk (G xs j / 1024).toNat < 0) =>
            ih2 (xs.length - (i + 1)) t' H4 ⟨i + 1, fr', rfl, by omega, x0, x4, x5, x6, x17, x35, x36, x37, o4, fl', ch4, hq⟩ (by omega)
          have stay : ¬ (G rk f < 0 ∧ G rk g < 0) → ∀ c, G fr c = -2 ↔ G rk c < 0 ∧ ∀ j, j < i + 1 → (G xs j % 1024).toNat = c → ¬ G rk (G xs j / 1024).toNat < 0 := fun hn c => by
            rw [hf c]
            refine and_congr_right fun hc => ⟨fun hh j hj e => ?_, fun hh j hj => hh j (by omega)⟩
            by_cases hji : j = i
            · subst hji; rw [← hfr]; intro hneg; refine hn ⟨hneg, ?_⟩; rw [hto, e]; exact hc
            · exact hh j (by omega) e
          have hHl : H.length ≤ H3.length := by have := ch.1; have := c1.1; have := ch2.1; omega
          simp [t0, t4, t5, t6, t17, t35, t36, t37, p10, hHl, ef, eg, p2]
          have cb := fun L => chg_app_of ch2 L
          refine wpg_dec ?_ ?_ <;> intro g1 <;> simp [t0, t4, t5, t6, t17, t35, t36, t37, VM.look, p3, g1]
          · refine wp_dec ?_ ?_ <;> intro g2
            · obtain ⟨H5, st, o5, c5, l5⟩ := (o2L [⟨[.int .i64 (f : Int), .int .i64 (g : Int)], 0, 88⟩]).put1 (P := Tryz.prog) (frz := H.length) (et := 3) (ag := false) rfl (by simp) (j := g) (by omega) (x := .int .i64 (-1)) (y := -1) rfl rfl rfl (by rw [hiu]; simp; omega)
              simp [t0, t4, t5, t6, t17, t35, t36, t37, VM.look, p4, st, w1]
              refine yes _ _ _ ?_ ?_ ?_ ?_ ?_ ?_ ?_ ?_ o5 (by simpa using fl) ((cb _).trans (hiu ▸ c5)) ?_
              any_goals simp [t0, t4, t5, t6, t17, t35, t36]
              intro c
              rw [G_set _ (by omega)]
              by_cases hc : c = g
              · rw [if_pos hc]
                refine ⟨fun hh => by omega, fun hh => ?_⟩
                have := hh.2 i (by omega) (by rw [hc, hto])
                rw [← hfr] at this; omega
              · rw [if_neg hc, hf c]
                refine and_congr_right fun _ => ⟨fun hh j hj e => ?_, fun hh j hj e => ?_⟩
                · by_cases hji : j = i
                  · subst hji; omega
                  · have := hh j (by omega) e; omega
                · have := hh j (by omega) e; omega
            · simp [t0, t4, t5, t6, t17, t35, t36, t37, w1]
              refine yes _ _ _ ?_ ?_ ?_ ?_ ?_ ?_ ?_ ?_ (o2L _) fl (cb _) (stay fun h => g2 h.2) <;> simp [t0, t4, t5, t6, t17, t35, t36]
          · simp [t0, t4, t5, t6, t17, t35, t36, t37, w1]
            refine yes _ _ _ ?_ ?_ ?_ ?_ ?_ ?_ ?_ ?_ (o2L _) fl (cb _) (stay fun h => g1 h.1) <;> simp [t0, t4, t5, t6, t17, t35, t36]
        · have hi' : i = xs.length := by omega
          subst hi'
          simp [t0, t4, t5, t6, t17]
          have pl := place_next fl (fun c => (hf c).trans (prs_free rk c).symm)
          have nx := fun F => nextRanked_c (v := v) (frz := F) u fr o2.rd.isI (by omega)
          rcases pl with ⟨c, hc, e1, e2⟩ | ⟨e1, e2⟩
          · rw [e1] at nx
            have os := o1.chg ch2 (by rw [hids]; simp; omega)
            have p2 := ints_ix os.rd.isI (k := c) (by omega)
            have w1 : ∀ [Inhabited Unit], IntKind.i64.wrap ((r : Int) + 1) = ((r + 1 : Nat) : Int) := by intro _; rw [w64 (by omega) (by omega)]; omega
            have hc0 : ¬ ((c : Int) < 0) := by omega
            obtain ⟨H5, st, o5, c5, l5⟩ := os.put1 (P := Tryz.prog) (frz := H.length) (et := 3) (ag := false) rfl (by simp) (j := c) (by omega) (x := .int .i64 (r : Int)) (y := (r : Int)) rfl rfl rfl (by rw [hids]; simp)
            simp [t0, t4, t5, t6, t17, nx, hc0, p2, st, w1]
            refine ih (128 - (r + 1)) _ _ ⟨r + 1, _, rfl, by omega, by simp [t0], by simp [t4], by simp, ordRun_go hrk e2, o5, ?_⟩ (by omega)
            exact ((ch.trans c1).trans' ch2 (fun i hi => .inr (by simp at hi; omega))).trans' c5 (fun i hi => .inr (by rw [hids] at hi; simp at hi; omega))
          · rw [e1] at nx
            simp [t0, t4, t5, t6, t17, nx]
            refine ⟨.slice none 0 0, [], ?_, .inl ⟨rfl, rfl⟩, (ch.trans c1).trans' ch2 (fun i hi => .inr (by simp at hi; omega)), by simp⟩
            have := ordRun_no (by omega) hrk e2
            simp [this]
    · have hr' : r = 128 := by omega
      subst hr'
      simp [t4]
      refine ⟨s, rk, ?_, o.rd, ch, by rw [hids]; simp⟩
      have : orderOk (prs xs) := by unfold orderOk; rw [hrk]; simp
      simp [this, hd]
  · simp
    exact ⟨.slice none 0 0, [], by simp [hd], .inl ⟨rfl, rfl⟩, Chg.refl _, by simp⟩
end Go.Proofs.YtlbbalmeaedbdaaGreat.V
/-! Verdicts: the dependencies of two classes, and that they are safe where an order exists. -/
set_option linter.all false
namespace Go.Proofs.YtlbbalmeaedbdaaGreat.V
open Go Go.VM Go.Proofs
set_option maxRecDepth 10000
variable {frz : Nat} {H : Heap} {v : Value} {xs ys : List Int} {e : TypeId}
theorem growE (n : Int) (h0 : 0 ≤ n) (h1 : n ≤ 1073741824) :
   wp (vcall C frz 107 [.slice none 0 0, .int .i64 n] H) (MadeE H []) := by
  rw [vcall_go (fn := Tryz.f107) Tryz.func107 rfl (by kernel_rfl) rfl]
  have wr0 : IntKind.i64.wrap 0 = 0 := by decide
  have e : IntKind.i64.wrap n = n := w64 (by omega) (by omega)
  have hn : ¬ n < 0 := by omega
  have hb : Bd [] := fun x hx => by simp at hx
  simp [wr0, e, hn]
  refine wp_dec ?_ ?_ <;> intro h2
  · simp [h2, wr0, e, hn]
    refine wp_need h1 (wp_need (by omega) ?_)
    refine wp_eq rfl ?_
    exact ⟨⟨Ow.new0 rfl rfl rfl rfl, hb⟩, Chg.app _, by simp⟩
  · simp
    exact ⟨⟨.inl ⟨rfl, rfl⟩, hb⟩, Chg.refl _, by simp⟩
theorem concat_e (id : Nat) (x y : Value) (xs ys : List Int) (hr : H[id]? = some ⟨[x, y], 0, 63⟩) (hx : OwE 88 H x xs) (hy : OwE 88 H y ys) (hl : xs.length + ys.length ≤ 1073741824) :
   wp (vcall C frz 91 [.slice (some ⟨id, 0, some 0⟩) 2 0] H) (MadeE H (xs ++ ys)) := by
  rw [vcall_go (fn := Tryz.f91) Tryz.func91 rfl (by kernel_rfl) rfl]
  simp [VM.look, hr]
  have wr0 : IntKind.i64.wrap 0 = 0 := by decide
  have wr1 : IntKind.i64.wrap 1 = 1 := by decide
  have wr2 : IntKind.i64.wrap 2 = 2 := by decide
  have e1 : IntKind.i64.wrap (xs.length : Int) = xs.length := w64 (by omega) (by omega)
  have e2 : IntKind.i64.wrap ((xs.length : Int) + ys.length) = xs.length + ys.length := w64 (by omega) (by omega)
  have n1 : ¬ (xs.length : Int) < 0 := by omega
  have n2 : ¬ (xs.length : Int) + ys.length < 0 := by omega
  rw [go_loop]
  simp [VM.look, hr, hx.rd.len, hy.rd.len, wr0, wr1, wr2, e1, n1]
  rw [go_again, go_loop]
  simp [VM.look, hr, hx.rd.len, hy.rd.len, wr0, wr1, wr2, e1, e2, n1, n2]
  rw [go_again, go_loop]
  simp [VM.look, hr, hx.rd.len, hy.rd.len, wr0, wr1, wr2, e1, e2, n1, n2]
  refine wp_thn (growE _ (by omega) (by omega)) ?_
  rintro z H1 ⟨o1, c1, n1⟩
  have r1 := box_chg hr c1 (by simp)
  simp [VM.look, r1]
  rw [go_loop]
  obtain ⟨x2, H2, ap2, o2, c2, n2⟩ := o1.1.append (P := Tryz.prog) (frz := H.length) (ty := 63) (hx.chg c1 (by simp)).rd (by simp) (ones_dep _) (by simp; omega) n1
  have m2 : ∀ i ∈ ids x2, H.length ≤ i := fun i hi => by
    rcases n2 i hi with q | q
    · exact n1 i q
    · have := c1.1; omega
  have r2 := box_chg r1 c2 (fun hh => by have := n1 _ hh; have := box_lt hr; omega)
  have c12 : Chg H H2 [] := c1.trans' c2 (fun i hi => .inr (n1 i hi))
  have hy2 := (hy.chg c12 (by simp)).rd
  obtain ⟨x3, H3, ap3, o3, c3, n3⟩ := o2.append (P := Tryz.prog) (frz := H.length) (ty := 63) hy2 (by simp) (ones_dep _) (by simp; omega) m2
  have r3 := box_chg r2 c3 (fun hh => by have := m2 _ hh; have := box_lt hr; omega)
  have m3 : ∀ i ∈ ids x3, H.length ≤ i := fun i hi => by
    rcases n3 i hi with q | q
    · exact m2 i q
    · have := c12.1; omega
  simp [VM.look, r1, wr0, wr1, ap2, r2]
  rw [go_again, go_loop]
  simp [VM.look, r2, wr0, wr1, wr2, ap3, r3]
  rw [go_again, go_loop]
  simp [VM.look, r3, wr0, wr1, wr2]
  exact ⟨⟨by simpa using o3, hx.2.app hy.2⟩, c12.trans' c3 (fun i hi => .inr (m2 i hi)), m3⟩
theorem mergeOf_len (xs ys : List Int) : (mergeOf xs ys).length ≤ xs.length + ys.length := by
  unfold mergeOf
  repeat' split
  · have := arrK_len (xs ++ ys); simpa using this
  · simp
  · simp
theorem merge_w (u v : Value) (xs ys : List Int) (hu : OwE 88 H u xs) (hv : OwE 88 H v ys) (lx : xs.length ≤ 1048576) (ly : ys.length ≤ 1048576) : wp (vcall C frz 69 [u, v] H) (MadeE H (mergeOf xs ys)) := by
  rw [vcall_go (fn := Tryz.f69) Tryz.func69 rfl (by kernel_rfl) rfl]
  have d1 := fun F => dependsOk_c (frz := F) u xs hu (by omega)
  have d2 := fun F => dependsOk_c (frz := F) v ys hv (by omega)
  have nl : MadeE H [] (.slice none 0 0) H := ⟨⟨.inl ⟨rfl, rfl⟩, fun x hx => by simp at hx⟩, Chg.refl _, by simp⟩
  have onu := And.intro hu.rd.one' hu.rd.cells
  have onv := And.intro hv.rd.one' hv.rd.cells
  simp [d1]
  refine wpg_dec ?_ ?_ <;> intro g1 <;> simp [g1, d2]
  · refine wp_dec ?_ ?_ <;> intro g2 <;> simp [mergeOf, g1, g2, onu, onv, VM.splice, ones]
    · have c0 : Chg H (H ++ [⟨[u, v], 0, 63⟩]) [] := Chg.app _
      refine wp_thn (concat_e (frz := H.length) H.length u v xs ys (by simp) hu.app hv.app (by omega)) ?_
      rintro x H1 ⟨o1, c1, n1⟩
      have c01 := c0.trans c1
      have l01 := c01.1
      have nx : ∀ i ∈ ids x, H.length ≤ i := fun i hi => by have := n1 i hi; simp at this; omega
      simp
      refine wp_thn (arranged_e x _ o1 (by simp; omega) nx l01) ?_
      rintro y H2 ⟨o2, s2, c2⟩
      simp
      exact ⟨o2, c01.trans' c2 (fun i hi => .inr (nx i hi)), fun i hi => nx i (s2 i hi)⟩
    · exact nl
  · simpa [mergeOf, g1] using nl
noncomputable def classDeps (w h : Int) (b A B : List Int) : List Int := if classesOk w h b A B then mergeOf (depsOf w h b A) (shiftOf 64 (depsOf w h b B)) else []
theorem classDeps_w (w h : Int) (v u1 u2 : Value) (b A B : List Int) (hI : IsI H v b) (h1 : IsI H u1 A) (h2 : IsI H u2 B) (hl : b.length ≤ 1073741824) :
   wp (vcall C frz 41 [.agg #[.int .i64 w, .int .i64 h, v], .agg #[u1, u2]] H) (MadeE H (classDeps w h b A B)) := by
  rw [vcall_go (fn := Tryz.f41) Tryz.func41 rfl (by kernel_rfl) rfl]
  have onv := And.intro hI.one' hI.cells
  have onu := And.intro h1.one' h1.cells
  have onu2 := And.intro h2.one' h2.cells
  obtain ⟨M, hM⟩ : ∃ M : Heap, M = [⟨[.int .i64 w, .int .i64 h, v], 0, 28⟩, ⟨[u1, u2], 0, 43⟩] := ⟨_, rfl⟩
  have ck := fun F => classesOk_c (frz := F) w h v u1 u2 b A B (hI.app M) (h1.app M) (h2.app M) hl
  rw [hM] at ck
  have nl : MadeE H [] (.slice none 0 0) (H ++ M) := ⟨⟨.inl ⟨rfl, rfl⟩, fun x hx => by simp at hx⟩, Chg.app _, by simp⟩
  have g0 : (H ++ M)[H.length]? = some ⟨[.int .i64 w, .int .i64 h, v], 0, 28⟩ := by rw [hM]; simp
  have g1 : (H ++ M)[H.length + 1]? = some ⟨[u1, u2], 0, 43⟩ := by rw [hM]; simp
  have hK := hI.app M
  have h1K := h1.app M
  have h2K := h2.app M
  have cK : Chg H (H ++ M) [] := Chg.app _
  simp [onv, onu, onu2, VM.look, ck]
  rw [← hM]
  clear hM ck
  generalize H ++ M = K at *
  unfold classDeps
  refine wp_dec ?_ ?_ <;> intro g <;> simp [g]
  · rw [go_draw (h := by kernel_rfl)]
    simp [VM.look, g0, g1, onv, onu, onu2]
    refine wp_thn (dependsOf_w w h v u1 b A hK h1K hl (by have := cK.1; omega)) ?_
    rintro d1 H1 ⟨o1, c1, n1⟩
    have b0 := box_chg g0 c1 (by simp)
    have b1 := box_chg g1 c1 (by simp)
    have hK1 := (hK.rd.chg c1 (by simp)).isI
    have h2K1 := (h2K.rd.chg c1 (by simp)).isI
    have cK1 := cK.trans c1
    simp [VM.look, b0, b1, onv, onu, onu2]
    refine wp_thn (dependsOf_w w h v u2 b B hK1 h2K1 hl (by have := cK1.1; omega)) ?_
    rintro d2 H2 ⟨o2, c2, n2⟩
    have b0 := box_chg b0 c2 (by simp)
    have b1 := box_chg b1 c2 (by simp)
    have cK2 := cK1.trans c2
    have l1 := depsOf_len w h b A
    have l2 := depsOf_len w h b B
    simp [VM.look, b0, b1, onv, onu, onu2]
    refine wp_thn (shift_w d2 _ 64 o2 (by omega) (by omega) (by have := cK2.1; omega)) ?_
    rintro d3 H3 ⟨o3, c3, n3⟩
    have l3 := shiftOf_len 64 (depsOf w h b B)
    simp
    refine wp_thn (merge_w d1 d3 _ _ ((o1.chg c2 (by simp)).chg c3 (by simp)) o3 (by omega) (by omega)) ?_
    rintro d4 H4 ⟨o4, c4, n4⟩
    simp
    exact ⟨o4, (cK2.trans c3).trans c4, fun i hi => by have := n4 i hi; have := (cK2.trans c3).1; omega⟩
  · exact nl
/-- a verdict: its code, and that its lists can be read -/
def VdRes (H : Heap) (c : Int) (r : Value) (H' : Heap) : Prop := ∃ z y rk cy, r = .agg #[.int .i64 c, z, y] ∧ Rd Fl.int H' z rk ∧ Rd Fl.int H' y cy ∧ Chg H H' [] ∧ (∀ i ∈ ids z, H.length ≤ i) ∧ (∀ i ∈ ids y, H.length ≤ i)
theorem judged_w (v : Value) (xs : List Int) (h : OwE e H v xs) (hl : xs.length ≤ 1073741824) (hd : dOk xs) (ho : orderOk (prs xs)) :
   wp (vcall C frz 35 [v] H) (VdRes H 1) := by
  rw [vcall_go (fn := Tryz.f35) Tryz.func35 rfl (by kernel_rfl) rfl]
  simp
  refine wp_thn (orderOf_w v xs h.app hl) ?_
  rintro _ H1 ⟨z, rk, rfl, rz, c1, n1⟩
  have e1 : decide (dOk xs ∧ orderOk (prs xs)) = true := by simp [hd, ho]
  have oz := And.intro rz.one' rz.cells
  have b0 : H1[H.length]? = some ⟨[.int .i64 0, .slice none 0 0, .slice none 0 0], 0, 40⟩ := box_chg (by simp) c1 (by simp)
  have ln : ∀ i ∈ ids z, H.length + 1 ≤ i := fun i hi => by have := n1 i hi; simpa using this
  rw [e1]
  simp [oz, VM.look, b0, VM.splice]
  have cs := chg_set (H := H1) H.length ⟨[.int .i64 1, z, .slice none 0 0], 0, 40⟩
  have gs := set_get (r' := ⟨[.int .i64 1, z, .slice none 0 0], 0, 40⟩) b0
  have rz2 := rz.chg cs (fun i hi hh => by simp at hh; have := ln i hi; omega)
  have cc : Chg H (H1.set H.length ⟨[.int .i64 1, z, .slice none 0 0], 0, 40⟩) [] := ((Chg.app _).trans c1).trans' cs (fun i hi => .inr (by simp at hi; omega))
  generalize H1.set H.length ⟨[.int .i64 1, z, .slice none 0 0], 0, 40⟩ = H2 at *
  simp [gs]
  exact ⟨z, _, rk, [], rfl, rz2, .inl ⟨rfl, rfl⟩, cc, fun i hi => by have := ln i hi; omega, by simp⟩
theorem checkTable_w (w h : Int) (v u : Value) (b T : List Int) (hI : IsI H v b) (h1 : IsI H u T) (hl : b.length ≤ 1073741824) (hk : tableOk w h b T) (ho : dOk (depsOf w h b T) ∧ orderOk (prs (depsOf w h b T))) :
   wp (vcall C frz 13 [.agg #[.int .i64 w, .int .i64 h, v], .agg #[u]] H) (VdRes H 1) := by
  rw [vcall_go (fn := Tryz.f13) Tryz.func13 rfl (by kernel_rfl) rfl]
  have onv := And.intro hI.one' hI.cells
  have onu := And.intro h1.one' h1.cells
  obtain ⟨M, hM⟩ : ∃ M : Heap, M = [⟨[.int .i64 w, .int .i64 h, v], 0, 28⟩, ⟨[u], 0, 32⟩, ⟨[.int .i64 0, .slice none 0 0, .slice none 0 0], 0, 40⟩] := ⟨_, rfl⟩
  have ck := fun F => tableOk_c (frz := F) w h v u b T (hI.app M) (h1.app M) hl
  rw [hM] at ck
  have g0 : (H ++ M)[H.length]? = some ⟨[.int .i64 w, .int .i64 h, v], 0, 28⟩ := by rw [hM]; simp
  have g1 : (H ++ M)[H.length + 1]? = some ⟨[u], 0, 32⟩ := by rw [hM]; simp
  have g2 : (H ++ M)[H.length + 2]? = some ⟨[.int .i64 0, .slice none 0 0, .slice none 0 0], 0, 40⟩ := by rw [hM]; simp
  have hK := hI.app M
  have h1K := h1.app M
  have cK : Chg H (H ++ M) [] := Chg.app _
  have lK : (H ++ M).length = H.length + 3 := by rw [hM]; simp
  simp [onv, onu, VM.look, ck, hk]
  rw [← hM]
  clear hM ck
  generalize H ++ M = K at *
  try simp [VM.look, g0, g1, g2, onv, onu]
  refine wp_thn (dependsOf_w w h v u b T hK h1K hl (by omega)) ?_
  rintro d1 H1 ⟨o1, c1, n1⟩
  have b2 := box_chg g2 c1 (by simp)
  simp
  refine wp_thn (judged_w d1 _ o1 (by have := depsOf_len w h b T; omega) ho.1 ho.2) ?_
  rintro _ H2 ⟨z, y, rk, cy, rfl, rz, ry, c2, nz, ny⟩
  have b2 := box_chg b2 c2 (by simp)
  have oz := And.intro rz.one' rz.cells
  have oy := And.intro ry.one' ry.cells
  have l1 := c1.1
  simp [VM.look, b2, oz, oy, VM.splice]
  have cs := chg_set (H := H2) (H.length + 2) ⟨[.int .i64 1, z, y], 0, 40⟩
  have gs := set_get (r' := ⟨[.int .i64 1, z, y], 0, 40⟩) b2
  have rz2 := rz.chg cs (fun i hi hh => by simp at hh; have := nz i hi; omega)
  have ry2 := ry.chg cs (fun i hi hh => by simp at hh; have := ny i hi; omega)
  have cc := ((cK.trans c1).trans c2).trans' cs (fun i hi => .inr (by simp at hi; omega))
  generalize H2.set (H.length + 2) ⟨[.int .i64 1, z, y], 0, 40⟩ = H3 at *
  simp [gs]
  exact ⟨z, y, rk, cy, rfl, rz2, ry2, cc, fun i hi => by have := nz i hi; omega, fun i hi => by have := ny i hi; omega⟩
theorem classDeps_len (w h : Int) (b A B : List Int) : (classDeps w h b A B).length ≤ 131072 := by
  unfold classDeps
  split
  · have h1 := mergeOf_len (depsOf w h b A) (shiftOf 64 (depsOf w h b B))
    have h2 := shiftOf_len 64 (depsOf w h b B)
    have h3 := depsOf_len w h b A
    have h4 := depsOf_len w h b B
    omega
  · simp
theorem checkClasses_w (w h : Int) (v u1 u2 : Value) (b A B : List Int) (hI : IsI H v b) (h1 : IsI H u1 A) (h2 : IsI H u2 B) (hl : b.length ≤ 1073741824) (hk : classesOk w h b A B) (ho : dOk (classDeps w h b A B) ∧ orderOk (prs (classDeps w h b A B))) :
   wp (vcall C frz 18 [.agg #[.int .i64 w, .int .i64 h, v], .agg #[u1, u2]] H) (VdRes H 1) := by
  rw [vcall_go (fn := Tryz.f18) Tryz.func18 rfl (by kernel_rfl) rfl]
  have onv := And.intro hI.one' hI.cells
  have onu := And.intro (And.intro h1.one' h1.cells) (And.intro h2.one' h2.cells)
  obtain ⟨M, hM⟩ : ∃ M : Heap, M = [⟨[.int .i64 w, .int .i64 h, v], 0, 28⟩, ⟨[u1, u2], 0, 43⟩, ⟨[.int .i64 0, .slice none 0 0, .slice none 0 0], 0, 40⟩] := ⟨_, rfl⟩
  have ck := fun F => classesOk_c (frz := F) w h v u1 u2 b A B (hI.app M) (h1.app M) (h2.app M) hl
  rw [hM] at ck
  have g0 : (H ++ M)[H.length]? = some ⟨[.int .i64 w, .int .i64 h, v], 0, 28⟩ := by rw [hM]; simp
  have g1 : (H ++ M)[H.length + 1]? = some ⟨[u1, u2], 0, 43⟩ := by rw [hM]; simp
  have g2 : (H ++ M)[H.length + 2]? = some ⟨[.int .i64 0, .slice none 0 0, .slice none 0 0], 0, 40⟩ := by rw [hM]; simp
  have hK := hI.app M
  have h1K := h1.app M
  have h2K := h2.app M
  have cK : Chg H (H ++ M) [] := Chg.app _
  have lK : (H ++ M).length = H.length + 3 := by rw [hM]; simp
  simp [onv, onu, VM.look, ck, hk]
  rw [← hM]
  clear hM ck
  generalize H ++ M = K at *
  try simp [VM.look, g0, g1, g2, onv, onu]
  refine wp_thn (classDeps_w w h v u1 u2 b A B hK h1K h2K hl) ?_
  rintro d1 H1 ⟨o1, c1, n1⟩
  have b2 := box_chg g2 c1 (by simp)
  simp
  refine wp_thn (judged_w d1 _ o1 (by have := classDeps_len w h b A B; omega) ho.1 ho.2) ?_
  rintro _ H2 ⟨z, y, rk, cy, rfl, rz, ry, c2, nz, ny⟩
  have b2 := box_chg b2 c2 (by simp)
  have oz := And.intro rz.one' rz.cells
  have oy := And.intro ry.one' ry.cells
  have l1 := c1.1
  simp [VM.look, b2, oz, oy, VM.splice]
  have cs := chg_set (H := H2) (H.length + 2) ⟨[.int .i64 1, z, y], 0, 40⟩
  have gs := set_get (r' := ⟨[.int .i64 1, z, y], 0, 40⟩) b2
  have rz2 := rz.chg cs (fun i hi hh => by simp at hh; have := nz i hi; omega)
  have ry2 := ry.chg cs (fun i hi hh => by simp at hh; have := ny i hi; omega)
  have cc := ((cK.trans c1).trans c2).trans' cs (fun i hi => .inr (by simp at hi; omega))
  generalize H2.set (H.length + 2) ⟨[.int .i64 1, z, y], 0, 40⟩ = H3 at *
  simp [gs]
  exact ⟨z, y, rk, cy, rfl, rz2, ry2, cc, fun i hi => by have := nz i hi; omega, fun i hi => by have := ny i hi; omega⟩
end Go.Proofs.YtlbbalmeaedbdaaGreat.V
/-! Walks by a table, step by step. -/
set_option linter.all false
namespace Go.Proofs.YtlbbalmeaedbdaaGreat.V
open Go Go.VM Go.Proofs
set_option maxRecDepth 10000
def itN (g : Int → Int) : Nat → Int → Int
  | 0, a => a
  | n + 1, a => g (itN g n a)
theorem itN_succ (g : Int → Int) : ∀ n a, itN g (n + 1) a = itN g n (g a)
  | 0, a => rfl
  | n + 1, a => by show g (itN g (n + 1) a) = g (itN g n (g a)); rw [itN_succ g n a]
theorem itN_add (g : Int → Int) (m : Nat) : ∀ n a, itN g (n + m) a = itN g n (itN g m a)
  | 0, a => by rw [Nat.zero_add]; rfl
  | n + 1, a => by rw [Nat.add_right_comm]; show g (itN g (n + m) a) = g (itN g n (itN g m a)); rw [itN_add g m n a]
def nuT (w h : Int) (T : List Int) (to a : Int) : Int := next w h a (portOf w h T a to)
theorem walkN_steps (w h : Int) (b T : List Int) (to : Int) : ∀ F a out, walkN w h b T to F a out ≠ [] → ∃ L, itN (nuT w h T to) L a = to ∧ ∀ n, n < L → stepOk w h b T (itN (nuT w h T to) n a) to
  | 0, a, out, hne => by
    unfold walkN at hne
    by_cases e : portOf w h T a to = 4
    · rw [if_pos e] at hne
      by_cases e2 : a = to
      · exact ⟨0, e2, fun n h => by omega⟩
      · rw [if_neg e2] at hne; exact absurd rfl hne
    · rw [if_neg e] at hne; exact absurd rfl hne
  | F + 1, a, out, hne => by
    unfold walkN at hne
    by_cases e : portOf w h T a to = 4
    · rw [if_pos e] at hne
      by_cases e2 : a = to
      · exact ⟨0, e2, fun n h => by omega⟩
      · rw [if_neg e2] at hne; exact absurd rfl hne
    · rw [if_neg e] at hne
      by_cases e2 : stepOk w h b T a to
      · rw [if_pos e2] at hne
        obtain ⟨L, h1, h2⟩ := walkN_steps w h b T to F _ _ hne
        refine ⟨L + 1, by rw [itN_succ]; exact h1, fun n hn => ?_⟩
        cases n with
        | zero => exact e2
        | succ n => rw [itN_succ]; exact h2 n (by omega)
      · rw [if_neg e2] at hne; exact absurd rfl hne
theorem walkN_eq (w h : Int) (b T : List Int) (to : Int) (h4 : portOf w h T to to = 4) : ∀ L F a out, L ≤ F → itN (nuT w h T to) L a = to → (∀ n, n < L → stepOk w h b T (itN (nuT w h T to) n a) to) → (walkN w h b T to F a out).length = out.length + L
  | 0, F, a, out, _, e, _ => by
    have e : a = to := e
    subst e
    cases F with
    | zero => unfold walkN; rw [if_pos h4, if_pos rfl]; rfl
    | succ F => unfold walkN; rw [if_pos h4, if_pos rfl]; rfl
  | L + 1, F, a, out, hF, e, hs => by
    have s0 : stepOk w h b T a to := hs 0 (by omega)
    have hne : ¬ portOf w h T a to = 4 := fun k => by have := s0.1; unfold inR at this; omega
    cases F with
    | zero => omega
    | succ F =>
      unfold walkN
      rw [if_neg hne, if_pos s0]
      rw [walkN_eq w h b T to h4 L F _ _ (by omega) (by have := e; rw [itN_succ] at this; exact this) fun n hn => by have := hs (n + 1) (by omega); rw [itN_succ] at this; exact this]
      simp; omega
theorem walkN_bound (w h : Int) (b T : List Int) (to : Int) : ∀ F a out, walkN w h b T to F a out ≠ [] → ∃ L, L ≤ F ∧ itN (nuT w h T to) L a = to ∧ ∀ n, n < L → stepOk w h b T (itN (nuT w h T to) n a) to
  | 0, a, out, hne => by
    unfold walkN at hne
    by_cases e : portOf w h T a to = 4
    · rw [if_pos e] at hne
      by_cases e2 : a = to
      · exact ⟨0, by omega, e2, fun n h => by omega⟩
      · rw [if_neg e2] at hne; exact absurd rfl hne
    · rw [if_neg e] at hne; exact absurd rfl hne
  | F + 1, a, out, hne => by
    unfold walkN at hne
    by_cases e : portOf w h T a to = 4
    · rw [if_pos e] at hne
      by_cases e2 : a = to
      · exact ⟨0, by omega, e2, fun n h => by omega⟩
      · rw [if_neg e2] at hne; exact absurd rfl hne
    · rw [if_neg e] at hne
      by_cases e2 : stepOk w h b T a to
      · rw [if_pos e2] at hne
        obtain ⟨L, h0, h1, h2⟩ := walkN_bound w h b T to F _ _ hne
        refine ⟨L + 1, by omega, by rw [itN_succ]; exact h1, fun n hn => ?_⟩
        cases n with
        | zero => exact e2
        | succ n => rw [itN_succ]; exact h2 n (by omega)
      · rw [if_neg e2] at hne; exact absurd rfl hne
end Go.Proofs.YtlbbalmeaedbdaaGreat.V
/-! Trees: depths along the ancestors; the way through the tree. -/
set_option linter.all false
namespace Go.Proofs.YtlbbalmeaedbdaaGreat.V
open Go Go.VM
section
variable {w h r : Int} {b : List Int} (H : rootOk w h b r)
include H
theorem par_of {v : Int} (hv : isN w h v) : rd (parents w h b r) v = par w h b (depths w h b r) v := by
  have hl := (depths_inv H).1
  have hv2 := hv.2
  exact parents_rd hv.1 (by omega)
theorem par_not {v : Int} (hv : isN w h v) (h0 : rd (depths w h b r) v ≤ 0) : rd (parents w h b r) v = -1 := by
  rw [par_of H hv]; unfold par; rw [if_neg (by omega)]
theorem par_step {v : Int} (hv : isN w h v) (h0 : 0 < rd (depths w h b r) v) : isN w h (rd (parents w h b r) v) ∧ rd (depths w h b r) (rd (parents w h b r) v) = rd (depths w h b r) v - 1 := by
  rw [par_of H hv]
  obtain ⟨p, hp, h2, h3, h4⟩ := par_some H hv h0
  rw [h2]; exact ⟨(link_next hp h3).2.1, h4⟩
theorem anc_nd {v : Int} (hv : isN w h v) : anc (parents w h b r) v = v :: (if rd (parents w h b r) v = -1 then [] else anc (parents w h b r) (rd (parents w h b r) v)) := by
  have h1 : ((parents w h b r).length : Int) = cnt w h := by rw [parents_length]; exact (depths_inv H).1
  exact anc_cons (parents_tree H) hv.1 (by have := hv.2; omega)
theorem anc_low {v : Int} (hv : isN w h v) (h0 : rd (depths w h b r) v ≤ 0) : anc (parents w h b r) v = [v] := by
  rw [anc_nd H hv, par_not H hv h0, if_pos rfl]
/-- depths along the ancestors -/
theorem anc_depth : ∀ (n : Nat) {v : Int}, isN w h v → rd (depths w h b r) v = n → (anc (parents w h b r) v).length = n + 1 ∧ r ∈ anc (parents w h b r) v ∧ ∀ (k : Nat) (hk : k < (anc (parents w h b r) v).length), isN w h (anc (parents w h b r) v)[k] ∧ rd (depths w h b r) (anc (parents w h b r) v)[k] = n - k := by
  intro n
  induction n with
  | zero =>
    intro v hv h0
    have hroot := (depths_inv2 H).zero.2 v hv (by omega)
    have e := anc_low H hv (by omega)
    rw [e]
    refine ⟨rfl, by simp [hroot], fun k hk => ?_⟩
    simp at hk
    subst hk
    exact ⟨hv, by simpa using h0⟩
  | succ n ih =>
    intro v hv h0
    obtain ⟨h1, h2⟩ := par_step H hv (by omega)
    have e := anc_nd H hv
    rw [if_neg (by have := h1.1; omega)] at e
    obtain ⟨i1, i2, i3⟩ := ih h1 (by omega)
    rw [e]
    refine ⟨by simp [i1], List.mem_cons_of_mem _ i2, fun k hk => ?_⟩
    cases k with
    | zero => exact ⟨hv, by simpa using h0⟩
    | succ k =>
      simp only [List.getElem_cons_succ]
      obtain ⟨j1, j2⟩ := i3 k (by simpa using hk)
      exact ⟨j1, by rw [j2]; omega⟩
theorem anc_zero {v : Int} (hv : isN w h v) : (anc (parents w h b r) v)[0]? = some v := by rw [anc_nd H hv]; rfl
/-- who is not reached has no common ancestor with others -/
theorem common_low {a c : Int} (ha : isN w h a) (hc : isN w h c) (hne : a ≠ c) (h0 : rd (depths w h b r) a < 0 ∨ rd (depths w h b r) c < 0) : common (parents w h b r) a c = -1 := by
  have deep : ∀ {v x : Int}, isN w h v → 0 ≤ rd (depths w h b r) v → x ∈ anc (parents w h b r) v → 0 ≤ rd (depths w h b r) x := fun {v x} hv h1 hx => by
    obtain ⟨n, hn⟩ := Int.eq_ofNat_of_zero_le h1
    obtain ⟨i1, _, i3⟩ := anc_depth H n hv hn
    obtain ⟨k, hk, rfl⟩ := List.mem_iff_getElem.1 hx
    rw [(i3 k hk).2]; omega
  refine common_no (fun x hx hx' => ?_)
  by_cases h1 : rd (depths w h b r) a < 0
  · rw [anc_low H ha (by omega)] at hx
    rw [List.mem_singleton.1 hx] at hx'
    by_cases h2 : rd (depths w h b r) c < 0
    · rw [anc_low H hc (by omega)] at hx'
      exact hne (List.mem_singleton.1 hx')
    · have := deep hc (by omega) hx'; omega
  · have h2 : rd (depths w h b r) c < 0 := h0.resolve_left h1
    rw [anc_low H hc (by omega)] at hx'
    rw [List.mem_singleton.1 hx'] at hx
    have := deep ha (by omega) hx; omega
/-- the way between two nodes that are reached -/
theorem way {a c : Int} (ha : isN w h a) (hc : isN w h c) (h0 : 0 ≤ rd (depths w h b r) a) (h1 : 0 ≤ rd (depths w h b r) c) :
    ∃ (i j : Nat) (hi : i < (anc (parents w h b r) a).length) (hj : j < (anc (parents w h b r) c).length), common (parents w h b r) a c = (anc (parents w h b r) a)[i] ∧ (anc (parents w h b r) a)[i] = (anc (parents w h b r) c)[j] ∧
      treeNodes (parents w h b r) a c = (anc (parents w h b r) a).take (i + 1) ++ ((anc (parents w h b r) c).take j).reverse ∧ isN w h (anc (parents w h b r) a)[i] := by
  obtain ⟨n, hn⟩ := Int.eq_ofNat_of_zero_le h0
  obtain ⟨m, hm⟩ := Int.eq_ofNat_of_zero_le h1
  obtain ⟨a1, a2, a3⟩ := anc_depth H n ha hn
  obtain ⟨c1, c2, c3⟩ := anc_depth H m hc hm
  have hpos : 0 ≤ common (parents w h b r) a c := by
    unfold common
    cases hf : (anc (parents w h b r) a).find? (fun x => decide (x ∈ anc (parents w h b r) c)) with
    | none =>
      have := List.find?_eq_none.1 hf r a2
      simp [c2] at this
    | some u =>
      have h1 := List.mem_of_find?_eq_some hf
      obtain ⟨k, hk, rfl⟩ := List.mem_iff_getElem.1 h1
      exact (a3 k hk).1.1
  obtain ⟨m1, m2⟩ := common_mem hpos
  have hi := List.idxOf_lt_length_iff.2 m1
  have hj := List.idxOf_lt_length_iff.2 m2
  have e1 := List.getElem_idxOf hi
  have e2 := List.getElem_idxOf hj
  refine ⟨_, _, hi, hj, e1.symm, e1.trans e2.symm, ?_, (a3 _ hi).1⟩
  unfold treeNodes
  rw [if_neg (by omega)]
end
end Go.Proofs.YtlbbalmeaedbdaaGreat.V
/-! Distances, detours. -/
set_option linter.all false
namespace Go.Proofs.YtlbbalmeaedbdaaGreat.V
open Go Go.VM Go.Proofs
set_option maxRecDepth 10000
variable {frz : Nat} {H : Heap}
theorem wrap_add (a b : Int) : IntKind.i64.wrap (IntKind.i64.wrap a + b) = IntKind.i64.wrap (a + b) := by simp only [IntKind.wrap_i64]; omega
theorem wrap_add' (a b : Int) : IntKind.i64.wrap (a + IntKind.i64.wrap b) = IntKind.i64.wrap (a + b) := by simp only [IntKind.wrap_i64]; omega
theorem wrap_sub (a b : Int) : IntKind.i64.wrap (IntKind.i64.wrap a - b) = IntKind.i64.wrap (a - b) := by simp only [IntKind.wrap_i64]; omega
def dist (w h a c : Int) : Int := if isN w h a ∧ isN w h c then max (a % w - c % w) (c % w - a % w) + max (a / w - c / w) (c / w - a / w) else -1
theorem dist_parts {w h a c : Int} (ha : isN w h a) (hc : isN w h c) : (1 ≤ w ∧ w ≤ 4) ∧ (0 ≤ a % w ∧ a % w < 4) ∧ (0 ≤ c % w ∧ c % w < 4) ∧ (0 ≤ a / w ∧ a / w < 16) ∧ (0 ≤ c / w ∧ c / w < 16) := by
  obtain ⟨⟨⟨a1, a2⟩, b1, b2⟩, g2, g3, g4⟩ := isN_ok ha
  obtain ⟨_, k2, k3, k4⟩ := isN_ok hc
  exact ⟨⟨a1, a2⟩, mod_small a1 a2, mod_small a1 a2, div_small g2 a1 g4, div_small k2 a1 k4⟩
theorem gap_c (a c : Int) (ha : -1000 ≤ a ∧ a ≤ 1000) (hc : -1000 ≤ c ∧ c ≤ 1000) : vcall C frz 68 [.int .i64 a, .int .i64 c] H = some (.int .i64 (max (a - c) (c - a)), H) := by
  rw [vcall_go (fn := Tryz.f68) Tryz.func68 rfl (by kernel_rfl) rfl]
  simp [ite_max]
  rw [w64 (by omega) (by omega), w64 (by omega) (by omega)]
theorem distance_c (w h a c : Int) : vcall C frz 40 [.agg #[.int .i64 w, .int .i64 h], .int .i64 a, .int .i64 c] H = some (.int .i64 (dist w h a c), H) := by
  rw [vcall_go (fn := Tryz.f40) Tryz.func40 rfl (by kernel_rfl) rfl]
  by_cases ha : isN w h a
  · by_cases hc : isN w h c
    · obtain ⟨⟨w1, w2⟩, p1, p2, p3, p4⟩ := dist_parts ha hc
      have ha' := isN_ok ha
      have hc' := isN_ok hc
      simp [isNode_c, ha, hc]
      rw [go_draw (h := by kernel_rfl)]
      simp
      refine vneed_eq (by omega) ?_
      refine vneed_eq (by omega) ?_
      rw [tmod_of ha'.2.1, tmod_of hc'.2.1]
      simp [gap_c _ _ (show -1000 ≤ a % w ∧ a % w ≤ 1000 by omega) (show -1000 ≤ c % w ∧ c % w ≤ 1000 by omega)]
      refine vneed_eq (by omega) ?_
      refine vneed_eq (by omega) ?_
      rw [tdiv_of ha'.2.1 w1 ha'.2.2.2, tdiv_of hc'.2.1 w1 hc'.2.2.2]
      simp [gap_c _ _ (show -1000 ≤ a / w ∧ a / w ≤ 1000 by omega) (show -1000 ≤ c / w ∧ c / w ≤ 1000 by omega)]
      rw [dist, if_pos ⟨ha, hc⟩, w64 (by omega) (by omega)]
    · simp [isNode_c, ha, hc, dist]
  · simp [isNode_c, ha, dist]
/-- how much longer than the distance a way is -/
def extra (w h : Int) (b T : List Int) (a c : Nat) : Int := (walk w h b T a c).length - dist w h a c
def pairSum (f : Nat → Nat → Int) (l : List (Nat × Nat)) : Int := (l.map fun p => f p.1 p.2).sum
theorem pairSum_app (f : Nat → Nat → Int) (l m : List (Nat × Nat)) : pairSum f (l ++ m) = pairSum f l + pairSum f m := by simp [pairSum]
def rowSum (f : Nat → Nat → Int) (n m : Nat) : Int := ((List.range m).map fun i => f (i / n) (i % n)).sum
theorem rowSum_succ (f : Nat → Nat → Int) (n m : Nat) : rowSum f n (m + 1) = rowSum f n m + f (m / n) (m % n) := by simp [rowSum, List.range_succ]
theorem row_sum {f : Nat → Nat → Int} {n a : Nat} (h0 : f a a = 0) (hn : 0 < n) : ∀ m, m ≤ n → rowSum f n (a * n + m) = rowSum f n (a * n) + pairSum f (rowPairs n a m) := by
  intro m
  induction m with
  | zero => intro _; simp [rowPairs, pairSum]
  | succ m ih =>
    intro hm
    rw [← Nat.add_assoc, rowSum_succ, ih (by omega)]
    have hdv : (a * n + m) / n = a := by rw [Nat.mul_comm, Nat.mul_add_div hn, Nat.div_eq_of_lt (by omega)]; omega
    have hmd : (a * n + m) % n = m := by rw [Nat.mul_comm, Nat.mul_add_mod, Nat.mod_eq_of_lt (by omega)]
    rw [hdv, hmd]
    by_cases h : a = m
    · rw [rowPairs_eq _ _ _ h]; subst h; omega
    · rw [rowPairs_ne _ _ _ h, pairSum_app]; simp [pairSum]; omega
theorem all_sum {f : Nat → Nat → Int} {n : Nat} (hn : 0 < n) : ∀ m, (∀ a < m, f a a = 0) → rowSum f n (m * n) = pairSum f (allPairs n m) := by
  intro m
  induction m with
  | zero => intro _; simp [rowSum, allPairs, pairSum]
  | succ m ih =>
    intro h0
    rw [Nat.succ_mul, row_sum (h0 m (by omega)) hn n (Nat.le_refl _), ih (fun a ha => h0 a (by omega)), allPairs_succ, pairSum_app]
theorem walk_self {w h : Int} {b T : List Int} {a : Int} (h4 : portOf w h T a a = 4) : walk w h b T a a = [] := by
  unfold walk
  cases (cnt w h).toNat <;> simp [walkN, h4]
theorem treeTab_self {w h : Int} {b : List Int} {r : Int} {a : Nat} (ha : a < (cnt w h).toNat) : portOf w h (treeTab w h b r) a a = 4 := by
  have hc := cnt_range w h
  have hlt : a * (cnt w h).toNat + a < (cnt w h).toNat * (cnt w h).toNat := by
    have := Nat.mul_le_mul_right (cnt w h).toNat (show a + 1 ≤ (cnt w h).toNat by omega)
    rw [Nat.succ_mul] at this; omega
  have e : (a : Int) * cnt w h + a = ((a * (cnt w h).toNat + a : Nat) : Int) := by
    rw [Int.natCast_add, Int.natCast_mul, Int.toNat_of_nonneg hc.1]
  unfold portOf
  rw [e, rd_at (by simpa [treeTab] using hlt)]
  have hdv : (a * (cnt w h).toNat + a) / (cnt w h).toNat = a := by rw [Nat.mul_comm, Nat.mul_add_div (by omega), Nat.div_eq_of_lt ha]; omega
  have hmd : (a * (cnt w h).toNat + a) % (cnt w h).toNat = a := by rw [Nat.mul_comm, Nat.mul_add_mod, Nat.mod_eq_of_lt ha]
  simp only [treeTab, List.getElem_map, List.getElem_range, treePort]
  rw [hdv, hmd, if_pos rfl]
theorem treeTab_sized {w h : Int} {b : List Int} {r : Int} (hm : meshOk w h b) : tsized w h b (treeTab w h b r) := by
  have hc := cnt_range w h
  refine ⟨hm, ?_⟩
  simp only [treeTab, List.length_map, List.length_range]
  rw [Int.natCast_mul, Int.toNat_of_nonneg hc.1]
theorem dist_self {w h a : Int} (ha : isN w h a) : dist w h a a = 0 := by rw [dist, if_pos ⟨ha, ha⟩]; omega
theorem extra_self {w h : Int} {b : List Int} {r : Int} {a : Nat} (ha : a < (cnt w h).toNat) : extra w h b (treeTab w h b r) a a = 0 := by
  unfold extra
  rw [walk_self (treeTab_self ha), dist_self (isN_nat ha)]; rfl
noncomputable def detour (w h : Int) (b : List Int) : Int := if treeOk w h b (bestRoot w h b) then IntKind.i64.wrap (pairSum (extra w h b (treeTab w h b (bestRoot w h b))) (allPairs (cnt w h).toNat (cnt w h).toNat)) else -1
theorem detour1_w (w h : Int) (v u : Value) (b T : List Int) (s : Int) (a c : Nat) (r0 r1 r2 : Nat) (hI : IsI H v b) (hT : IsI H u T) (hl : b.length ≤ 1073741824) (hz : tsized w h b T) (ha : a < (cnt w h).toNat) (hc : c < (cnt w h).toNat) (hne : a ≠ c)
    (g0 : H[r0]? = some ⟨[.int .i64 s], 0, 3⟩) (g1 : H[r1]? = some ⟨[.int .i64 w, .int .i64 h, v], 0, 28⟩) (g2 : H[r2]? = some ⟨[u], 0, 32⟩) (hf : frz ≤ r0) :
   wp (vcall C frz 39 [.int .i64 a, .int .i64 c, .pointer (some ⟨r0, 0, some 0⟩), .pointer (some ⟨r1, 0, some 0⟩), .pointer (some ⟨r2, 0, some 0⟩)] H)
    (fun r H' => r = .bool true ∧ Chg H H' [r0] ∧ H'[r0]? = some ⟨[.int .i64 (IntKind.i64.wrap (s + extra w h b T a c))], 0, 3⟩) := by
  rw [vcall_go (fn := Tryz.f39) Tryz.func39 rfl (by kernel_rfl) rfl]
  simp
  rw [go_draw (h := by kernel_rfl)]
  simp [VM.look, g0, g1, g2, hI.one', hI.cells, hT.one', hT.cells]
  refine wp_thn (made_ret (walk_c w h v u b T a c hI hT hl hz (isN_nat ha) (isN_nat hc) (by omega))) ?_
  rintro vw _ ⟨L, rfl, ow, nw⟩
  have lt0 := box_lt g0
  have k0 := get_app' g0 L
  have k1 := get_app' g1 L
  have k2 := get_app' g2 L
  have g4 := set_get (r' := ⟨[.int .i64 (IntKind.i64.wrap (s + extra w h b T a c))], 0, 3⟩) k0
  have e1 : IntKind.i64.wrap (s + (((walk w h b T a c).length : Int) - dist w h a c)) = IntKind.i64.wrap (s + extra w h b T a c) := rfl
  simp [VM.look, k0, k1, k2, ow.rd.len, distance_c, wrap_add', e1, hf]
  exact ⟨(Chg.app _).trans (chg_set _ _), g4⟩
theorem detour_c (w h : Int) (v : Value) (b : List Int) (hI : IsI H v b) (hl : b.length ≤ 1073741824) :
   vcall C frz 16 [.agg #[.int .i64 w, .int .i64 h, v]] H = some (.int .i64 (detour w h b), H) := by
  refine wp.exact (by simp) ?_ rfl
  rw [vcall_go (fn := Tryz.f16) Tryz.func16 rfl (by kernel_rfl) rfl]
  have one := And.intro hI.one' hI.cells
  simp [one]
  rw [go_draw (h := by kernel_rfl)]
  simp [one, bestRoot_c _ _ _ _ (hI.app _) hl]
  refine wp_thn (treeTable_w w h v b (bestRoot w h b) (hI.app _) hl) ?_
  rintro _ H1 ⟨_, rfl, vt, rfl, ot, c1, nt, dt⟩
  have b1 : H1[H.length]? = some ⟨[.int .i64 w, .int .i64 h, v], 0, 28⟩ := box_chg (by simp) c1 (by simp)
  have cH : Chg H H1 [] := (Chg.app []).trans c1
  have l0 := cH.1
  have l1 := box_lt b1
  have one1 := dTable_one ot
  by_cases hok : treeOk w h b (bestRoot w h b)
  · have ett : treeTable w h b (bestRoot w h b) = treeTab w h b (bestRoot w h b) := if_pos hok
    have hz := treeTab_sized (r := bestRoot w h b) hok.1.1
    rw [ett] at ot
    have ed : detour w h b = IntKind.i64.wrap (pairSum (extra w h b (treeTab w h b (bestRoot w h b))) (allPairs (cnt w h).toNat (cnt w h).toNat)) := if_pos hok
    rw [ed]
    generalize treeTab w h b (bestRoot w h b) = T at *
    simp [dTable_val, one1, VM.look, b1, get_app' b1, hok, l0, Nat.le_add_right_of_le l0]
    have oT := ot.1.rd.isI
    have hIT := (hI.rd.chg cH (by simp)).isI
    refine wp_thn (pairs_w (frz := H.length) w h _ (Q := fun r H' => H'[H1.length + 1]? = some ⟨[.int .i64 (IntKind.i64.wrap (pairSum (extra w h b T) (allPairs (cnt w h).toNat (cnt w h).toNat)))], 0, 3⟩)
      (fun done H' => Chg (H1 ++ [⟨[vt], 0, 32⟩]) H' [H1.length + 1] ∧ H'[H1.length + 1]? = some ⟨[.int .i64 (IntKind.i64.wrap (pairSum (extra w h b T) done))], 0, 3⟩) ⟨?_, ?_⟩ ?_ ?_) ?_
    · have := (Chg.app (H := H1 ++ [⟨[vt], 0, 32⟩]) (L := [⟨[.int .i64 0], 0, 3⟩, ⟨[.int .i64 w, .int .i64 h], 0, 25⟩]) [H1.length + 1]); simp only [List.append_assoc, List.cons_append, List.nil_append] at this ⊢; exact this
    · simp [pairSum]; decide
    · rintro done a c H' ha hc hne ⟨cD, bD⟩
      have bm : H'[H.length]? = some ⟨[.int .i64 w, .int .i64 h, v], 0, 28⟩ := box_chg (get_app' b1 _) cD (by simp; omega)
      have bt : H'[H1.length]? = some ⟨[vt], 0, 32⟩ := box_chg (by simp) cD (by simp)
      have iB := (hIT.app [⟨[vt], 0, 32⟩]).rd.chg cD (fun i hi hh => by have := hIT.rd.lt i hi; simp at hh; omega)
      have iT := (oT.app [⟨[vt], 0, 32⟩]).rd.chg cD (fun i hi hh => by have := oT.rd.lt i hi; simp at hh; omega)
      simp
      refine (detour1_w w h v vt b T _ a c (H1.length + 1) H.length H1.length iB.isI iT.isI hl hz ha hc hne bD bm bt (by omega)).mono ?_
      rintro r H'' ⟨rfl, cE, bE⟩
      refine .inl ⟨rfl, cD.trans cE, ?_⟩
      rw [bE, wrap_add, pairSum_app]; simp [pairSum]
    · rintro H' ⟨_, bD⟩; exact bD
    · intro r H' hq
      simp [VM.look, hq]
  · simp [dTable_val, one1, VM.look, b1, get_app' b1, hok, l0, Nat.le_add_right_of_le l0, detour]
theorem detour_d {v : Value} {w h : Int} {b : List Int} (o : dMesh.Ow H v (w, h, b)) : vcall C frz 16 [dMesh.val v (w, h, b)] H = some (.int .i64 (detour w h b), H) := detour_c w h v b o.1.rd.isI o.2
end Go.Proofs.YtlbbalmeaedbdaaGreat.V
/-! Trees: distances, and who is reached. -/
set_option linter.all false
namespace Go.Proofs.YtlbbalmeaedbdaaGreat.V
open Go Go.VM
set_option maxRecDepth 100000
theorem reach_all {w h : Int} {b : List Int} {s r : Int} (H0 : rootOk w h b s) (Hr : rootOk w h b r) (all0 : ∀ v, isN w h v → 0 ≤ rd (depths w h b s) v) : ∀ v, isN w h v → 0 ≤ rd (depths w h b r) v := by
  have j0 := depths_inv2 H0
  have j := depths_inv2 Hr
  have down : ∀ (n : Nat) v, isN w h v → rd (depths w h b s) v = n → 0 ≤ rd (depths w h b r) v → 0 ≤ rd (depths w h b r) s := by
    intro n
    induction n with
    | zero => intro v hv h1 h2
              have := j0.zero.2 v hv (by omega)
              rw [this] at h2; exact h2
    | succ n ih =>
      intro v hv h1 h2
      obtain ⟨u, hu, hu1, q, hq, hlk, hnx⟩ := j0.pre v hv (by omega)
      obtain ⟨q', hq', hlk', hnx'⟩ := link_symm hq hlk
      rw [hnx] at hlk' hnx'
      have h3 := j.cl v hv h2 (by simp) (by simp) q' hq' hlk'
      rw [hnx'] at h3
      exact ih u hu (by omega) h3
  have hr0 : 0 ≤ rd (depths w h b r) s := by
    have h1 := all0 r Hr.2
    exact down _ r Hr.2 (Int.toNat_of_nonneg h1).symm (by have := j.zero.1; omega)
  have up : ∀ (n : Nat) v, isN w h v → rd (depths w h b s) v = n → 0 ≤ rd (depths w h b r) v := by
    intro n
    induction n with
    | zero => intro v hv h1
              have := j0.zero.2 v hv (by omega)
              rw [this]; exact hr0
    | succ n ih =>
      intro v hv h1
      obtain ⟨u, hu, hu1, q, hq, hlk, hnx⟩ := j0.pre v hv (by omega)
      have h3 := j.cl u hu (ih u hu (by omega)) (by simp) (by simp) q hq hlk
      rw [hnx] at h3; exact h3
  exact fun v hv => up _ v hv (Int.toNat_of_nonneg (all0 v hv)).symm
theorem conn_iff {w h : Int} {b : List Int} {r : Int} (Hr : rootOk w h b r) : conn w h b ↔ ∀ v, isN w h v → 0 ≤ rd (depths w h b r) v := by
  refine ⟨fun hc => conn_all hc Hr.2, fun ha => ⟨Hr.1, fun hm => ?_⟩⟩
  have H0 : rootOk w h b 0 := ⟨Hr.1, okG_isN Hr.1.2⟩
  have h0 := reach_all Hr H0 ha
  have hl := (depths_inv H0).1
  obtain ⟨i, hi, he⟩ := List.mem_iff_getElem.1 hm
  have h1 := h0 (i : Int) ⟨by omega, by omega⟩
  rw [rd_at hi, he] at h1
  omega
def distB : Bool := (List.range 5).all fun w => (List.range 5).all fun h => (List.range 16).all fun a => (List.range 4).all fun p =>
  decide (next (w : Int) h a p < 0) || (decide (dist w h a (next w h a p) = 1) && decide (dist w h (next w h a p) a = 1))
theorem dist_dec : distB = true := by decide +kernel
theorem dist_link {w h a : Int} {p : Nat} (hp : p < 4) (ha : isN w h a) (hu : 0 ≤ next w h a p) : dist w h a (next w h a p) = 1 ∧ dist w h (next w h a p) a = 1 := by
  obtain ⟨⟨⟨a1, a2⟩, b1, b2⟩, c1, c2, c3⟩ := isN_ok ha
  have h0 := dist_dec
  unfold distB at h0
  rw [List.all_eq_true] at h0
  have h1 := h0 w.toNat (by simp; omega)
  rw [List.all_eq_true] at h1
  have h2 := h1 h.toNat (by simp; omega)
  rw [List.all_eq_true] at h2
  have h3 := h2 a.toNat (by simp; omega)
  rw [List.all_eq_true] at h3
  have h4 := h3 p (by simp; omega)
  have e1 : (w.toNat : Int) = w := by omega
  have e2 : (h.toNat : Int) = h := by omega
  have e3 : (a.toNat : Int) = a := by omega
  rw [e1, e2, e3] at h4
  simp only [Bool.or_eq_true, Bool.and_eq_true, decide_eq_true_eq] at h4
  rcases h4 with h4 | h4
  · omega
  · exact h4
theorem dist_tri {w h a c d : Int} (ha : isN w h a) (hc : isN w h c) (hd : isN w h d) : dist w h a d ≤ dist w h a c + dist w h c d := by
  unfold dist
  rw [if_pos ⟨ha, hd⟩, if_pos ⟨ha, hc⟩, if_pos ⟨hc, hd⟩]
  omega
section
variable {w h r : Int} {b : List Int} (H : rootOk w h b r)
include H
theorem par_dist {v : Int} (hv : isN w h v) (h0 : 0 < rd (depths w h b r) v) : dist w h v (rd (parents w h b r) v) = 1 ∧ dist w h (rd (parents w h b r) v) v = 1 := by
  rw [par_of H hv]
  obtain ⟨p, hp, h2, h3, h4⟩ := par_some H hv h0
  rw [h2]; exact dist_link hp hv (link_next hp h3).2.1.1
theorem depth_dist : ∀ (n : Nat) {v : Int}, isN w h v → rd (depths w h b r) v = n → dist w h r v ≤ n := by
  intro n
  induction n with
  | zero =>
    intro v hv h0
    have := (depths_inv2 H).zero.2 v hv (by omega)
    rw [this, dist_self H.2]; omega
  | succ n ih =>
    intro v hv h0
    obtain ⟨h1, h2⟩ := par_step H hv (by omega)
    have h3 := ih h1 (by omega)
    have h4 := (par_dist H hv (by omega)).2
    have := dist_tri H.2 h1 hv
    omega
end
theorem le_foldl_max : ∀ {l : List Int} {a x : Int}, x ∈ l → x ≤ l.foldl max a ∧ True
  | y :: l, a, x, hx => by
    have mono : ∀ (l : List Int) (a : Int), a ≤ l.foldl max a := fun l => by
      induction l with
      | nil => intro a; exact Int.le_refl _
      | cons z l ih => intro a; have := ih (max a z); simp only [List.foldl_cons]; omega
    rcases List.mem_cons.1 hx with rfl | hx
    · refine ⟨?_, trivial⟩
      have := mono l (max a x)
      simp only [List.foldl_cons]; omega
    · exact le_foldl_max (a := max a y) hx
end Go.Proofs.YtlbbalmeaedbdaaGreat.V
/-! The table of a tree is valid. -/
set_option linter.all false
namespace Go.Proofs.YtlbbalmeaedbdaaGreat.V
open Go Go.VM
set_option maxRecDepth 100000
def geo2B : Bool := (List.range 5).all fun w => (List.range 5).all fun h => (List.range 16).all fun a => (List.range 4).all fun p =>
  decide (next (w : Int) h a p < 0) || (List.range 4).all fun q => decide (p = q) || decide (next (w : Int) h a p ≠ next w h a q)
theorem geo2_dec : geo2B = true := by decide +kernel
theorem port_uniq {w h a : Int} {p q : Nat} (hp : p < 4) (hq : q < 4) (ha : isN w h a) (hu : 0 ≤ next w h a p) (e : next w h a p = next w h a q) : p = q := by
  obtain ⟨⟨⟨a1, a2⟩, b1, b2⟩, c1, c2, c3⟩ := isN_ok ha
  have h0 := geo2_dec
  unfold geo2B at h0
  rw [List.all_eq_true] at h0
  have h1 := h0 w.toNat (by simp; omega)
  rw [List.all_eq_true] at h1
  have h2 := h1 h.toNat (by simp; omega)
  rw [List.all_eq_true] at h2
  have h3 := h2 a.toNat (by simp; omega)
  rw [List.all_eq_true] at h3
  have h4 := h3 p (by simp; omega)
  have e1 : (w.toNat : Int) = w := by omega
  have e2 : (h.toNat : Int) = h := by omega
  have e3 : (a.toNat : Int) = a := by omega
  rw [e1, e2, e3] at h4
  simp only [Bool.or_eq_true, decide_eq_true_eq] at h4
  rcases h4 with h4 | h4
  · omega
  · rw [List.all_eq_true] at h4
    have h5 := h4 q (by simp; omega)
    simp only [Bool.or_eq_true, decide_eq_true_eq] at h5
    rcases h5 with h5 | h5
    · exact h5
    · exact absurd e h5
theorem first_uniq {w h a u : Int} {p : Nat} (hp : p < 4) (ha : isN w h a) (h0 : 0 ≤ u) (h1 : next w h a p = u) : firstPort w h a u = p := by
  refine firstPort_at hp h1 fun q hq e => ?_
  have := port_uniq (q := p) (p := q) (by omega) hp ha (by omega) (e.trans h1.symm)
  omega
theorem nodup_le : ∀ (n : Nat) (l : List Int), l.Nodup → (∀ x ∈ l, 0 ≤ x ∧ x < n) → l.length ≤ n
  | 0, l, _, h => by
    cases l with
    | nil => simp
    | cons a l => have := h a (List.mem_cons_self ..); omega
  | n + 1, l, nd, h => by
    have ih := nodup_le n (l.erase (n : Int)) (nd.erase _) fun x hx => by
      have h1 := h x (List.mem_of_mem_erase hx)
      have h2 : x ≠ (n : Int) := fun e => by subst e; exact nd.not_mem_erase hx
      omega
    have := List.length_erase (a := (n : Int)) (l := l)
    split at this <;> omega
theorem walkN_go (w h : Int) (b T : List Int) (to : Int) (h4 : portOf w h T to to = 4) : ∀ L F a out, L ≤ F → (0 < L ∨ out ≠ []) → itN (nuT w h T to) L a = to → (∀ n, n < L → stepOk w h b T (itN (nuT w h T to) n a) to) → walkN w h b T to F a out ≠ []
  | 0, F, a, out, _, ho, e, _ => by
    have e : a = to := e
    subst e
    have ho := ho.resolve_left (by omega)
    cases F with
    | zero => unfold walkN; rw [if_pos h4, if_pos rfl]; exact ho
    | succ F => unfold walkN; rw [if_pos h4, if_pos rfl]; exact ho
  | L + 1, F, a, out, hF, _, e, hs => by
    have s0 : stepOk w h b T a to := hs 0 (by omega)
    have hne : ¬ portOf w h T a to = 4 := fun k => by have := s0.1; unfold inR at this; omega
    cases F with
    | zero => omega
    | succ F =>
      unfold walkN
      rw [if_neg hne, if_pos s0]
      refine walkN_go w h b T to h4 L F _ _ (by omega) (.inr (by simp)) ?_ fun n hn => ?_
      · have := e; rw [itN_succ] at this; exact this
      · have := hs (n + 1) (by omega); rw [itN_succ] at this; exact this
/-- a row of steps to a place makes a walk -/
theorem walk_ne {w h : Int} {b T : List Int} {a to : Int} {L : Nat} (h4 : portOf w h T to to = 4) (hne : a ≠ to) (ha : isN w h a) (e : itN (nuT w h T to) L a = to) (hs : ∀ n, n < L → isN w h (itN (nuT w h T to) n a) ∧ stepOk w h b T (itN (nuT w h T to) n a) to) : walk w h b T a to ≠ [] := by
  have hL : 0 < L := by
    cases L with
    | zero => exact absurd e hne
    | succ L => omega
  generalize hg : nuT w h T to = g at *
  have hne2 : ∀ n, n < L → itN g n a ≠ to := fun n hn' e => by
    have k1 := (hs n hn').2.1
    rw [e, h4] at k1
    unfold inR at k1; omega
  have hinj : ∀ m n, m < n → n ≤ L → itN g m a ≠ itN g n a := fun m n hm hn' e2 => by
    have e1 : itN g (L - n + m) a = itN g (L - n + n) a := by rw [itN_add g m, itN_add g n, e2]
    rw [show L - n + n = L by omega, e] at e1
    exact hne2 (L - n + m) (by omega) e1
  have hle : L ≤ (cnt w h).toNat := by
    have hc := cnt_range w h
    have := nodup_le (cnt w h).toNat ((List.range L).map fun n => itN g n a) ?_ ?_
    · simpa using this
    · refine List.pairwise_map.2 ((List.pairwise_lt_range).imp_of_mem fun {m n} hm hn hlt => ?_)
      exact hinj m n hlt (by have := List.mem_range.1 hn; omega)
    · intro x hx
      obtain ⟨n, hn, rfl⟩ := List.mem_map.1 hx
      have := (hs n (List.mem_range.1 hn)).1
      unfold isN at this; omega
  unfold walk
  refine walkN_go w h b T to h4 L _ a [] hle (.inl hL) (by rw [hg]; exact e) fun n hn => by rw [hg]; exact (hs n hn).2
theorem treeTab_at {w h : Int} {b : List Int} {r a c : Int} (ha : isN w h a) (hc : isN w h c) (hne : a ≠ c) : portOf w h (treeTab w h b r) a c = firstPort w h a ((treeNodes (parents w h b r) a c).getD 1 0) := by
  have hcn := cnt_range w h
  obtain ⟨x, rfl⟩ := Int.eq_ofNat_of_zero_le ha.1
  obtain ⟨y, rfl⟩ := Int.eq_ofNat_of_zero_le hc.1
  have hx : x < (cnt w h).toNat := by have := ha.2; omega
  have hy : y < (cnt w h).toNat := by have := hc.2; omega
  have hlt : x * (cnt w h).toNat + y < (cnt w h).toNat * (cnt w h).toNat := by
    have := Nat.mul_le_mul_right (cnt w h).toNat (show x + 1 ≤ (cnt w h).toNat by omega)
    rw [Nat.succ_mul] at this; omega
  have e : (x : Int) * cnt w h + y = ((x * (cnt w h).toNat + y : Nat) : Int) := by
    rw [Int.natCast_add, Int.natCast_mul, Int.toNat_of_nonneg hcn.1]
  unfold portOf
  rw [e, rd_at (by simpa [treeTab] using hlt)]
  have hdv : (x * (cnt w h).toNat + y) / (cnt w h).toNat = x := by rw [Nat.mul_comm, Nat.mul_add_div (by omega), Nat.div_eq_of_lt hy]; omega
  have hmd : (x * (cnt w h).toNat + y) % (cnt w h).toNat = y := by rw [Nat.mul_comm, Nat.mul_add_mod, Nat.mod_eq_of_lt hy]
  simp only [treeTab, List.getElem_map, List.getElem_range, treePort]
  rw [hdv, hmd, if_neg (by omega)]
section
variable {w h r : Int} {b : List Int} (hc : conn w h b) (hr : isN w h r)
include hc hr
/-- the next node of the way through the tree -/
theorem tree_next {a c : Int} (ha : isN w h a) (hcn : isN w h c) (hne : a ≠ c) :
    (a ∉ anc (parents w h b r) c ∧ (treeNodes (parents w h b r) a c).getD 1 0 = rd (parents w h b r) a ∧ a ≠ r) ∨
    ∃ j, ∃ hj : j + 1 < (anc (parents w h b r) c).length, (anc (parents w h b r) c)[j + 1] = a ∧ (treeNodes (parents w h b r) a c).getD 1 0 = (anc (parents w h b r) c)[j] := by
  have H : rootOk w h b r := ⟨hc.1, hr⟩
  obtain ⟨i, j, hi, hj, e1, e2, e3, e4⟩ := way H ha hcn (conn_all hc hr a ha) (conn_all hc hr c hcn)
  have dn := fun {v : Int} (hv : isN w h v) => (Int.toNat_of_nonneg (conn_all hc hr v hv)).symm
  have ea := anc_node hc hr ha
  have a0 : (anc (parents w h b r) a)[0]? = some a := anc_zero H ha
  have hcom : 0 ≤ common (parents w h b r) a c := by rw [e1]; exact e4.1
  obtain ⟨ma, mc⟩ := common_mem hcom
  have tn : treeNodes (parents w h b r) a c = (anc (parents w h b r) a).take ((anc (parents w h b r) a).idxOf (common (parents w h b r) a c) + 1) ++ ((anc (parents w h b r) c).take ((anc (parents w h b r) c).idxOf (common (parents w h b r) a c))).reverse := by
    unfold treeNodes; rw [if_neg (by omega)]
  by_cases hm : a ∈ anc (parents w h b r) c
  · right
    have ec : common (parents w h b r) a c = a := by
      unfold common
      rw [ea, List.find?_cons_of_pos (by simpa using hm)]; rfl
    have i0 : (anc (parents w h b r) a).idxOf a = 0 := by rw [ea]; simp
    rw [ec, i0] at tn
    have hk := List.idxOf_lt_length_iff.2 hm
    have vk := List.getElem_idxOf hk
    have c0 : (anc (parents w h b r) c)[0]? = some c := anc_zero H hcn
    generalize (anc (parents w h b r) c).idxOf a = k at *
    have k0 : k ≠ 0 := fun e => by
      subst e
      rw [List.getElem?_eq_getElem hk, vk] at c0
      exact hne (by simpa using c0)
    have l1 : ((anc (parents w h b r) a).take (0 + 1)).length = 1 := by rw [ea]; rfl
    refine ⟨k - 1, by omega, ?_, ?_⟩
    · have : k - 1 + 1 = k := by omega
      simp only [this]; exact vk
    · rw [tn]
      simp only [List.getD_eq_getElem?_getD]
      rw [List.getElem?_append_right (by omega), l1, List.getElem?_reverse (by simp; omega)]
      have e5 : ((anc (parents w h b r) c).take k).length - 1 - (1 - 1) = k - 1 := by rw [List.length_take]; omega
      rw [e5, List.getElem?_take, if_pos (by omega), List.getElem?_eq_getElem (by omega)]; rfl
  · left
    have hk := List.idxOf_lt_length_iff.2 ma
    have vk := List.getElem_idxOf hk
    have hr' := root_anc hc hr _ hcn (dn hcn)
    have hne2 : common (parents w h b r) a c ≠ a := fun e => hm (e ▸ mc)
    generalize (anc (parents w h b r) a).idxOf (common (parents w h b r) a c) = k at *
    have k0 : k ≠ 0 := fun e => by
      subst e
      rw [List.getElem?_eq_getElem hk, vk] at a0
      exact hne2 (by simpa using a0)
    refine ⟨hm, ?_, fun e => hm (e ▸ hr')⟩
    have hp : rd (parents w h b r) a ≠ -1 := fun e => by
      rw [e, if_pos rfl] at ea
      rw [ea] at hk; simp at hk; omega
    rw [if_neg hp] at ea
    have hpn : isN w h (rd (parents w h b r) a) := by
      rcases tree_par hc hr ha with ⟨_, h1⟩ | ⟨p, _, h2, _, h4, _⟩
      · exact absurd h1 hp
      · rw [h2]; exact h4
    have p0 := anc_zero H hpn
    rw [tn]
    simp only [List.getD_eq_getElem?_getD]
    rw [List.getElem?_append_left (by rw [List.length_take]; omega), List.getElem?_take, if_pos (by omega), ea, List.getElem?_cons_succ, p0]; rfl
/-- the table leads one step along the way -/
theorem tree_step {a c : Int} (ha : isN w h a) (hcn : isN w h c) (hne : a ≠ c) : stepOk w h b (treeTab w h b r) a c ∧ nuT w h (treeTab w h b r) c a = (treeNodes (parents w h b r) a c).getD 1 0 := by
  have H : rootOk w h b r := ⟨hc.1, hr⟩
  have dn := fun {v : Int} (hv : isN w h v) => (Int.toNat_of_nonneg (conn_all hc hr v hv)).symm
  have key : ∃ p : Nat, p < 4 ∧ next w h a p = (treeNodes (parents w h b r) a c).getD 1 0 ∧ link w h b (4 * a + p) := by
    rcases tree_next hc hr ha hcn hne with ⟨_, h2, h3⟩ | ⟨j, hj, h2, h3⟩
    · rcases tree_par hc hr ha with ⟨h1, _⟩ | ⟨p, hp, h4, h5, _⟩
      · exact absurd h1 h3
      · exact ⟨p, hp, by rw [h2, h4], h5⟩
    · obtain ⟨_, _, p, hp, g1, g2⟩ := anc_get hc hr _ hcn (dn hcn) j hj
      obtain ⟨q, hq, g3, g4⟩ := link_symm hp g2
      rw [g1, h2] at g3 g4
      exact ⟨q, hq, by rw [h3]; exact g4, g3⟩
  obtain ⟨p, hp, h1, h2⟩ := key
  obtain ⟨_, hu, _⟩ := link_next hp h2
  have ep : portOf w h (treeTab w h b r) a c = p := by
    rw [treeTab_at ha hcn hne, ← h1]
    exact first_uniq hp ha hu.1 rfl
  refine ⟨?_, ?_⟩
  · unfold stepOk
    rw [ep]
    exact ⟨⟨by omega, by omega⟩, h2.1⟩
  · unfold nuT
    rw [ep, h1]
theorem tree_down {c : Int} (hcn : isN w h c) : ∀ (j : Nat) (hj : j < (anc (parents w h b r) c).length), ∃ L, itN (nuT w h (treeTab w h b r) c) L (anc (parents w h b r) c)[j] = c ∧ ∀ n, n < L → isN w h (itN (nuT w h (treeTab w h b r) c) n (anc (parents w h b r) c)[j]) ∧ itN (nuT w h (treeTab w h b r) c) n (anc (parents w h b r) c)[j] ≠ c := by
  have H : rootOk w h b r := ⟨hc.1, hr⟩
  have dn := fun {v : Int} (hv : isN w h v) => (Int.toNat_of_nonneg (conn_all hc hr v hv)).symm
  obtain ⟨c1, c2, c3⟩ := anc_depth H _ hcn (dn hcn)
  intro j
  induction j with
  | zero =>
    intro hj
    have c0 : (anc (parents w h b r) c)[0]? = some c := anc_zero H hcn
    rw [List.getElem?_eq_getElem hj] at c0
    exact ⟨0, Option.some.inj c0, fun n hn => by omega⟩
  | succ j ih =>
    intro hj
    obtain ⟨L, i1, i2⟩ := ih (by omega)
    obtain ⟨k1, k2⟩ := c3 (j + 1) hj
    have hne : (anc (parents w h b r) c)[j + 1] ≠ c := fun e => by rw [e] at k2; have := dn hcn; omega
    have st : nuT w h (treeTab w h b r) c (anc (parents w h b r) c)[j + 1] = (anc (parents w h b r) c)[j] := by
      rw [(tree_step hc hr k1 hcn hne).2]
      rcases tree_next hc hr k1 hcn hne with ⟨h1, _, _⟩ | ⟨j', hj', h2, h3⟩
      · exact absurd (List.getElem_mem hj) h1
      · rw [h3]
        have k3 := (c3 (j' + 1) hj').2
        rw [h2, k2] at k3
        have : j' = j := by omega
        subst this; rfl
    refine ⟨L + 1, by rw [itN_succ, st]; exact i1, fun n hn => ?_⟩
    cases n with
    | zero => exact ⟨k1, hne⟩
    | succ n => rw [itN_succ, st]; exact i2 n (by omega)
theorem tree_up {c : Int} (hcn : isN w h c) : ∀ (m : Nat) {a : Int}, isN w h a → rd (depths w h b r) a = m → ∃ L, itN (nuT w h (treeTab w h b r) c) L a = c ∧ ∀ n, n < L → isN w h (itN (nuT w h (treeTab w h b r) c) n a) ∧ itN (nuT w h (treeTab w h b r) c) n a ≠ c := by
  have H : rootOk w h b r := ⟨hc.1, hr⟩
  have dn := fun {v : Int} (hv : isN w h v) => (Int.toNat_of_nonneg (conn_all hc hr v hv)).symm
  intro m
  induction m with
  | zero =>
    intro a ha hd
    have hroot := (depths_inv2 H).zero.2 a ha (by omega)
    obtain ⟨k, hk, e⟩ := List.mem_iff_getElem.1 (root_anc hc hr _ hcn (dn hcn))
    have := tree_down hc hr hcn k hk
    rw [e] at this
    rw [hroot]
    exact this
  | succ m ih =>
    intro a ha hd
    by_cases hne : a = c
    · exact ⟨0, hne, fun n hn => by omega⟩
    rcases tree_next hc hr ha hcn hne with ⟨h1, h2, h3⟩ | ⟨j, hj, h2, h3⟩
    · rcases tree_par hc hr ha with ⟨h4, _⟩ | ⟨p, hp, h4, h5, h6, h7⟩
      · exact absurd h4 h3
      · have st : nuT w h (treeTab w h b r) c a = next w h a p := by
          rw [(tree_step hc hr ha hcn hne).2, h2, h4]
        obtain ⟨L, i1, i2⟩ := ih h6 (by omega)
        refine ⟨L + 1, by rw [itN_succ, st]; exact i1, fun n hn => ?_⟩
        cases n with
        | zero => exact ⟨ha, hne⟩
        | succ n => rw [itN_succ, st]; exact i2 n (by omega)
    · have := tree_down hc hr hcn (j + 1) hj
      rw [h2] at this
      exact this
/-- the table of a tree is valid -/
theorem tree_ok : tableOk w h b (treeTab w h b r) := by
  have dn := fun {v : Int} (hv : isN w h v) => (Int.toNat_of_nonneg (conn_all hc hr v hv)).symm
  have hcn := cnt_range w h
  refine ⟨treeTab_sized hc.1, fun a ha c hcl => ⟨fun _ => treeTab_self ha, fun hne => ?_⟩⟩
  have ha' : isN w h (a : Int) := ⟨by omega, by omega⟩
  have hc' : isN w h (c : Int) := ⟨by omega, by omega⟩
  have hne' : (a : Int) ≠ c := by omega
  obtain ⟨L, h1, h2⟩ := tree_up hc hr hc' _ ha' (dn ha')
  exact walk_ne (treeTab_self hcl) hne' ha' h1 fun n hn => ⟨(h2 n hn).1, (tree_step hc hr (h2 n hn).1 hc' (h2 n hn).2).1⟩
end
theorem repair_ok {w h : Int} {b : List Int} (hk : repairOk w h b = true) : classesOk w h b (repair w h b).1 (repair w h b).2 := by
  have hk : treeOk w h b (bestRoot w h b) := by simpa [repairOk] using hk
  have e : treeTable w h b (bestRoot w h b) = treeTab w h b (bestRoot w h b) := if_pos hk
  unfold repair
  rw [e]
  exact ⟨tree_ok hk.1 hk.2, tree_ok hk.1 hk.2⟩
end Go.Proofs.YtlbbalmeaedbdaaGreat.V
/-! Walks as lists of channels; the channels of a tree's table have ranks that grow; orders exist where ranks do. -/
set_option linter.all false
namespace Go.Proofs.YtlbbalmeaedbdaaGreat.V
open Go Go.VM Go.Proofs
set_option maxRecDepth 10000
/-- channel n of a walk -/
def chanT (w h : Int) (T : List Int) (to a : Int) (n : Nat) : Int := 4 * itN (nuT w h T to) n a + portOf w h T (itN (nuT w h T to) n a) to
theorem walkN_list (w h : Int) (b T : List Int) (to : Int) (h4 : portOf w h T to to = 4) : ∀ L F a out, L ≤ F → itN (nuT w h T to) L a = to → (∀ n, n < L → stepOk w h b T (itN (nuT w h T to) n a) to) → walkN w h b T to F a out = out ++ (List.range L).map (chanT w h T to a)
  | 0, F, a, out, _, e, _ => by
    have e : a = to := e
    subst e
    cases F with
    | zero => unfold walkN; rw [if_pos h4, if_pos rfl]; simp
    | succ F => unfold walkN; rw [if_pos h4, if_pos rfl]; simp
  | L + 1, F, a, out, hF, e, hs => by
    have s0 : stepOk w h b T a to := hs 0 (by omega)
    have hne : ¬ portOf w h T a to = 4 := fun k => by have := s0.1; unfold inR at this; omega
    cases F with
    | zero => omega
    | succ F =>
      unfold walkN
      rw [if_neg hne, if_pos s0]
      rw [walkN_list w h b T to h4 L F _ _ (by omega) (by have := e; rw [itN_succ] at this; exact this) fun n hn => by have := hs (n + 1) (by omega); rw [itN_succ] at this; exact this]
      rw [List.range_succ_eq_map, List.map_cons, List.map_map, List.append_assoc]
      congr 1
      rw [List.singleton_append]
      congr 1
      refine List.map_congr_left fun n _ => ?_
      show chanT w h T to (nuT w h T to a) n = chanT w h T to a (n + 1)
      unfold chanT
      rw [itN_succ]
/-- the walks of a valid table -/
theorem walk_list {w h : Int} {b T : List Int} (k : tableOk w h b T) {a t : Nat} (ha : a < (cnt w h).toNat) (ht : t < (cnt w h).toNat) (hne : a ≠ t) : ∃ L, walk w h b T a t = (List.range L).map (chanT w h T t a) ∧ 0 < L ∧ itN (nuT w h T t) L a = (t : Int) ∧ ∀ n, n < L → stepOk w h b T (itN (nuT w h T t) n a) t := by
  obtain ⟨L, h0, h1, h2⟩ := walkN_bound _ _ _ _ _ _ _ _ ((k.2 a ha t ht).2 hne)
  have h4 := (k.2 t ht t ht).1 rfl
  refine ⟨L, ?_, ?_, h1, h2⟩
  · unfold walk
    rw [walkN_list w h b T t h4 L _ a [] h0 h1 h2]
    rfl
  · cases L with
    | zero => have : (a : Int) = t := h1; omega
    | succ L => omega
/-- two channels one behind the other in a walk of a table -/
def Adj (w h : Int) (b T : List Int) (c d : Int) : Prop := ∃ (a t L n : Nat), a < (cnt w h).toNat ∧ t < (cnt w h).toNat ∧ a ≠ t ∧ itN (nuT w h T t) L a = (t : Int) ∧ (∀ m, m < L → stepOk w h b T (itN (nuT w h T t) m a) t) ∧ n + 1 < L ∧ c = chanT w h T t a n ∧ d = chanT w h T t a (n + 1)
/-- the rank of a channel of a tree: up to the root, then down -/
noncomputable def treeRank (w h : Int) (b : List Int) (r c : Int) : Int := if rd (depths w h b r) (next w h (c / 4) (c % 4)) < rd (depths w h b r) (c / 4) then 100 - rd (depths w h b r) (c / 4) else 200 + rd (depths w h b r) (next w h (c / 4) (c % 4))
section
variable {w h r : Int} {b : List Int} (hc : conn w h b) (hr : isN w h r)
include hc hr
theorem depth_le {a : Int} (ha : isN w h a) : 0 ≤ rd (depths w h b r) a ∧ rd (depths w h b r) a ≤ 16 := by
  have H : rootOk w h b r := ⟨hc.1, hr⟩
  have hcn := cnt_range w h
  have h0 := conn_all hc hr a ha
  obtain ⟨m, hm⟩ := Int.eq_ofNat_of_zero_le h0
  obtain ⟨a1, _, a3⟩ := anc_depth H m ha hm
  refine ⟨h0, ?_⟩
  have nd : (anc (parents w h b r) a).Nodup := by
    refine List.pairwise_iff_getElem.2 fun i j hi hj hij e => ?_
    have k1 := (a3 i hi).2
    have k2 := (a3 j hj).2
    rw [e, k2] at k1
    omega
  have := nodup_le (cnt w h).toNat _ nd fun x hx => by
    obtain ⟨i, hi, rfl⟩ := List.mem_iff_getElem.1 hx
    obtain ⟨k1, k2⟩ := (a3 i hi).1
    omega
  omega
theorem tree_adj {c d : Int} (k : Adj w h b (treeTab w h b r) c d) : treeRank w h b r c < treeRank w h b r d := by
  obtain ⟨a, t, L, n, ha, ht, hne, h1, h2, hn, rfl, rfl⟩ := k
  have H : rootOk w h b r := ⟨hc.1, hr⟩
  have hcn := cnt_range w h
  have ok := tree_ok hc hr
  have h4 := (ok.2 t ht t ht).1 rfl
  have nt : ∀ m, m < L → itN (nuT w h (treeTab w h b r) t) m a ≠ t := fun m hm e => by
    have := (h2 m hm).1
    rw [e, h4] at this
    unfold inR at this; omega
  have nn : ∀ m, m ≤ L → isN w h (itN (nuT w h (treeTab w h b r) t) m a) := fun m => by
    induction m with
    | zero => intro _; exact ⟨by show (0 : Int) ≤ a; omega, by show (a : Int) < cnt w h; omega⟩
    | succ m ih =>
      intro hm
      obtain ⟨k1, k2⟩ := h2 m (by omega)
      exact (step_next k1 k2).2.2
  have it : isN w h (t : Int) := ⟨by omega, by omega⟩
  have dn := fun {v : Int} (hv : isN w h v) => (Int.toNat_of_nonneg (conn_all hc hr v hv)).symm
  obtain ⟨_, _, c3⟩ := anc_depth H _ it (dn it)
  -- a step: up or down
  have stp : ∀ m, m < L → chanT w h (treeTab w h b r) t a m / 4 = itN (nuT w h (treeTab w h b r) t) m a ∧ next w h (chanT w h (treeTab w h b r) t a m / 4) (chanT w h (treeTab w h b r) t a m % 4) = itN (nuT w h (treeTab w h b r) t) (m + 1) a := fun m hm => by
    obtain ⟨k1, k2⟩ := h2 m hm
    obtain ⟨e1, e2, _⟩ := step_next k1 k2
    unfold chanT
    rw [e1, e2]
    exact ⟨rfl, rfl⟩
  obtain ⟨x, hx⟩ : ∃ x, x = itN (nuT w h (treeTab w h b r) t) n a := ⟨_, rfl⟩
  obtain ⟨y, hy⟩ : ∃ y, y = itN (nuT w h (treeTab w h b r) t) (n + 1) a := ⟨_, rfl⟩
  obtain ⟨z, hz⟩ : ∃ z, z = itN (nuT w h (treeTab w h b r) t) (n + 2) a := ⟨_, rfl⟩
  obtain ⟨f1, f2⟩ := stp n (by omega)
  obtain ⟨g1, g2⟩ := stp (n + 1) hn
  have nx := nn n (by omega)
  have ny := nn (n + 1) (by omega)
  have nz := nn (n + 2) (by omega)
  have tx := nt n (by omega)
  have ty := nt (n + 1) hn
  have sx := (tree_step hc hr nx it tx).2
  have sy := (tree_step hc hr ny it ty).2
  have exy : y = (treeNodes (parents w h b r) x t).getD 1 0 := by rw [hy, hx]; exact sx
  have eyz : z = (treeNodes (parents w h b r) y t).getD 1 0 := by rw [hz, hy]; exact sy
  rw [← hx] at f1 nx tx
  rw [← hy] at f2 g1 ny ty
  rw [← hz] at g2 nz
  obtain ⟨dx0, dx⟩ := depth_le hc hr nx
  obtain ⟨dy0, dy⟩ := depth_le hc hr ny
  obtain ⟨dz0, dz⟩ := depth_le hc hr nz
  unfold treeRank
  rw [f2, f1, g2, g1]
  -- what the next nodes' depths are
  have up : ∀ {u v : Int}, isN w h u → v = (treeNodes (parents w h b r) u t).getD 1 0 → (treeNodes (parents w h b r) u t).getD 1 0 = rd (parents w h b r) u → u ≠ r → rd (depths w h b r) v = rd (depths w h b r) u - 1 := fun {u v} hu ev e hur => by
    rcases tree_par hc hr hu with ⟨e1, _⟩ | ⟨p, _, e1, _, _, e2⟩
    · exact absurd e1 hur
    · rw [ev, e, e1]; exact e2
  rcases tree_next hc hr nx it tx with ⟨_, u2, u3⟩ | ⟨j, hj, u2, u3⟩
  · have ex := up nx exy u2 u3
    rw [if_pos (by omega)]
    rcases tree_next hc hr ny it ty with ⟨_, v2, v3⟩ | ⟨j, hj, v2, v3⟩
    · have ey := up ny eyz v2 v3
      rw [if_pos (by omega)]; omega
    · have k1 := (c3 (j + 1) hj).2
      have k2 := (c3 j (by omega)).2
      rw [v2] at k1
      rw [← v3, ← eyz] at k2
      rw [if_neg (by omega)]; omega
  · have k1 := (c3 (j + 1) hj).2
    have k2 := (c3 j (by omega)).2
    rw [u2] at k1
    have ey : y = (anc (parents w h b r) t)[j] := by rw [exy, u3]
    rw [← ey] at k2
    rw [if_neg (by omega)]
    have my : y ∈ anc (parents w h b r) t := by rw [ey]; exact List.getElem_mem _
    rcases tree_next hc hr ny it ty with ⟨v1, _, _⟩ | ⟨i, hi, v2, v3⟩
    · exact absurd my v1
    · have k3 := (c3 (i + 1) hi).2
      have k4 := (c3 i (by omega)).2
      rw [v2] at k3
      rw [← v3, ← eyz] at k4
      rw [if_neg (by omega)]; omega
end
end Go.Proofs.YtlbbalmeaedbdaaGreat.V
/-! Orders exist exactly where ranks grow; the dependencies of trees. -/
set_option linter.all false
namespace Go.Proofs.YtlbbalmeaedbdaaGreat.V
open Go Go.VM Go.Proofs
set_option maxRecDepth 10000
theorem gD {l : List Int} {i : Nat} (x : Int) (h : i < l.length) (c : Nat) : (l.set i x).getD c 0 = if c = i then x else l.getD c 0 := G_set x h c
theorem ordNext_some {ds : List (Nat × Nat)} {rk : List Int} {c : Nat} (h : ordNext ds rk = some c) : c < 128 ∧ ordFree ds rk c := by
  unfold ordNext at h
  exact ⟨List.mem_range.1 (List.mem_of_find?_eq_some h), by simpa using List.find?_some h⟩
theorem ordRun_facts {ds : List (Nat × Nat)} (hs : ∀ d ∈ ds, d.1 < 128 ∧ d.2 < 128) : ∀ {r : Nat} {rk : List Int}, r ≤ 128 → ordRun ds r = some rk → rk.length = 128 ∧ negs rk = 128 - r ∧ (∀ c, c < 128 → rk.getD c 0 < (r : Int)) ∧ ∀ d ∈ ds, 0 ≤ rk.getD d.2 0 → 0 ≤ rk.getD d.1 0 ∧ rk.getD d.1 0 < rk.getD d.2 0
  | 0, rk, _, h => by
    cases h
    have g : ∀ c, c < 128 → (List.replicate 128 (-1 : Int)).getD c 0 = -1 := fun c hc => by
      rw [List.getD_eq_getElem?_getD, List.getElem?_eq_getElem (by simpa using hc)]; simp only [List.getElem_replicate, Option.getD_some]
    refine ⟨by simp, ?_, fun c hc => by rw [g c hc]; omega, fun d hd h => ?_⟩
    · unfold negs
      rw [List.filter_eq_self.2]
      · simp
      · intro x hx
        rw [List.eq_of_mem_replicate hx]; decide
    · rw [g _ (hs d hd).2] at h; omega
  | r + 1, rk, hr, h => by
    unfold ordRun at h
    split at h
    · rename_i rk0 h0
      obtain ⟨i1, i2, i3, i4⟩ := ordRun_facts hs (by omega) h0
      split at h
      · rename_i c hc
        cases h
        obtain ⟨c1, c2, c3⟩ := ordNext_some hc
        have := negs_set rk0 c (r : Int) (by omega) c2 (by omega)
        refine ⟨by rw [List.length_set]; exact i1, by omega, fun k hk => ?_, fun d hd hp => ?_⟩
        · rw [gD _ (by omega)]
          split
          · omega
          · have := i3 k hk; omega
        · have h2 := hs d hd
          rw [gD _ (by omega)] at hp ⊢
          rw [gD _ (by omega)]
          by_cases e2 : d.2 = c
          · have k1 := c3 d hd e2
            have ne : d.1 ≠ c := fun e => k1 (by rw [e]; exact c2)
            rw [if_pos e2, if_neg ne]
            have := i3 d.1 h2.1
            omega
          · rw [if_neg e2] at hp ⊢
            obtain ⟨k1, k2⟩ := i4 d hd hp
            have ne : d.1 ≠ c := fun e => by rw [e] at k1; omega
            rw [if_neg ne]; exact ⟨k1, k2⟩
      · cases h
    · cases h
/-- where there is an order ranks grow -/
theorem rank_of {ds : List (Nat × Nat)} (hs : ∀ d ∈ ds, d.1 < 128 ∧ d.2 < 128) (h : orderOk ds) : ∃ φ : Nat → Int, ∀ d ∈ ds, φ d.1 < φ d.2 := by
  obtain ⟨rk, hr⟩ := Option.ne_none_iff_exists'.1 h
  obtain ⟨h1, h2, _, h4⟩ := ordRun_facts hs (Nat.le_refl _) hr
  refine ⟨fun c => rk.getD c 0, fun d hd => (h4 d hd ?_).2⟩
  rcases Int.lt_or_le (rk.getD d.2 0) 0 with k | k
  · exfalso
    have : rk.getD d.2 0 ∈ rk.filter fun x => decide (x < 0) := by
      refine List.mem_filter.2 ⟨?_, by simpa using k⟩
      rw [List.getD_eq_getElem?_getD, List.getElem?_eq_getElem (by have := (hs d hd).2; omega)]
      exact List.getElem_mem _
    have := List.length_pos_of_mem this
    unfold negs at h2; omega
  · exact k
/-- ranks grow along all keys -/
def Acyc (xs : List Int) : Prop := ∃ φ : Nat → Int, ∀ x ∈ xs, φ (x / 1024).toNat < φ (x % 1024).toNat
theorem order_iff {xs : List Int} (hs : ∀ x ∈ xs, x / 1024 ≤ 127 ∧ x % 1024 ≤ 127) : orderOk (prs xs) ↔ Acyc xs := by
  have hb : ∀ d ∈ prs xs, d.1 < 128 ∧ d.2 < 128 := fun d hd => by
    obtain ⟨x, hx, rfl⟩ := List.mem_map.1 hd
    have := hs x hx
    simp only
    omega
  constructor
  · intro h
    obtain ⟨φ, hφ⟩ := rank_of hb h
    exact ⟨φ, fun x hx => hφ _ (List.mem_map_of_mem hx)⟩
  · rintro ⟨φ, hφ⟩
    refine order_of (fun d hd => (hb d hd).1) φ fun d hd => ?_
    obtain ⟨x, hx, rfl⟩ := List.mem_map.1 hd
    exact hφ x hx
theorem mem_deps {w h : Int} {b T : List Int} (k : tableOk w h b T) {x : Int} : x ∈ depsOf w h b T ↔ ∃ a t : Nat, a < (cnt w h).toNat ∧ t < (cnt w h).toNat ∧ a ≠ t ∧ ∃ n, n + 1 < (walk w h b T a t).length ∧ x = key (G (walk w h b T a t) n) (G (walk w h b T a t) (n + 1)) := by
  unfold depsOf
  rw [if_pos k, mem_arrK]
  constructor
  · intro hx
    obtain ⟨p, hp, hx⟩ := List.mem_flatMap.1 hx
    obtain ⟨h1, h2, h3⟩ := mem_allPairs (a := p.1) (c := p.2) |>.1 hp
    exact ⟨p.1, p.2, h1, h2, h3, mem_adjK.1 hx⟩
  · rintro ⟨a, t, h1, h2, h3, hx⟩
    exact List.mem_flatMap.2 ⟨(a, t), mem_allPairs.2 ⟨h1, h2, h3⟩, mem_adjK.2 hx⟩
theorem key_div {a b : Int} (h : 0 ≤ b ∧ b < 1024) : key a b / 1024 = a ∧ key a b % 1024 = b := by unfold key; omega
theorem chan_G {w h : Int} {T : List Int} {to a : Int} {L n : Nat} (hn : n < L) : G ((List.range L).map (chanT w h T to a)) n = chanT w h T to a n := by
  rw [G_get (by simpa using hn)]; simp
section
variable {w h r : Int} {b : List Int} (hc : conn w h b) (hr : isN w h r)
include hc hr
theorem tree_acyc : Acyc (depsOf w h b (treeTab w h b r)) := by
  refine ⟨fun c => treeRank w h b r c, fun x hx => ?_⟩
  have ok := tree_ok hc hr
  have sm := depsOf_small x hx
  obtain ⟨a, t, h1, h2, h3, n, h4, rfl⟩ := (mem_deps ok).1 hx
  obtain ⟨L, e, h5, h6, h7⟩ := walk_list ok h1 h2 h3
  rw [e] at h4 sm ⊢
  simp at h4
  rw [chan_G (by omega), chan_G (by omega)] at sm ⊢
  obtain ⟨A, hA⟩ : ∃ A, A = chanT w h (treeTab w h b r) t a n := ⟨_, rfl⟩
  obtain ⟨B, hB⟩ : ∃ B, B = chanT w h (treeTab w h b r) t a (n + 1) := ⟨_, rfl⟩
  have := tree_adj hc hr ⟨a, t, L, n, h1, h2, h3, h6, h7, h4, hA, hB⟩
  have kb := walk_chan (b := b) (T := treeTab w h b r) (isN_nat h1) (to := t) B (by
    rw [e, hB]; exact List.mem_map_of_mem (List.mem_range.2 h4))
  rw [← hA, ← hB] at sm ⊢
  obtain ⟨k1, k2⟩ := key_div (a := A) (b := B) (by omega)
  rw [k1, k2] at sm ⊢
  simpa [Int.toNat_of_nonneg sm.1.1, Int.toNat_of_nonneg sm.2.1] using this
theorem tree_safe : dOk (depsOf w h b (treeTab w h b r)) ∧ orderOk (prs (depsOf w h b (treeTab w h b r))) :=
  ⟨depsOf_ok, (order_iff fun x hx => by have := depsOf_small x hx; omega).2 (tree_acyc hc hr)⟩
end
/-- members of the dependencies of two classes -/
theorem mem_classDeps {w h : Int} {b A B : List Int} (k : classesOk w h b A B) {x : Int} : x ∈ classDeps w h b A B ↔ x ∈ depsOf w h b A ∨ ∃ y ∈ depsOf w h b B, x = y + 1025 * 64 := by
  unfold classDeps
  rw [if_pos k]
  have s1 : dOk (shiftK 64 (depsOf w h b B)) := by
    refine dOk_of ?_ fun x hx => ?_
    · unfold shiftK
      rw [List.pairwise_map]
      exact depsOf_asc.imp fun h => by omega
    · obtain ⟨y, hy, rfl⟩ := List.mem_map.1 hx
      have := depsOf_small y hy
      omega
  have s2 : shiftOf 64 (depsOf w h b B) = shiftK 64 (depsOf w h b B) := by
    unfold shiftOf; rw [if_pos depsOf_ok, if_pos s1]
  rw [s2]
  unfold mergeOf
  rw [if_pos depsOf_ok, if_pos s1, mem_arrK, List.mem_append]
  refine or_congr Iff.rfl ⟨fun hx => ?_, fun ⟨y, hy, e⟩ => ?_⟩
  · obtain ⟨y, hy, rfl⟩ := List.mem_map.1 hx
    exact ⟨y, hy, rfl⟩
  · rw [e]; exact List.mem_map_of_mem (f := fun z => z + 1025 * 64) hy
theorem classDeps_small {w h : Int} {b A B : List Int} (k : classesOk w h b A B) : ∀ x ∈ classDeps w h b A B, (0 ≤ x / 1024 ∧ x / 1024 ≤ 127) ∧ 0 ≤ x % 1024 ∧ x % 1024 ≤ 127 := fun x hx => by
  rcases (mem_classDeps k).1 hx with hx | ⟨y, hy, rfl⟩
  · have := depsOf_small x hx; omega
  · have := depsOf_small y hy; omega
theorem classDeps_ok {w h : Int} {b A B : List Int} (k : classesOk w h b A B) : dOk (classDeps w h b A B) := by
  refine dOk_of ?_ fun x hx => by have := classDeps_small k x hx; omega
  unfold classDeps
  rw [if_pos k]
  unfold mergeOf
  repeat' split
  · exact arrK_asc _
  · exact List.Pairwise.nil
  · exact List.Pairwise.nil
/-- two classes are safe if both tables are -/
theorem class_acyc {w h : Int} {b A B : List Int} (k : classesOk w h b A B) (hA : Acyc (depsOf w h b A)) (hB : Acyc (depsOf w h b B)) : Acyc (classDeps w h b A B) := by
  obtain ⟨φ, hφ⟩ := hA
  obtain ⟨ψ, hψ⟩ := hB
  refine ⟨fun c => if c < 64 then φ c else ψ (c - 64), fun x hx => ?_⟩
  rcases (mem_classDeps k).1 hx with hx | ⟨y, hy, rfl⟩
  · have h1 := depsOf_small x hx
    have := hφ x hx
    simp only
    rw [if_pos (by omega), if_pos (by omega)]; exact this
  · have h1 := depsOf_small y hy
    have := hψ y hy
    simp only
    rw [if_neg (by omega), if_neg (by omega), show ((y + 1025 * 64) / 1024).toNat - 64 = (y / 1024).toNat by omega, show ((y + 1025 * 64) % 1024).toNat - 64 = (y % 1024).toNat by omega]
    exact this
theorem class_safe {w h : Int} {b A B : List Int} (k : classesOk w h b A B) (hA : Acyc (depsOf w h b A)) (hB : Acyc (depsOf w h b B)) : dOk (classDeps w h b A B) ∧ orderOk (prs (classDeps w h b A B)) :=
  ⟨classDeps_ok k, (order_iff fun x hx => by have := classDeps_small k x hx; omega).2 (class_acyc k hA hB)⟩
end Go.Proofs.YtlbbalmeaedbdaaGreat.V
/-! The best root is a node; detours are no less than none. -/
set_option linter.all false
namespace Go.Proofs.YtlbbalmeaedbdaaGreat.V
open Go Go.VM Go.Proofs
set_option maxRecDepth 10000
theorem fold_in {w h : Int} {b : List Int} : ∀ (l : List Nat) (best : Int), l.foldl (better w h b) best = best ∨ ∃ k ∈ l, l.foldl (better w h b) best = (k : Int)
  | [], best => .inl rfl
  | a :: l, best => by
    rw [List.foldl_cons]
    rcases fold_in l (better w h b best a) with e | ⟨k, hk, e⟩
    · rw [e]
      unfold better
      split
      · exact .inr ⟨a, by simp, rfl⟩
      · exact .inl rfl
    · exact .inr ⟨k, List.mem_cons_of_mem _ hk, e⟩
theorem best_isN {w h : Int} {b : List Int} (hc : conn w h b) : isN w h (bestRoot w h b) := by
  have hg : okG w h := hc.1.2
  have hcn := cnt_range w h
  have h1 : 1 ≤ cnt w h := by unfold cnt; rw [if_pos hg]; have := mul_small hg; omega
  unfold bestRoot
  rw [if_pos hc]
  rcases fold_in (w := w) (h := h) (b := b) (List.range (cnt w h).toNat) 0 with e | ⟨k, hk, e⟩
  · rw [e]; exact ⟨by omega, by omega⟩
  · rw [e]; have := List.mem_range.1 hk; exact ⟨by omega, by omega⟩
theorem best_tree {w h : Int} {b : List Int} (hc : conn w h b) : treeOk w h b (bestRoot w h b) := ⟨hc, best_isN hc⟩
theorem walk_dist {w h : Int} {b T : List Int} (k : tableOk w h b T) {a t : Nat} (ha : a < (cnt w h).toNat) (ht : t < (cnt w h).toNat) (hne : a ≠ t) : dist w h a t ≤ (walk w h b T a t).length := by
  obtain ⟨L, e, h0, h1, h2⟩ := walk_list k ha ht hne
  rw [e]
  have hcn := cnt_range w h
  have ia : isN w h a := ⟨by omega, by omega⟩
  have st : ∀ n, n ≤ L → isN w h (itN (nuT w h T t) n a) ∧ dist w h a (itN (nuT w h T t) n a) ≤ n := fun n => by
    induction n with
    | zero => intro _; exact ⟨ia, by show dist w h a a ≤ _; rw [dist_self ia]; omega⟩
    | succ n ih =>
      intro hn
      obtain ⟨i1, i2⟩ := ih (by omega)
      have s := h2 n (by omega)
      have i3 := (step_next s.1 s.2).2.2
      obtain ⟨p, hp, ep⟩ : ∃ p : Nat, p < 4 ∧ portOf w h T (itN (nuT w h T t) n a) t = (p : Int) := ⟨(portOf w h T (itN (nuT w h T t) n a) t).toNat, by have := s.1; unfold inR at this; omega, by have := s.1; unfold inR at this; omega⟩
      have e1 : itN (nuT w h T t) (n + 1) a = next w h (itN (nuT w h T t) n a) p := by
        show next w h (itN (nuT w h T t) n a) (portOf w h T (itN (nuT w h T t) n a) t) = _
        rw [ep]
      rw [ep] at i3
      rw [e1]
      have d1 := (dist_link hp i1 i3.1).1
      have d2 := dist_tri ia i1 i3
      exact ⟨i3, by omega⟩
  have := (st L (Nat.le_refl _)).2
  rw [h1] at this
  simpa using this
theorem pairSum_range {f : Nat → Nat → Int} : ∀ l : List (Nat × Nat), (∀ p ∈ l, 0 ≤ f p.1 p.2 ∧ f p.1 p.2 ≤ 1000) → 0 ≤ pairSum f l ∧ pairSum f l ≤ 1000 * l.length
  | [], _ => by simp [pairSum]
  | p :: l, h => by
    have h1 := h p (by simp)
    have h2 := pairSum_range l fun q hq => h q (List.mem_cons_of_mem _ hq)
    have e : pairSum f (p :: l) = f p.1 p.2 + pairSum f l := by simp [pairSum]
    rw [e]
    simp only [List.length_cons]
    omega
theorem detour_pos {w h : Int} {b : List Int} (hc : conn w h b) : 0 ≤ detour w h b := by
  have ok := best_tree hc
  unfold detour
  rw [if_pos ok]
  have hcn := cnt_range w h
  have ht := tree_ok ok.1 ok.2
  have k := pairSum_range (f := extra w h b (treeTab w h b (bestRoot w h b))) (allPairs (cnt w h).toNat (cnt w h).toNat) fun p hp => by
    obtain ⟨h1, h2, h3⟩ := (mem_allPairs (a := p.1) (c := p.2)).1 hp
    have d := walk_dist ht h1 h2 h3
    have l := walk_lenE w h b (treeTab w h b (bestRoot w h b)) p.1 p.2
    have d0 : 0 ≤ dist w h p.1 p.2 := by
      rw [dist, if_pos ⟨isN_nat h1, isN_nat h2⟩]; omega
    unfold extra
    omega
  have h4 := allPairs_len (cnt w h).toNat (cnt w h).toNat
  have h5 : (cnt w h).toNat * (cnt w h).toNat ≤ 16 * 16 := Nat.mul_le_mul (by omega) (by omega)
  rw [w64 (by omega) (by omega)]
  exact k.1
end Go.Proofs.YtlbbalmeaedbdaaGreat.V
/-! The law FnRepair. -/
set_option linter.all false
namespace Go.Proofs.YtlbbalmeaedbdaaGreat.V
open Go Go.VM Go.Proofs
set_option maxRecDepth 10000
variable {frz : Nat} {H : Heap}
theorem law_FnRepair_w {a0 : List Int} {u0 : Value} (s0 : IsS (Kn.int .u8) H u0 a0)
    (w0 : a0.length ≤ maxLen ∧ ∀ x1 ∈ a0, (Lit.int .u8 x1).wf = true) :
    wp (vcall C frz 4 [u0] H) (fun r _ => r = .bool true) := by
  have r0 := IsS_bytes s0
  rw [vcall_go (fn := Tryz.f4) Tryz.func4 rfl (by kernel_rfl) rfl]
  simp [big_c _ _ r0]
  refine wp_dec ?_ ?_ <;> intro g0
  · simp
  · simp
    refine wp_thn (drawDamaged_w u0 a0 r0 (by omega)) ?_
    rintro _ H1 ⟨v, w, h, b, rfl, hm, om, nm, c1⟩
    have one1 := And.intro om.rd.one' om.rd.cells
    have hlb := brk_len hm
    have cn1 := c1.1
    have b2 : (H1 ++ [⟨[.int .i64 w, .int .i64 h, v], 0, 28⟩])[H1.length]? = some ⟨[.int .i64 w, .int .i64 h, v], 0, 28⟩ := by simp
    have om2 := om.app (L := [⟨[.int .i64 w, .int .i64 h, v], 0, 28⟩])
    simp [VM.look, one1, cn1]
    refine wp_thn (repair_w w h v b om2.rd.isI (by omega)) ?_
    rintro _ H3 ⟨_, rfl, x, rfl, ox, c3, n3, _⟩
    have b3 := box_chg b2 c3 (by simp)
    have om3 := om2.chg c3 (by simp)
    have l3 : H.length ≤ H3.length := by have := c3.1; simp at this; omega
    have ox1 : Ow Fl.int 3 H3 x.1 (repair w h b).1 := ox.1.1
    have ox2 : Ow Fl.int 3 H3 x.2 (repair w h b).2 := ox.2.1
    have onex := And.intro ox1.rd.one' ox1.rd.cells
    have onex2 := And.intro ox2.rd.one' ox2.rd.cells
    obtain ⟨K, hK⟩ : ∃ K, K = H3 ++ [⟨[x.1, x.2], 0, 43⟩] := ⟨_, rfl⟩
    have cK : Chg H3 K [] := by rw [hK]; exact Chg.app _
    have b4 := box_chg b3 cK (by simp)
    have bT : K[H3.length]? = some ⟨[x.1, x.2], 0, 43⟩ := by rw [hK]; simp
    have om4 := om3.chg cK (by simp)
    have ox14 := ox1.chg cK (by simp)
    have ox24 := ox2.chg cK (by simp)
    have ic := fun F => isConnected_c (frz := F) (H := K) w h v b om4.rd.isI (by omega)
    have br := fun F => bestRoot_c (frz := F) (H := K) w h v b om4.rd.isI (by omega)
    have dc := fun F => detour_c (frz := F) (H := K) w h v b om4.rd.isI (by omega)
    have ck := fun F => classesOk_c (frz := F) (H := K) w h v x.1 x.2 b _ _ om4.rd.isI ox14.rd.isI ox24.rd.isI (by omega)
    simp [dClasses_val, VM.look, b3, onex, onex2, one1, l3]
    rw [← hK]
    clear hK
    simp [VM.look, b4, bT, onex, onex2, one1, ic]
    refine wp_dec ?_ ?_ <;> intro g1
    · have rk : repairOk w h b = true := by have := best_tree g1; simpa [repairOk] using this
      have ko := repair_ok rk
      have dp := detour_pos g1
      have e : treeTable w h b (bestRoot w h b) = treeTab w h b (bestRoot w h b) := if_pos (best_tree g1)
      have sf := class_safe ko (by unfold repair; rw [e]; exact tree_acyc g1 (best_isN g1)) (by unfold repair; rw [e]; exact tree_acyc g1 (best_isN g1))
      simp [VM.look, b4, bT, onex, onex2, one1, rk, ck, ko]
      refine wp_thn (checkClasses_w w h v x.1 x.2 b _ _ om4.rd.isI ox14.rd.isI ox24.rd.isI (by omega) ko sf) ?_
      rintro _ H5 ⟨z, y, rk, cy, rfl, rz, ry, c5, nz, ny⟩
      have b5 := box_chg b4 c5 (by simp)
      have om5 := om4.chg c5 (by simp)
      have dc := fun F => detour_c (frz := F) (H := H5) w h v b om5.rd.isI (by omega)
      simp [VM.look, b5, one1, dc, dp]
    · have rk : repairOk w h b = false := by simp [repairOk, treeOk, g1]
      have e1 : bestRoot w h b = -1 := if_neg g1
      have e2 : detour w h b = -1 := if_neg (fun hh => g1 hh.1)
      simp [VM.look, b4, bT, one1, rk, br, dc, e1, e2]
theorem law_FnRepair {a0 : List Int} {u0 : Value} (s0 : IsS (Kn.int .u8) H u0 a0)
    (w0 : a0.length ≤ maxLen ∧ ∀ x1 ∈ a0, (Lit.int .u8 x1).wf = true) :
    vcall C frz 4 [u0] H = some (.bool true, H) :=
  (law_FnRepair_w s0 w0).exact (by simp) rfl
end Go.Proofs.YtlbbalmeaedbdaaGreat.V
