import Derived.Test.YtnakhkfgheapoaaVN4
/-! TreeNodes of the reference. -/
set_option linter.all false
namespace Go.Proofs.Ytnakhkfgheapoaa.V
open Go Go.VM Go.Proofs
set_option maxRecDepth 10000
variable {frz : Nat} {H : Heap}
theorem sTreeNodes_w (v : Value) (P : List Int) (a b : Int) (hI : IsI H v P) (hl : P.length ≤ 268435456) :
   wp (vcall C frz 15 [v, .int .i64 a, .int .i64 b] H) (Made Fl.int 3 H (treeNodes P a b)) := by
  rw [vcall_go (fn := Try.f15) Try.func15 rfl (by kernel_rfl) rfl]
  simp [sCommon_c _ _ _ _ (hI.app _) (show P.length ≤ 1073741823 by omega)]
  refine wp_dec ?_ ?_ <;> intro h0
  · simp [treeNodes, h0]
    exact ⟨_, rfl, Ow.new0 rfl rfl rfl rfl, by simp⟩
  · simp
    have hm : P.length ≤ 1073741823 := by omega
    refine wp_thn (sAnc_w v P a (hI.app _) hm) ?_
    rintro va _ ⟨L1, rfl, oa, na⟩
    simp
    refine wp_thn (sAnc_w v P b (hI.app _) hm) ?_
    rintro vb _ ⟨L2, rfl, ob, nb⟩
    have hla := anc_len P a
    have hlb := anc_len P b
    have oa := oa.rd.isI.app L2
    have ob := ob.rd.isI
    simp only [List.append_assoc, List.singleton_append, List.length_append, List.length_cons, List.length_nil, List.cons_append, List.nil_append] at oa ob na nb
    obtain ⟨ma, mb⟩ := common_mem (P := P) (a := a) (b := b) (by omega)
    have fa := fun (r : Row) (G : Heap) => (swapI r oa (fun i hi => na i hi)).app G
    have fb := fun (r : Row) (G : Heap) => (swapI r ob (fun i hi => by have := nb i hi; omega)).app G
    simp only [List.append_assoc, List.cons_append, List.nil_append] at fa fb
    clear oa ob na nb
    generalize hA : anc P a = A at *
    generalize hB : anc P b = B at *
    generalize hT : common P a b = top at *
    have ia := List.idxOf_lt_length_iff.2 ma
    have ib := List.idxOf_lt_length_iff.2 mb
    have ga := (getD_get _ _ ia).trans (idx_get ma)
    have gb := (getD_get _ _ ib).trans (idx_get mb)
    have na : ∀ j (h : j < A.length), A[j] = top → A.idxOf top ≤ j := fun j h => idx_at h
    have nb : ∀ j (h : j < B.length), (B[j] = top → B.idxOf top ≤ j) ∧ (j < B.idxOf top → B[j] ≠ top) := fun j h => ⟨idx_at h, fun h1 => idx_ne h1 h⟩
    have tn : treeNodes P a b = A.take (A.idxOf top + 1) ++ (B.take (B.idxOf top)).reverse := by rw [treeNodes, hT, hA, hB, if_neg h0]
    rw [tn]
    clear tn hA hB hT hI
    generalize hka : A.idxOf top = ka at *
    generalize hkb : B.idxOf top = kb at *
    have la := fun (r : Row) (G : Heap) => (fa r G).len (P := Try.prog) (ty := 22) (by simp)
    have lb := fun (r : Row) (G : Heap) => (fb r G).len (P := Try.prog) (ty := 22) (by simp)
    have xa := fun (r : Row) (G : Heap) (i : Nat) (hi : i < A.length) => (fa r G).idx (P := Try.prog) (ty := 22) (e := 3) (by simp) (i := (i : Int)) (by omega) (by omega)
    have xb := fun (r : Row) (G : Heap) (i : Nat) (hi : i < B.length) => (fb r G).idx (P := Try.prog) (ty := 22) (e := 3) (by simp) (i := (i : Int)) (by omega) (by omega)
    have da := fun (r : Row) (G : Heap) (i : Nat) (hi : i < A.length) => ((fa r G).load (P := Try.prog) (e := 3) (by simp) hi).trans (by rw [getD_get _ _ hi])
    have db := fun (r : Row) (G : Heap) (i : Nat) (hi : i < B.length) => ((fb r G).load (P := Try.prog) (e := 3) (by simp) hi).trans (by rw [getD_get _ _ hi])
    simp only [Int.toNat_natCast] at xa xb
    simp
    -- the way up
    refine wp_inv (fun n t H' => ∃ (i g : Nat) (G : Heap) (o : List Int), n = ka - i ∧ i ≤ ka ∧ o = A.take i ∧ t 7 = .slice (some ⟨H.length, 0, some g⟩) o.length 0 ∧ t 8 = .int .i64 top ∧ t 9 = va ∧ t 10 = vb ∧ t 11 = .int .i64 i ∧
      H' = H ++ ⟨o.map (.int .i64), g, 3⟩ :: (L1 ++ (L2 ++ G))) ?_ (n := ka) ⟨0, 0, [], [], by simp⟩
    rintro n t H' ⟨i, g, G, o, rfl, hi, ho, h7, h8, h9, h10, h11, rfl⟩ ih
    have hil : i < A.length := by omega
    have hol : o.length = i := by rw [ho]; simp; omega
    have q1 := fun r G => xa r G i hil
    have q2 := fun r G => da r G i hil
    simp [h7, h8, h9, h10, h11, q1, q2]
    refine wp_dec ?_ ?_ <;> intro h6
    · have hik : i = ka := by
        have := na _ hil h6
        omega
      subst hik
      simp [h7, h8, h9, h10, h11]
      refine wp_need (by omega) ?_
      simp [h7, h8, h9, h10, h11, lb]
      have e1 : IntKind.i64.wrap ((B.length : Int) - 1) = (B.length : Int) - 1 := w64 (by omega) (by omega)
      have et : A.take (i + 1) = A.take i ++ [top] := by rw [List.take_succ_eq_append_getElem hil, h6]
      -- the way down
      refine wp_inv (fun n t H' => ∃ (j g : Nat) (G : Heap) (o : List Int), n = j ∧ j ≤ B.length ∧ o = A.take (i + 1) ++ ((B.take kb).drop j).reverse ∧ t 7 = .slice (some ⟨H.length, 0, some g⟩) o.length 0 ∧ t 8 = .int .i64 top ∧ t 10 = vb ∧ t 12 = .int .i64 (j - 1 : Int) ∧
        H' = H ++ ⟨o.map (.int .i64), g, 3⟩ :: (L1 ++ (L2 ++ G))) ?_ (n := B.length) ⟨B.length, g + 1, G ++ [⟨[.int .i64 top], 0, 3⟩], _, rfl, by omega, rfl, ?_, by simp [h8], by simp [h10], by simp [e1], ?_⟩
      · clear h7 h8 h9 h10 h11 ih
        clear ho hol
        rintro n t H' ⟨j, g, G, o, rfl, hj, ho, h7, h8, h10, h12, rfl⟩ ih
        simp [h7, h8, h10, h12]
        refine wp_dec ?_ ?_ <;> intro hj0
        · obtain ⟨j', rfl⟩ : ∃ j', n = j' + 1 := ⟨n - 1, by omega⟩
          have ej : (((j' + 1 : Nat) : Int) - 1) = j' := by omega
          rw [ej] at h12
          simp [h7, h8, h10, h12]
          refine wp_inv (fun m t H' => ∃ (k : Nat), m = j' + 1 - k ∧ k ≤ j' + 1 ∧ t 7 = .slice (some ⟨H.length, 0, some g⟩) o.length 0 ∧ t 8 = .int .i64 top ∧ t 10 = vb ∧ t 12 = .int .i64 j' ∧ t 13 = .bool (decide (k ≤ kb)) ∧ t 14 = .int .i64 k ∧
            H' = H ++ ⟨o.map (.int .i64), g, 3⟩ :: (L1 ++ (L2 ++ G))) ?_ (n := j' + 1) ⟨0, by simp [h7, h8, h10, h12]⟩
          clear h7 h8 h10 h12
          rintro m t H' ⟨k, rfl, hk, h7, h8, h10, h12, h13, h14, rfl⟩ ih2
          simp [h7, h8, h10, h12, h13, h14]
          refine wp_dec ?_ ?_ <;> intro hkj
          · have hkl : k < B.length := by omega
            have q1 := fun r G => xb r G k hkl
            have q2 := fun r G => db r G k hkl
            simp [h7, h8, h10, h12, h13, h14]
            refine wpg_dec ?_ ?_ <;> intro hkb
            · simp [h7, h8, h10, h12, h13, h14, hkb, q1, q2]
              refine ih2 (j' + 1 - (k + 1)) _ _ ⟨k + 1, rfl, by omega, by simp [h7], by simp [h8], by simp [h10], by simp [h12], ?_, ?_, by simp⟩ (by omega)
              · have e : (k + 1 ≤ kb) ↔ ¬ B[k] = top := ⟨fun hh => (nb k hkl).2 (by omega), fun hh => by
                  by_cases hlt : k + 1 ≤ kb
                  · exact hlt
                  · have : kb = k := by omega
                    subst this; rw [getD_get _ _ hkl] at gb; exact absurd gb hh⟩
                simp [e]
              · simp; rw [w64 (by omega) (by omega)]
            · simp [h7, h8, h10, h12, h13, h14, hkb]
              refine ih2 (j' + 1 - (k + 1)) _ _ ⟨k + 1, rfl, by omega, by simp [h7], by simp [h8], by simp [h10], by simp [h12], ?_, ?_, by simp⟩ (by omega)
              · have e : ¬ (k + 1 ≤ kb) := by omega
                simp [e]
              · simp; rw [w64 (by omega) (by omega)]
          · have : k = j' + 1 := by omega
            subst this
            simp [h7, h8, h10, h12, h13, h14]
            refine wp_dec ?_ ?_ <;> intro hkb
            · have hjl : j' < B.length := by omega
              have q1 := fun r G => xb r G j' hjl
              have q2 := fun r G => db r G j' hjl
              have hol : o.length ≤ 536870912 := by rw [ho]; simp; omega
              simp [h7, h8, h10, h12, h13, h14, hkb, q1, q2]
              refine wp_need (by omega) ?_
              refine ih j' _ _ ⟨j', g + 1, G ++ [⟨[.int .i64 B[j']], 0, 3⟩], o ++ [B[j']], rfl, by omega, ?_, by simp, by simp [h8], by simp [h10], ?_, by simp⟩ (by omega)
              · rw [ho, List.append_assoc]
                congr 1
                rw [List.drop_eq_getElem_cons (i := j') (by simp; omega)]
                simp
              · simp; rw [w64 (by omega) (by omega)]
            · simp [h7, h8, h10, h12, h13, h14, hkb]
              refine ih j' _ _ ⟨j', g, G, o, rfl, by omega, ?_, by simp [h7], by simp [h8], by simp [h10], ?_, by simp⟩ (by omega)
              · rw [ho]
                congr 2
                rw [List.drop_of_length_le (by simp; omega), List.drop_of_length_le (by simp; omega)]
              · simp; rw [w64 (by omega) (by omega)]
        · have : n = 0 := by omega
          subst this
          simp [h7, h8, h10, h12]
          rw [List.drop_zero] at ho
          rw [← ho]
          exact ⟨_, rfl, Ow.new0 rfl (cellsOf_int o).symm (by simp) rfl, by simp⟩
      · simp [et, ← ho]; omega
      · simp [et, ← ho]; omega
    · have hik : i ≠ ka := fun hh => h6 (by subst hh; rwa [getD_get _ _ hil] at ga)
      simp [h7, h8, h9, h10, h11, q1, q2]
      refine wp_need (by omega) ?_
      refine ih (ka - (i + 1)) _ _ ⟨i + 1, g + 1, G ++ [⟨[.int .i64 A[i]], 0, 3⟩], o ++ [A[i]], rfl, by omega, ?_, by simp, by simp [h8], by simp [h9], by simp [h10], ?_, by simp⟩ (by omega)
      · rw [List.take_succ_eq_append_getElem hil, ho]
      · simp; rw [w64 (by omega) (by omega)]
end Go.Proofs.Ytnakhkfgheapoaa.V
