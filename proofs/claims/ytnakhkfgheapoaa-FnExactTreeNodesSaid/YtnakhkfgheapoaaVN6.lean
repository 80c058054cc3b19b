import Derived.Test.YtnakhkfgheapoaaVN5
import Derived.Test.YtnakhkfgheapoaaVD1
/-! TreeNodes as contracts on data. -/
set_option linter.all false
namespace Go.Proofs.Ytnakhkfgheapoaa.V
open Go Go.VM Go.Proofs
variable {frz : Nat} {H : Heap}
theorem made_d {α : Type} {D : Fl α} {e : TypeId} {n : Nat} {xs : List α} {r : Value} {H' : Heap} (h : Made D e H xs r H') (hl : xs.length ≤ n) : (dFlat D e n).Made H xs r H' := by
  obtain ⟨L, rfl, o, k⟩ := h
  exact ⟨r, rfl, ⟨o, hl⟩, Chg.app _, k, ids_nodup r⟩
theorem treeNodes_len (P : List Int) (a b : Int) : (treeNodes P a b).length ≤ P.length + P.length := by
  have h1 := anc_len P a
  have h2 := anc_len P b
  unfold treeNodes
  split
  · simp
  · simp; omega
theorem treeNodes_d {v : Value} {P : List Int} {a b : Int} (h : dIntS.Ow H v P) (hl : P.length ≤ 268435456) : wp (vcall C frz 17 [v, .int .i64 a, .int .i64 b] H) (dIntS.Made H (treeNodes P a b)) :=
  (treeNodes_w v P a b h.1.rd.isI (by omega)).mono fun _ _ k => made_d k (by have := treeNodes_len P a b; omega)
theorem sTreeNodes_d {v : Value} {P : List Int} {a b : Int} (h : dIntS.Ow H v P) (hl : P.length ≤ 268435456) : wp (vcall C frz 15 [v, .int .i64 a, .int .i64 b] H) (dIntS.Made H (treeNodes P a b)) :=
  (sTreeNodes_w v P a b h.1.rd.isI (by omega)).mono fun _ _ k => made_d k (by have := treeNodes_len P a b; omega)
end Go.Proofs.Ytnakhkfgheapoaa.V
