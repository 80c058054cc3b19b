import Derived.Test.YtnakhkfgheapoaaVM23
/-! What a call of mode 0 that returns no rows leaves. -/
set_option linter.all false
namespace Go.VM
open Go
variable {P : Program} {H H' H'' L : Heap} {v w x y : Value} {t t' : Env} {C : Ctx} {F : Frm} {Q Q' : Value → Heap → Prop} {r : Option (Value × Heap)} {d : Option Tmp} {k k1 k2 : List Itm} {frz g : Nat} {l : List Value}

def plain : Value → Bool
  | .int _ _ | .bool _ | .string _ => true
  | _ => false
theorem packVal_plain {n : Nat} {v : Value} {ids : List Nat} (h : packVal n H w [] = some (v, ids)) (hv : plain v = true) : ids = [] := by
  unfold packVal at h
  split at h
  · split at h
    · cases h; simp [plain] at hv
    · cases h
  · unfold packCell at h
    split at h
    · split at h
      · cases h; simp [plain] at hv
      · split at h
        · split at h
          · cases h
          · cases h; simp [plain] at hv
        · cases h
    · split at h
      · cases h; simp [plain] at hv
      · split at h
        · split at h
          · cases h
          · cases h; simp [plain] at hv
        · cases h
    · cases h
    · cases h
    · split at h
      · cases h; simp [plain] at hv
      · cases h
    · cases h; rfl
theorem vfinish_plain {fn : Func} (hm : C.mode g = 0) (h : vfinish C g fn H t' H' = some (v, H'')) (hv : plain v = true) : H'' = H := by
  unfold vfinish at h
  split at h
  · rw [if_pos hm] at h
    split at h
    · rename_i vs _ a ids hp
      cases h
      have : ids = [] := by
        unfold pack at hp
        split at hp
        · split at hp
          · cases hp; simp [plain] at hv
          · split at hp
            · cases hp; simp [plain] at hv
            · cases hp
        · exact packVal_plain hp hv
      subst this; simp [packed]
    · cases h
  · cases h
theorem call_plain (hm : C.mode g = 0) (h : vcall C frz g l H = some (v, H'')) (hv : plain v = true) : H'' = H := by
  rw [vcall_eq] at h
  unfold vcallWith at h
  split at h
  · split at h
    · split at h
      · split at h
        · exact vfinish_plain hm h hv
        · exact vfinish_plain hm h hv
        · cases h
      · cases h
    · cases h
  · cases h
/-- what is told of the result alone is an equation -/
theorem wp.exact {u : Value} (hm : C.mode g = 0) (h : wp (vcall C frz g l H) (fun r _ => r = u)) (hu : plain u = true) : vcall C frz g l H = some (u, H) := by
  obtain ⟨v, H', h1, rfl⟩ := h
  rw [h1, call_plain hm h1 hu]
end Go.VM
