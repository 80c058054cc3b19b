/- Texts of a proof, joined. -/
import Derived.Test.YtcigpclbhfkgaaaKM0
import Derived.Test.YtcigpclbhfkgaaaKM1
import Derived.Test.YtcigpclbhfkgaaaKFnExactChipNew0
/-! Copies of networks. -/
set_option linter.all false
namespace Go.Proofs.Ytcigpclbhfkgaaa.V
open Go Go.VM Go.Proofs
set_option maxRecDepth 10000
variable {frz : Nat} {H : Heap}
/-- append([]T{}, xs...) in one region -/
theorem copy_ints (v : Value) (xs : List Int) (hI : Rd Fl.int H v xs) (hl : xs.length ≤ 1073741824) : ∃ r L, vappend Try.prog frz H 24 24 (.slice none 0 0) v = some (r, H ++ L) ∧ dIntS.Ow (H ++ L) r xs ∧ (∀ i ∈ ids r, H.length ≤ i) := by
  have hs := hI.src
  simp only [Fl.int_n] at hs
  by_cases h0 : xs = []
  · subst h0
    refine ⟨.slice none 0 0, [], ?_, ⟨.inl ⟨rfl, rfl⟩, by simp⟩, by simp⟩
    simp [hs]
  · refine ⟨.slice (some ⟨H.length, 0, some 0⟩) xs.length 0, [⟨cellsOf Fl.int xs, 0, 3⟩], ?_, ⟨Ow.new0 rfl rfl (ones_ints xs) rfl, hl⟩, by simp⟩
    have : xs.length ≠ 0 := fun hh => h0 (List.length_eq_zero_iff.1 hh)
    simp [hs, h0, hl, ones_ints]
theorem copy_flits (v : Value) (xs : List FlitD) (hI : Rd flF H v xs) (hl : xs.length ≤ 1073741824) : ∃ r L, vappend Try.prog frz H 123 123 (.slice none 0 0) v = some (r, H ++ L) ∧ Ow flF 134 (H ++ L) r xs ∧ (∀ i ∈ ids r, H.length ≤ i) := by
  have hs := hI.src
  simp only [flF_n] at hs
  by_cases h0 : xs = []
  · subst h0
    refine ⟨.slice none 0 0, [], ?_, .inl ⟨rfl, rfl⟩, by simp⟩
    simp [hs]
  · refine ⟨.slice (some ⟨H.length, 0, some 0⟩) xs.length 0, [⟨cellsOf flF xs, 0, 134⟩], ?_, Ow.new0 rfl rfl (ones_flF xs) rfl, by simp⟩
    have : xs.length ≠ 0 := fun hh => h0 (List.length_eq_zero_iff.1 hh)
    simp [hs, h0, hl, ones_flF]
theorem copyLists_w (v : Value) (hs : List Value) (xss : SSD) (hI : RdL flF H v hs xss) (hb : xss.length ≤ 2097152) (hb2 : ∀ xs ∈ xss, xs.length ≤ 67108864) :
   wp (vcall C frz 133 [v] H) (dSS.Made H xss) := by
  rw [vcall_go (fn := Try.f133) Try.func133 rfl (by kernel_rfl) rfl]
  have hl := hI.2.1
  simp [(hI.app).1.len (P := Try.prog) (ty := 57) (by simp), hl]
  refine wp_inv (fun n t H' => ∃ (i : Nat) (out : Value) (gs : List Value), n = xss.length - i ∧ i ≤ xss.length ∧ t 7 = v ∧ t 8 = .int .i64 xss.length ∧ t 9 = .int .i64 i ∧ t 3 = out ∧ gs.length = i ∧ Ow Fl.val 123 H' out gs ∧ Chg H H' [] ∧
    (∀ (j : Nat) (a : Value) (xs : List FlitD), gs[j]? = some a → xss[j]? = some xs → Ow flF 134 H' a xs) ∧ (∀ x ∈ idsL out gs, H.length ≤ x ∧ x < H'.length) ∧ (idsL out gs).Nodup) ?_ (n := xss.length)
    ⟨0, .slice (some ⟨H.length, 0, some 0⟩) 0 0, [], rfl, by omega, by simp, by simp, by simp, by simp, rfl, Ow.new0 (D := Fl.val) (xs := []) rfl rfl rfl rfl, Chg.app _, by simp, by simp [idsL], by simp [idsL]⟩
  rintro n t H' ⟨i, out, gs, rfl, hi, t7, t8, t9, t3, hgl, o, c, hin, hids, hnd⟩ ih
  have rd := hI.chg c (by simp)
  have l0 := c.1
  simp [t7, t8, t9, t3, rd.1.len (P := Try.prog) (ty := 57) (by simp), hl]
  refine wp_dec ?_ ?_ <;> intro h
  · have h' : i < xss.length := by omega
    obtain ⟨u, a1, a2, a3, a4⟩ := RdL_at rd (ty := 57) (e := 123) (by simp) (by simp) h'
    have hm := hb2 _ (List.getElem_mem h')
    have a2' : vindexAddr Try.prog (H' ++ [⟨[], 0, 134⟩]) 57 v (.int .i64 i) = some (elp v i) := by
      obtain ⟨_, _, q, _, _⟩ := RdL_at (rd.app (L := [⟨[], 0, 134⟩])) (ty := 57) (e := 123) (by simp) (by simp) h'; exact q
    have a3' : vload Try.prog (H' ++ [⟨[], 0, 134⟩]) 123 (elp v i) = some u := by
      obtain ⟨u', q1, _, q, _⟩ := RdL_at (rd.app (L := [⟨[], 0, 134⟩])) (ty := 57) (e := 123) (by simp) (by simp) h'
      rw [a1] at q1; cases q1; exact q
    have o0 : Ow flF 134 (H' ++ [⟨[], 0, 134⟩]) (.slice (some ⟨H'.length, 0, some 0⟩) 0 0) [] := Ow.new0 (D := flF) (xs := []) rfl rfl rfl rfl
    obtain ⟨r, H2, hap, or_, c1, n1⟩ := o0.append (P := Try.prog) (frz := H.length) (ty := 123) (a4.app (L := [⟨[], 0, 134⟩])) (by simp) (ones_flF _) (by simp; omega) (by simp; omega)
    rw [List.nil_append] at or_
    have l1 := c1.1
    simp at l1
    have cc1 : Chg H' H2 [] := (Chg.app []).trans' c1 (fun x hx => .inr (by simp at hx; omega))
    have nr : ∀ x ∈ ids r, H'.length ≤ x := fun x hx => by
      rcases n1 x hx with h1 | h1
      · simp at h1; omega
      · simp at h1; omega
    have oo := o.chg cc1 (by simp)
    have hout : ∀ x ∈ ids out, H.length ≤ x ∧ x < H'.length := fun x hx => hids x (List.mem_append.2 (.inl hx))
    obtain ⟨out', H4, hap2, o4, c4, n4⟩ := oo.push (P := Try.prog) (frz := H.length) (ty := 57) (a := r) (by simp) (by simp [or_.rd.one']) (by omega) (fun x hx => (hout x hx).1)
    simp only [Fl.val_f] at hap2
    have l4 := c4.1
    have one := And.intro or_.rd.one' or_.rd.cells
    have rlt := or_.lt
    have o4lt := o4.lt
    simp [-vappend_mk, t7, t8, t9, t3, a2, a3, a2', a3', hap, hap2, one]
    refine ih (xss.length - (i + 1)) _ _ ⟨i + 1, out', gs ++ [r], rfl, by omega, by simp [t7], by simp [t8], ?_, by simp, by simp [hgl], o4, (c.trans cc1).trans' c4 (fun x hx => .inr (hout x hx).1), fun j a xs ha hx => ?_, fun x hx => ?_, ?_⟩ (by omega)
    · simp; rw [w64 (by omega) (by omega)]
    · by_cases hj : j < gs.length
      · rw [List.getElem?_append_left hj] at ha
        refine ((hin j a xs ha hx).chg cc1 (by simp)).chg c4 (fun y hy hh => ?_)
        exact (List.nodup_append.1 hnd).2.2 y hh y (List.mem_flatMap.2 ⟨a, List.mem_of_getElem? ha, hy⟩) rfl
      · rw [List.getElem?_append_right (by omega)] at ha
        have hj2 := (List.getElem?_eq_some_iff.1 ha).1
        simp at hj2
        have : j = i := by omega
        subst this
        rw [show j - gs.length = 0 by omega] at ha
        simp at ha
        subst ha
        rw [List.getElem?_eq_getElem h'] at hx
        cases hx
        exact or_.chg c4 (fun y hy hh => by have := nr y hy; have := (hout y hh).2; omega)
    · rcases List.mem_append.1 hx with hx | hx
      · have h2 := o4lt x hx
        rcases n4 x hx with h1 | h1
        · exact ⟨(hout x h1).1, h2⟩
        · exact ⟨by omega, h2⟩
      · rw [List.flatMap_append] at hx
        rcases List.mem_append.1 hx with hx | hx
        · have := hids x (List.mem_append.2 (.inr hx)); omega
        · simp at hx
          have := nr x hx; have := rlt x hx; omega
    · obtain ⟨d1, d2, d3⟩ := List.nodup_append.1 hnd
      have hgl2 : ∀ x ∈ gs.flatMap ids, x < H'.length := fun x hx => (hids x (List.mem_append.2 (.inr hx))).2
      refine List.nodup_append.2 ⟨ids_nodup _, ?_, fun a ha b hb e => ?_⟩
      · rw [List.flatMap_append]
        exact nd_app d2 (by simpa using ids_nodup r) (n := H'.length) hgl2 (fun x hx => by simp at hx; exact nr x hx)
      · subst e
        rw [List.flatMap_append] at hb
        rcases n4 a ha with h1 | h1
        · rcases List.mem_append.1 hb with hb | hb
          · exact d3 a h1 a hb rfl
          · simp at hb
            have := nr a hb; have := (hout a h1).2; omega
        · rcases List.mem_append.1 hb with hb | hb
          · have := hgl2 a hb; omega
          · simp at hb
            have := rlt a hb; omega
  · have : i = xss.length := by omega
    subst this
    simp [t7, t8, t9, t3]
    exact ⟨(out, gs), rfl, ⟨⟨o, hgl, hin⟩, hb, hb2⟩, c, fun x hx => (hids x hx).1, hnd⟩
theorem l15Lists_w (v : Value) (hs : List Value) (xss : SSD) (hI : RdL flF H v hs xss) (hb : xss.length ≤ 2097152) (hb2 : ∀ xs ∈ xss, xs.length ≤ 67108864) :
   wp (vcall C frz 131 [v] H) (dSS.Made H xss) := by
  rw [vcall_go (fn := Try.f131) Try.func131 rfl (by kernel_rfl) rfl]
  have hl := hI.2.1
  simp [(hI.app).1.len (P := Try.prog) (ty := 57) (by simp), hl]
  refine wp_inv (fun n t H' => ∃ (i : Nat) (out : Value) (gs : List Value), n = xss.length - i ∧ i ≤ xss.length ∧ t 0 = v ∧ t 4 = .int .i64 i ∧ t 3 = out ∧ gs.length = i ∧ Ow Fl.val 123 H' out gs ∧ Chg H H' [] ∧
    (∀ (j : Nat) (a : Value) (xs : List FlitD), gs[j]? = some a → xss[j]? = some xs → Ow flF 134 H' a xs) ∧ (∀ x ∈ idsL out gs, H.length ≤ x ∧ x < H'.length) ∧ (idsL out gs).Nodup) ?_ (n := xss.length)
    ⟨0, .slice (some ⟨H.length, 0, some 0⟩) 0 0, [], rfl, by omega, by simp, by simp, by simp, rfl, Ow.new0 (D := Fl.val) (xs := []) rfl rfl rfl rfl, Chg.app _, by simp, by simp [idsL], by simp [idsL]⟩
  rintro n t H' ⟨i, out, gs, rfl, hi, t0, t4, t3, hgl, o, c, hin, hids, hnd⟩ ih
  have rd := hI.chg c (by simp)
  have l0 := c.1
  simp [t0, t4, t3, rd.1.len (P := Try.prog) (ty := 57) (by simp), hl]
  refine wp_dec ?_ ?_ <;> intro h
  · have h' : i < xss.length := by omega
    obtain ⟨u, a1, a2, a3, a4⟩ := RdL_at rd (ty := 57) (e := 123) (by simp) (by simp) h'
    have hm := hb2 _ (List.getElem_mem h')
    have a2' : vindexAddr Try.prog (H' ++ [⟨[], 0, 134⟩]) 57 v (.int .i64 i) = some (elp v i) := by
      obtain ⟨_, _, q, _, _⟩ := RdL_at (rd.app (L := [⟨[], 0, 134⟩])) (ty := 57) (e := 123) (by simp) (by simp) h'; exact q
    have a3' : vload Try.prog (H' ++ [⟨[], 0, 134⟩]) 123 (elp v i) = some u := by
      obtain ⟨u', q1, _, q, _⟩ := RdL_at (rd.app (L := [⟨[], 0, 134⟩])) (ty := 57) (e := 123) (by simp) (by simp) h'
      rw [a1] at q1; cases q1; exact q
    have o0 : Ow flF 134 (H' ++ [⟨[], 0, 134⟩]) (.slice (some ⟨H'.length, 0, some 0⟩) 0 0) [] := Ow.new0 (D := flF) (xs := []) rfl rfl rfl rfl
    obtain ⟨r, H2, hap, or_, c1, n1⟩ := o0.append (P := Try.prog) (frz := H.length) (ty := 123) (a4.app (L := [⟨[], 0, 134⟩])) (by simp) (ones_flF _) (by simp; omega) (by simp; omega)
    rw [List.nil_append] at or_
    have l1 := c1.1
    simp at l1
    have cc1 : Chg H' H2 [] := (Chg.app []).trans' c1 (fun x hx => .inr (by simp at hx; omega))
    have nr : ∀ x ∈ ids r, H'.length ≤ x := fun x hx => by
      rcases n1 x hx with h1 | h1
      · simp at h1; omega
      · simp at h1; omega
    have oo := o.chg cc1 (by simp)
    have hout : ∀ x ∈ ids out, H.length ≤ x ∧ x < H'.length := fun x hx => hids x (List.mem_append.2 (.inl hx))
    obtain ⟨out', H4, hap2, o4, c4, n4⟩ := oo.push (P := Try.prog) (frz := H.length) (ty := 57) (a := r) (by simp) (by simp [or_.rd.one']) (by omega) (fun x hx => (hout x hx).1)
    simp only [Fl.val_f] at hap2
    have l4 := c4.1
    have one := And.intro or_.rd.one' or_.rd.cells
    have rlt := or_.lt
    have o4lt := o4.lt
    simp [-vappend_mk, t0, t4, t3, a2, a3, a2', a3', hap, hap2, one]
    refine ih (xss.length - (i + 1)) _ _ ⟨i + 1, out', gs ++ [r], rfl, by omega, by simp [t0], ?_, by simp, by simp [hgl], o4, (c.trans cc1).trans' c4 (fun x hx => .inr (hout x hx).1), fun j a xs ha hx => ?_, fun x hx => ?_, ?_⟩ (by omega)
    · simp; rw [w64 (by omega) (by omega)]
    · by_cases hj : j < gs.length
      · rw [List.getElem?_append_left hj] at ha
        refine ((hin j a xs ha hx).chg cc1 (by simp)).chg c4 (fun y hy hh => ?_)
        exact (List.nodup_append.1 hnd).2.2 y hh y (List.mem_flatMap.2 ⟨a, List.mem_of_getElem? ha, hy⟩) rfl
      · rw [List.getElem?_append_right (by omega)] at ha
        have hj2 := (List.getElem?_eq_some_iff.1 ha).1
        simp at hj2
        have : j = i := by omega
        subst this
        rw [show j - gs.length = 0 by omega] at ha
        simp at ha
        subst ha
        rw [List.getElem?_eq_getElem h'] at hx
        cases hx
        exact or_.chg c4 (fun y hy hh => by have := nr y hy; have := (hout y hh).2; omega)
    · rcases List.mem_append.1 hx with hx | hx
      · have h2 := o4lt x hx
        rcases n4 x hx with h1 | h1
        · exact ⟨(hout x h1).1, h2⟩
        · exact ⟨by omega, h2⟩
      · rw [List.flatMap_append] at hx
        rcases List.mem_append.1 hx with hx | hx
        · have := hids x (List.mem_append.2 (.inr hx)); omega
        · simp at hx
          have := nr x hx; have := rlt x hx; omega
    · obtain ⟨d1, d2, d3⟩ := List.nodup_append.1 hnd
      have hgl2 : ∀ x ∈ gs.flatMap ids, x < H'.length := fun x hx => (hids x (List.mem_append.2 (.inr hx))).2
      refine List.nodup_append.2 ⟨ids_nodup _, ?_, fun a ha b hb e => ?_⟩
      · rw [List.flatMap_append]
        exact nd_app d2 (by simpa using ids_nodup r) (n := H'.length) hgl2 (fun x hx => by simp at hx; exact nr x hx)
      · subst e
        rw [List.flatMap_append] at hb
        rcases n4 a ha with h1 | h1
        · rcases List.mem_append.1 hb with hb | hb
          · exact d3 a h1 a hb rfl
          · simp at hb
            have := nr a hb; have := (hout a h1).2; omega
        · rcases List.mem_append.1 hb with hb | hb
          · have := hgl2 a hb; omega
          · simp at hb
            have := rlt a hb; omega
  · have : i = xss.length := by omega
    subst this
    simp [t0, t4, t3]
    exact ⟨(out, gs), rfl, ⟨⟨o, hgl, hin⟩, hb, hb2⟩, c, fun x hx => (hids x hx).1, hnd⟩
end Go.Proofs.Ytcigpclbhfkgaaa.V
/-! Copies of networks: the whole. -/
set_option linter.all false
namespace Go.Proofs.Ytcigpclbhfkgaaa.V
open Go Go.VM Go.Proofs
set_option maxRecDepth 10000
variable {frz : Nat} {H : Heap}
theorem copyClasses_w (v1 v2 : Value) (A B : List Int) (h1 : IsI H v1 A) (h2 : IsI H v2 B) (l1 : A.length ≤ 1073741824) (l2 : B.length ≤ 1073741824) :
   wp (vcall C frz 128 [.agg #[v1, v2]] H) (dClasses.Made H (A, B)) := by
  rw [vcall_go (fn := Try.f128) Try.func128 rfl (by kernel_rfl) rfl]
  have one := And.intro (And.intro h1.one' h1.cells) (And.intro h2.one' h2.cells)
  simp [one]
  try rw [go_draw (h := by kernel_rfl)]
  simp [one]
  refine wp_thn (copyTable_w v1 A (h1.app _) l1) ?_
  rintro _ H1 ⟨u1, rfl, o1, c1, n1, d1⟩
  have b0 : H1[H.length]? = some ⟨[v1, v2], 0, 42⟩ := box_chg (by simp) c1 (by simp)
  have bR : H1[H.length + 1]? = some ⟨[.slice none 0 0, .slice none 0 0], 0, 42⟩ := box_chg (by simp) c1 (by simp)
  have cH1 : Chg H H1 [] := (Chg.app []).trans c1
  have lc := c1.1
  simp at n1 lc
  have onu := dTable_one o1
  have lt1 := dTable.lt o1
  simp [dTable_val, VM.look, b0, one]
  refine wp_thn (copyTable_w v2 B (Rd.isI (h2.rd.chg cH1 (by simp))) l2) ?_
  rintro _ H2 ⟨u2, rfl, o2, c2, n2, d2⟩
  have bR := box_chg bR c2 (by simp)
  have o1 := Dt.chg0 (T := dTable) o1 c2
  have onu2 := dTable_one o2
  have gR := set_get (r' := ⟨[u1, u2], 0, 42⟩) bR
  have hF : H.length ≤ H.length + 1 := by omega
  have eR : Chg H2 (H2.set (H.length + 1) ⟨[u1, u2], 0, 42⟩) [H.length + 1] := chg_set _ _
  simp [dTable_val, VM.look, bR, onu, onu2, gR, hF]
  refine ⟨(u1, u2), rfl, ⟨Dt.chg (T := dTable) o1 eR (fun i hi hh => by have := n1 i hi; simp at hh; omega), Dt.chg (T := dTable) o2 eR (fun i hi hh => by have := n2 i hi; simp at hh; omega)⟩, (cH1.trans c2).trans' eR (fun i hi => .inr (by simp at hi; omega)), fun i hi => ?_, ?_⟩
  · rcases List.mem_append.1 hi with hi | hi
    · have := n1 i hi; omega
    · have := n2 i hi; omega
  · exact List.nodup_append.2 ⟨d1, d2, fun a ha b hb e => by have := lt1 a ha; have := n2 b hb; omega⟩
theorem l15Classes_w (v1 v2 : Value) (A B : List Int) (h1 : IsI H v1 A) (h2 : IsI H v2 B) (l1 : A.length ≤ 1073741824) (l2 : B.length ≤ 1073741824) :
   wp (vcall C frz 125 [.agg #[v1, v2]] H) (dClasses.Made H (A, B)) := by
  rw [vcall_go (fn := Try.f125) Try.func125 rfl (by kernel_rfl) rfl]
  have one := And.intro (And.intro h1.one' h1.cells) (And.intro h2.one' h2.cells)
  simp [one]
  try rw [go_draw (h := by kernel_rfl)]
  simp [one]
  refine wp_thn (l12Copy_w v1 A (h1.app _) l1) ?_
  rintro _ H1 ⟨u1, rfl, o1, c1, n1, d1⟩
  have b0 : H1[H.length]? = some ⟨[v1, v2], 0, 42⟩ := box_chg (by simp) c1 (by simp)
  have bR : H1[H.length + 1]? = some ⟨[.slice none 0 0, .slice none 0 0], 0, 42⟩ := box_chg (by simp) c1 (by simp)
  have cH1 : Chg H H1 [] := (Chg.app []).trans c1
  have lc := c1.1
  simp at n1 lc
  have onu := dTable_one o1
  have lt1 := dTable.lt o1
  simp [dTable_val, VM.look, b0, one]
  refine wp_thn (l12Copy_w v2 B (Rd.isI (h2.rd.chg cH1 (by simp))) l2) ?_
  rintro _ H2 ⟨u2, rfl, o2, c2, n2, d2⟩
  have bR := box_chg bR c2 (by simp)
  have o1 := Dt.chg0 (T := dTable) o1 c2
  have onu2 := dTable_one o2
  have gR := set_get (r' := ⟨[u1, u2], 0, 42⟩) bR
  have hF : H.length ≤ H.length + 1 := by omega
  have eR : Chg H2 (H2.set (H.length + 1) ⟨[u1, u2], 0, 42⟩) [H.length + 1] := chg_set _ _
  simp [dTable_val, VM.look, bR, onu, onu2, gR, hF]
  refine ⟨(u1, u2), rfl, ⟨Dt.chg (T := dTable) o1 eR (fun i hi hh => by have := n1 i hi; simp at hh; omega), Dt.chg (T := dTable) o2 eR (fun i hi hh => by have := n2 i hi; simp at hh; omega)⟩, (cH1.trans c2).trans' eR (fun i hi => .inr (by simp at hi; omega)), fun i hi => ?_, ?_⟩
  · rcases List.mem_append.1 hi with hi | hi
    · have := n1 i hi; omega
    · have := n2 i hi; omega
  · exact List.nodup_append.2 ⟨d1, d2, fun a ha b hb e => by have := lt1 a ha; have := n2 b hb; omega⟩
theorem copyNet_d {v : NetV} {x : NetD} (o : dNet.Ow H v x) : wp (vcall C frz 81 [dNet.val v x] H) (dNet.Made H x) := by
  have ones := dNet_one o
  obtain ⟨u2, ⟨u3, u4⟩, ⟨u5, h5⟩, u6, u7, ⟨u8, h8⟩, ⟨u9, h9⟩, _⟩ := v
  obtain ⟨⟨w, h, b⟩, ⟨A, B⟩, buf, own, turn, src, arr, tm⟩ := x
  obtain ⟨y1, y2, y3, y4, y5, y6, y7, _⟩ := o
  simp only at y1 y2 y3 y4 y5 y6 y7 ones
  rw [dNet_val]
  rw [vcall_go (fn := Try.f81) Try.func81 rfl (by kernel_rfl) rfl]
  have hF : H.length ≤ H.length + 1 := by omega
  simp [ones]
  rw [go_drawE (h := ⟨by kernel_rfl, by kernel_rfl⟩)]
  obtain ⟨G0, hG0⟩ : ∃ G, G = H ++ [⟨[.int .i64 w, .int .i64 h, u2, u3, u4, u5, u6, u7, u8, u9, .int .i64 tm], 0, 59⟩, ⟨[.int .i64 0, .int .i64 0, .slice none 0 0, .slice none 0 0, .slice none 0 0, .slice none 0 0, .slice none 0 0, .slice none 0 0, .slice none 0 0, .slice none 0 0, .int .i64 0], 0, 59⟩] := ⟨_, rfl⟩
  have b0 : G0[H.length]? = some ⟨[.int .i64 w, .int .i64 h, u2, u3, u4, u5, u6, u7, u8, u9, .int .i64 tm], 0, 59⟩ := by rw [hG0]; simp
  have bR : G0[H.length + 1]? = some ⟨[.int .i64 0, .int .i64 0, .slice none 0 0, .slice none 0 0, .slice none 0 0, .slice none 0 0, .slice none 0 0, .slice none 0 0, .slice none 0 0, .slice none 0 0, .int .i64 0], 0, 59⟩ := by rw [hG0]; simp
  have cH : Chg H G0 [] := by rw [hG0]; exact Chg.app []
  have lH : H.length + 2 ≤ G0.length := by rw [hG0]; simp
  rw [← hG0]
  clear hG0
  have z1 : dMesh.Ow G0 u2 (w, h, b) := Dt.chg0 y1 cH
  have z2 : dClasses.Ow G0 (u3, u4) (A, B) := Dt.chg0 y2 cH
  have z3 : dSS.Ow G0 (u5, h5) buf := Dt.chg0 y3 cH
  have z4 : dIntS.Ow G0 u6 own := Dt.chg0 y4 cH
  have z5 : dIntS.Ow G0 u7 turn := Dt.chg0 y5 cH
  have z6 : dSS.Ow G0 (u8, h8) src := Dt.chg0 y6 cH
  have z7 : dSS.Ow G0 (u9, h9) arr := Dt.chg0 y7 cH
  clear y1 y2 y3 y4 y5 y6 y7
  simp [emps, empOp, empB, VM.look, b0, ones]
  refine wp_thn (copyMesh_w w h u2 b z1.1.rd.isI z1.2) ?_
  rintro _ G1 ⟨n1, rfl, o1, c1, m1, d1⟩
  have q1 := dMesh_one o1
  have lt1 := dMesh.lt o1
  have lc1 := c1.1
  have b0 := box_chg b0 c1 (by simp)
  have bR := box_chg bR c1 (by simp)
  have cH := cH.trans c1
  have z2 := Dt.chg0 (T := dClasses) z2 c1
  have z3 := Dt.chg0 (T := dSS) z3 c1
  have z4 := Dt.chg0 (T := dIntS) z4 c1
  have z5 := Dt.chg0 (T := dIntS) z5 c1
  have z6 := Dt.chg0 (T := dSS) z6 c1
  have z7 := Dt.chg0 (T := dSS) z7 c1
  try simp [-vappend_nil, dMesh_val, VM.look, b0, ones]
  refine wp_thn (copyClasses_w u3 u4 A B z2.1.1.rd.isI z2.2.1.rd.isI z2.1.2 z2.2.2) ?_
  rintro _ G2 ⟨n2, rfl, o2, c2, m2, d2⟩
  have q2 := dClasses_one o2
  have lt2 := dClasses.lt o2
  have lc2 := c2.1
  have b0 := box_chg b0 c2 (by simp)
  have bR := box_chg bR c2 (by simp)
  have cH := cH.trans c2
  have z3 := Dt.chg0 (T := dSS) z3 c2
  have z4 := Dt.chg0 (T := dIntS) z4 c2
  have z5 := Dt.chg0 (T := dIntS) z5 c2
  have z6 := Dt.chg0 (T := dSS) z6 c2
  have z7 := Dt.chg0 (T := dSS) z7 c2
  have o1 := Dt.chg0 (T := dMesh) o1 c2
  try simp [-vappend_nil, dClasses_val, VM.look, b0, ones]
  refine wp_thn (copyLists_w u5 h5 buf z3.1.rd z3.2.1 z3.2.2) ?_
  rintro _ G3 ⟨n3, rfl, o3, c3, m3, d3⟩
  have q3 := dSS_one o3
  have lt3 := dSS.lt o3
  have lc3 := c3.1
  have b0 := box_chg b0 c3 (by simp)
  have bR := box_chg bR c3 (by simp)
  have cH := cH.trans c3
  have z4 := Dt.chg0 (T := dIntS) z4 c3
  have z5 := Dt.chg0 (T := dIntS) z5 c3
  have z6 := Dt.chg0 (T := dSS) z6 c3
  have z7 := Dt.chg0 (T := dSS) z7 c3
  have o1 := Dt.chg0 (T := dMesh) o1 c3
  have o2 := Dt.chg0 (T := dClasses) o2 c3
  try simp [-vappend_nil, show dSS.val n3 buf = n3.1 from rfl, VM.look, b0, ones]
  obtain ⟨n4, L4, hap4, o4, m4⟩ := copy_ints (frz := H.length) u6 own z4.1.rd z4.2
  have c4 : Chg G3 (G3 ++ L4) [] := Chg.app _
  have d4 := ids_nodup n4
  have q4 := dIntS_one o4
  simp [-vappend_nil, hap4, VM.look]
  generalize G3 ++ L4 = G4 at *
  have lt4 := dIntS.lt o4
  have lc4 := c4.1
  have b0 := box_chg b0 c4 (by simp)
  have bR := box_chg bR c4 (by simp)
  have cH := cH.trans c4
  have z5 := Dt.chg0 (T := dIntS) z5 c4
  have z6 := Dt.chg0 (T := dSS) z6 c4
  have z7 := Dt.chg0 (T := dSS) z7 c4
  have o1 := Dt.chg0 (T := dMesh) o1 c4
  have o2 := Dt.chg0 (T := dClasses) o2 c4
  have o3 := Dt.chg0 (T := dSS) o3 c4
  try simp [-vappend_nil, VM.look, b0, ones]
  obtain ⟨n5, L5, hap5, o5, m5⟩ := copy_ints (frz := H.length) u7 turn z5.1.rd z5.2
  have c5 : Chg G4 (G4 ++ L5) [] := Chg.app _
  have d5 := ids_nodup n5
  have q5 := dIntS_one o5
  simp [-vappend_nil, hap5, VM.look]
  generalize G4 ++ L5 = G5 at *
  have lt5 := dIntS.lt o5
  have lc5 := c5.1
  have b0 := box_chg b0 c5 (by simp)
  have bR := box_chg bR c5 (by simp)
  have cH := cH.trans c5
  have z6 := Dt.chg0 (T := dSS) z6 c5
  have z7 := Dt.chg0 (T := dSS) z7 c5
  have o1 := Dt.chg0 (T := dMesh) o1 c5
  have o2 := Dt.chg0 (T := dClasses) o2 c5
  have o3 := Dt.chg0 (T := dSS) o3 c5
  have o4 := Dt.chg0 (T := dIntS) o4 c5
  try simp [-vappend_nil, VM.look, b0, ones]
  refine wp_thn (copyLists_w u8 h8 src z6.1.rd z6.2.1 z6.2.2) ?_
  rintro _ G6 ⟨n6, rfl, o6, c6, m6, d6⟩
  have q6 := dSS_one o6
  have lt6 := dSS.lt o6
  have lc6 := c6.1
  have b0 := box_chg b0 c6 (by simp)
  have bR := box_chg bR c6 (by simp)
  have cH := cH.trans c6
  have z7 := Dt.chg0 (T := dSS) z7 c6
  have o1 := Dt.chg0 (T := dMesh) o1 c6
  have o2 := Dt.chg0 (T := dClasses) o2 c6
  have o3 := Dt.chg0 (T := dSS) o3 c6
  have o4 := Dt.chg0 (T := dIntS) o4 c6
  have o5 := Dt.chg0 (T := dIntS) o5 c6
  try simp [-vappend_nil, show dSS.val n6 src = n6.1 from rfl, VM.look, b0, ones]
  refine wp_thn (copyLists_w u9 h9 arr z7.1.rd z7.2.1 z7.2.2) ?_
  rintro _ G7 ⟨n7, rfl, o7, c7, m7, d7⟩
  have q7 := dSS_one o7
  have lt7 := dSS.lt o7
  have lc7 := c7.1
  have b0 := box_chg b0 c7 (by simp)
  have bR := box_chg bR c7 (by simp)
  have cH := cH.trans c7
  have o1 := Dt.chg0 (T := dMesh) o1 c7
  have o2 := Dt.chg0 (T := dClasses) o2 c7
  have o3 := Dt.chg0 (T := dSS) o3 c7
  have o4 := Dt.chg0 (T := dIntS) o4 c7
  have o5 := Dt.chg0 (T := dIntS) o5 c7
  have o6 := Dt.chg0 (T := dSS) o6 c7

  have gR := set_get (r' := ⟨[.int .i64 w, .int .i64 h, n1, n2.1, n2.2, n3.1, n4, n5, n6.1, n7.1, .int .i64 tm], 0, 59⟩) bR
  have eR : Chg G7 (G7.set (H.length + 1) ⟨[.int .i64 w, .int .i64 h, n1, n2.1, n2.2, n3.1, n4, n5, n6.1, n7.1, .int .i64 tm], 0, 59⟩) [H.length + 1] := chg_set _ _
  have o1 := Dt.chg (T := dMesh) o1 eR (fun i hi hh => by have := m1 i hi; simp at hh; omega)
  have o2 := Dt.chg (T := dClasses) o2 eR (fun i hi hh => by have := m2 i hi; simp at hh; omega)
  have o3 := Dt.chg (T := dSS) o3 eR (fun i hi hh => by have := m3 i hi; simp at hh; omega)
  have o4 := Dt.chg (T := dIntS) o4 eR (fun i hi hh => by have := m4 i hi; simp at hh; omega)
  have o5 := Dt.chg (T := dIntS) o5 eR (fun i hi hh => by have := m5 i hi; simp at hh; omega)
  have o6 := Dt.chg (T := dSS) o6 eR (fun i hi hh => by have := m6 i hi; simp at hh; omega)
  have o7 := Dt.chg (T := dSS) o7 eR (fun i hi hh => by have := m7 i hi; simp at hh; omega)
  have cH := cH.trans' eR (fun i hi => .inr (by simp at hi; omega))
  simp [show dSS.val n7 arr = n7.1 from rfl, VM.look, b0, bR, gR, hF, q1, q2, q3, q4, q5, q6, q7]
  refine ⟨(n1, n2, n3, n4, n5, n6, n7, ()), rfl, ⟨o1, o2, o3, o4, o5, o6, o7, trivial⟩, cH, fun i hi => ?_, ?_⟩
  · rcases List.mem_append.1 hi with hi | hi
    · have := m1 i hi; omega
    rcases List.mem_append.1 hi with hi | hi
    · have := m2 i hi; omega
    rcases List.mem_append.1 hi with hi | hi
    · have := m3 i hi; omega
    rcases List.mem_append.1 hi with hi | hi
    · have := m4 i hi; omega
    rcases List.mem_append.1 hi with hi | hi
    · have := m5 i hi; omega
    rcases List.mem_append.1 hi with hi | hi
    · have := m6 i hi; omega
    rcases List.mem_append.1 hi with hi | hi
    · have := m7 i hi; omega
    · simp [dNone] at hi
  · have z7 : (dSS.ids n7 ++ []).Nodup ∧ ∀ i ∈ dSS.ids n7 ++ [], G6.length ≤ i := ⟨by simpa using d7, fun i hi => by simp at hi; have := m7 i hi; omega⟩
    have z6 : (dSS.ids n6 ++ (dSS.ids n7 ++ [])).Nodup ∧ ∀ i ∈ dSS.ids n6 ++ (dSS.ids n7 ++ []), G5.length ≤ i := ⟨nd_app d6 z7.1 lt6 z7.2, fun i hi => by rcases List.mem_append.1 hi with hi | hi; (have := m6 i hi; omega); (have := z7.2 i hi; omega)⟩
    have z5 : (dIntS.ids n5 ++ (dSS.ids n6 ++ (dSS.ids n7 ++ []))).Nodup ∧ ∀ i ∈ dIntS.ids n5 ++ (dSS.ids n6 ++ (dSS.ids n7 ++ [])), G4.length ≤ i := ⟨nd_app d5 z6.1 lt5 z6.2, fun i hi => by rcases List.mem_append.1 hi with hi | hi; (have := m5 i hi; omega); (have := z6.2 i hi; omega)⟩
    have z4 : (dIntS.ids n4 ++ (dIntS.ids n5 ++ (dSS.ids n6 ++ (dSS.ids n7 ++ [])))).Nodup ∧ ∀ i ∈ dIntS.ids n4 ++ (dIntS.ids n5 ++ (dSS.ids n6 ++ (dSS.ids n7 ++ []))), G3.length ≤ i := ⟨nd_app d4 z5.1 lt4 z5.2, fun i hi => by rcases List.mem_append.1 hi with hi | hi; (have := m4 i hi; omega); (have := z5.2 i hi; omega)⟩
    have z3 : (dSS.ids n3 ++ (dIntS.ids n4 ++ (dIntS.ids n5 ++ (dSS.ids n6 ++ (dSS.ids n7 ++ []))))).Nodup ∧ ∀ i ∈ dSS.ids n3 ++ (dIntS.ids n4 ++ (dIntS.ids n5 ++ (dSS.ids n6 ++ (dSS.ids n7 ++ [])))), G2.length ≤ i := ⟨nd_app d3 z4.1 lt3 z4.2, fun i hi => by rcases List.mem_append.1 hi with hi | hi; (have := m3 i hi; omega); (have := z4.2 i hi; omega)⟩
    have z2 : (dClasses.ids n2 ++ (dSS.ids n3 ++ (dIntS.ids n4 ++ (dIntS.ids n5 ++ (dSS.ids n6 ++ (dSS.ids n7 ++ [])))))).Nodup ∧ ∀ i ∈ dClasses.ids n2 ++ (dSS.ids n3 ++ (dIntS.ids n4 ++ (dIntS.ids n5 ++ (dSS.ids n6 ++ (dSS.ids n7 ++ []))))), G1.length ≤ i := ⟨nd_app d2 z3.1 lt2 z3.2, fun i hi => by rcases List.mem_append.1 hi with hi | hi; (have := m2 i hi; omega); (have := z3.2 i hi; omega)⟩
    exact nd_app d1 z2.1 lt1 z2.2
theorem l15Copy_d {v : NetV} {x : NetD} (o : dNet.Ow H v x) : wp (vcall C frz 78 [dNet.val v x] H) (dNet.Made H x) := by
  have ones := dNet_one o
  obtain ⟨u2, ⟨u3, u4⟩, ⟨u5, h5⟩, u6, u7, ⟨u8, h8⟩, ⟨u9, h9⟩, _⟩ := v
  obtain ⟨⟨w, h, b⟩, ⟨A, B⟩, buf, own, turn, src, arr, tm⟩ := x
  obtain ⟨y1, y2, y3, y4, y5, y6, y7, _⟩ := o
  simp only at y1 y2 y3 y4 y5 y6 y7 ones
  rw [dNet_val]
  rw [vcall_go (fn := Try.f78) Try.func78 rfl (by kernel_rfl) rfl]
  have hF : H.length ≤ H.length + 1 := by omega
  simp [ones]
  rw [go_drawE (h := ⟨by kernel_rfl, by kernel_rfl⟩)]
  obtain ⟨G0, hG0⟩ : ∃ G, G = H ++ [⟨[.int .i64 w, .int .i64 h, u2, u3, u4, u5, u6, u7, u8, u9, .int .i64 tm], 0, 59⟩, ⟨[.int .i64 0, .int .i64 0, .slice none 0 0, .slice none 0 0, .slice none 0 0, .slice none 0 0, .slice none 0 0, .slice none 0 0, .slice none 0 0, .slice none 0 0, .int .i64 0], 0, 59⟩] := ⟨_, rfl⟩
  have b0 : G0[H.length]? = some ⟨[.int .i64 w, .int .i64 h, u2, u3, u4, u5, u6, u7, u8, u9, .int .i64 tm], 0, 59⟩ := by rw [hG0]; simp
  have bR : G0[H.length + 1]? = some ⟨[.int .i64 0, .int .i64 0, .slice none 0 0, .slice none 0 0, .slice none 0 0, .slice none 0 0, .slice none 0 0, .slice none 0 0, .slice none 0 0, .slice none 0 0, .int .i64 0], 0, 59⟩ := by rw [hG0]; simp
  have cH : Chg H G0 [] := by rw [hG0]; exact Chg.app []
  have lH : H.length + 2 ≤ G0.length := by rw [hG0]; simp
  rw [← hG0]
  clear hG0
  have z1 : dMesh.Ow G0 u2 (w, h, b) := Dt.chg0 y1 cH
  have z2 : dClasses.Ow G0 (u3, u4) (A, B) := Dt.chg0 y2 cH
  have z3 : dSS.Ow G0 (u5, h5) buf := Dt.chg0 y3 cH
  have z4 : dIntS.Ow G0 u6 own := Dt.chg0 y4 cH
  have z5 : dIntS.Ow G0 u7 turn := Dt.chg0 y5 cH
  have z6 : dSS.Ow G0 (u8, h8) src := Dt.chg0 y6 cH
  have z7 : dSS.Ow G0 (u9, h9) arr := Dt.chg0 y7 cH
  clear y1 y2 y3 y4 y5 y6 y7
  simp [emps, empOp, empB, VM.look, b0, ones]
  refine wp_thn (l15Mesh_w w h u2 b z1.1.rd.isI z1.2) ?_
  rintro _ G1 ⟨n1, rfl, o1, c1, m1, d1⟩
  have q1 := dMesh_one o1
  have lt1 := dMesh.lt o1
  have lc1 := c1.1
  have b0 := box_chg b0 c1 (by simp)
  have bR := box_chg bR c1 (by simp)
  have cH := cH.trans c1
  have z2 := Dt.chg0 (T := dClasses) z2 c1
  have z3 := Dt.chg0 (T := dSS) z3 c1
  have z4 := Dt.chg0 (T := dIntS) z4 c1
  have z5 := Dt.chg0 (T := dIntS) z5 c1
  have z6 := Dt.chg0 (T := dSS) z6 c1
  have z7 := Dt.chg0 (T := dSS) z7 c1
  try simp [-vappend_nil, dMesh_val, VM.look, b0, ones]
  refine wp_thn (l15Classes_w u3 u4 A B z2.1.1.rd.isI z2.2.1.rd.isI z2.1.2 z2.2.2) ?_
  rintro _ G2 ⟨n2, rfl, o2, c2, m2, d2⟩
  have q2 := dClasses_one o2
  have lt2 := dClasses.lt o2
  have lc2 := c2.1
  have b0 := box_chg b0 c2 (by simp)
  have bR := box_chg bR c2 (by simp)
  have cH := cH.trans c2
  have z3 := Dt.chg0 (T := dSS) z3 c2
  have z4 := Dt.chg0 (T := dIntS) z4 c2
  have z5 := Dt.chg0 (T := dIntS) z5 c2
  have z6 := Dt.chg0 (T := dSS) z6 c2
  have z7 := Dt.chg0 (T := dSS) z7 c2
  have o1 := Dt.chg0 (T := dMesh) o1 c2
  try simp [-vappend_nil, dClasses_val, VM.look, b0, ones]
  refine wp_thn (l15Lists_w u5 h5 buf z3.1.rd z3.2.1 z3.2.2) ?_
  rintro _ G3 ⟨n3, rfl, o3, c3, m3, d3⟩
  have q3 := dSS_one o3
  have lt3 := dSS.lt o3
  have lc3 := c3.1
  have b0 := box_chg b0 c3 (by simp)
  have bR := box_chg bR c3 (by simp)
  have cH := cH.trans c3
  have z4 := Dt.chg0 (T := dIntS) z4 c3
  have z5 := Dt.chg0 (T := dIntS) z5 c3
  have z6 := Dt.chg0 (T := dSS) z6 c3
  have z7 := Dt.chg0 (T := dSS) z7 c3
  have o1 := Dt.chg0 (T := dMesh) o1 c3
  have o2 := Dt.chg0 (T := dClasses) o2 c3
  try simp [-vappend_nil, show dSS.val n3 buf = n3.1 from rfl, VM.look, b0, ones]
  obtain ⟨n4, L4, hap4, o4, m4⟩ := copy_ints (frz := H.length) u6 own z4.1.rd z4.2
  have c4 : Chg G3 (G3 ++ L4) [] := Chg.app _
  have d4 := ids_nodup n4
  have q4 := dIntS_one o4
  simp [-vappend_nil, hap4, VM.look]
  generalize G3 ++ L4 = G4 at *
  have lt4 := dIntS.lt o4
  have lc4 := c4.1
  have b0 := box_chg b0 c4 (by simp)
  have bR := box_chg bR c4 (by simp)
  have cH := cH.trans c4
  have z5 := Dt.chg0 (T := dIntS) z5 c4
  have z6 := Dt.chg0 (T := dSS) z6 c4
  have z7 := Dt.chg0 (T := dSS) z7 c4
  have o1 := Dt.chg0 (T := dMesh) o1 c4
  have o2 := Dt.chg0 (T := dClasses) o2 c4
  have o3 := Dt.chg0 (T := dSS) o3 c4
  try simp [-vappend_nil, VM.look, b0, ones]
  obtain ⟨n5, L5, hap5, o5, m5⟩ := copy_ints (frz := H.length) u7 turn z5.1.rd z5.2
  have c5 : Chg G4 (G4 ++ L5) [] := Chg.app _
  have d5 := ids_nodup n5
  have q5 := dIntS_one o5
  simp [-vappend_nil, hap5, VM.look]
  generalize G4 ++ L5 = G5 at *
  have lt5 := dIntS.lt o5
  have lc5 := c5.1
  have b0 := box_chg b0 c5 (by simp)
  have bR := box_chg bR c5 (by simp)
  have cH := cH.trans c5
  have z6 := Dt.chg0 (T := dSS) z6 c5
  have z7 := Dt.chg0 (T := dSS) z7 c5
  have o1 := Dt.chg0 (T := dMesh) o1 c5
  have o2 := Dt.chg0 (T := dClasses) o2 c5
  have o3 := Dt.chg0 (T := dSS) o3 c5
  have o4 := Dt.chg0 (T := dIntS) o4 c5
  try simp [-vappend_nil, VM.look, b0, ones]
  refine wp_thn (l15Lists_w u8 h8 src z6.1.rd z6.2.1 z6.2.2) ?_
  rintro _ G6 ⟨n6, rfl, o6, c6, m6, d6⟩
  have q6 := dSS_one o6
  have lt6 := dSS.lt o6
  have lc6 := c6.1
  have b0 := box_chg b0 c6 (by simp)
  have bR := box_chg bR c6 (by simp)
  have cH := cH.trans c6
  have z7 := Dt.chg0 (T := dSS) z7 c6
  have o1 := Dt.chg0 (T := dMesh) o1 c6
  have o2 := Dt.chg0 (T := dClasses) o2 c6
  have o3 := Dt.chg0 (T := dSS) o3 c6
  have o4 := Dt.chg0 (T := dIntS) o4 c6
  have o5 := Dt.chg0 (T := dIntS) o5 c6
  try simp [-vappend_nil, show dSS.val n6 src = n6.1 from rfl, VM.look, b0, ones]
  refine wp_thn (l15Lists_w u9 h9 arr z7.1.rd z7.2.1 z7.2.2) ?_
  rintro _ G7 ⟨n7, rfl, o7, c7, m7, d7⟩
  have q7 := dSS_one o7
  have lt7 := dSS.lt o7
  have lc7 := c7.1
  have b0 := box_chg b0 c7 (by simp)
  have bR := box_chg bR c7 (by simp)
  have cH := cH.trans c7
  have o1 := Dt.chg0 (T := dMesh) o1 c7
  have o2 := Dt.chg0 (T := dClasses) o2 c7
  have o3 := Dt.chg0 (T := dSS) o3 c7
  have o4 := Dt.chg0 (T := dIntS) o4 c7
  have o5 := Dt.chg0 (T := dIntS) o5 c7
  have o6 := Dt.chg0 (T := dSS) o6 c7

  have gR := set_get (r' := ⟨[.int .i64 w, .int .i64 h, n1, n2.1, n2.2, n3.1, n4, n5, n6.1, n7.1, .int .i64 tm], 0, 59⟩) bR
  have eR : Chg G7 (G7.set (H.length + 1) ⟨[.int .i64 w, .int .i64 h, n1, n2.1, n2.2, n3.1, n4, n5, n6.1, n7.1, .int .i64 tm], 0, 59⟩) [H.length + 1] := chg_set _ _
  have o1 := Dt.chg (T := dMesh) o1 eR (fun i hi hh => by have := m1 i hi; simp at hh; omega)
  have o2 := Dt.chg (T := dClasses) o2 eR (fun i hi hh => by have := m2 i hi; simp at hh; omega)
  have o3 := Dt.chg (T := dSS) o3 eR (fun i hi hh => by have := m3 i hi; simp at hh; omega)
  have o4 := Dt.chg (T := dIntS) o4 eR (fun i hi hh => by have := m4 i hi; simp at hh; omega)
  have o5 := Dt.chg (T := dIntS) o5 eR (fun i hi hh => by have := m5 i hi; simp at hh; omega)
  have o6 := Dt.chg (T := dSS) o6 eR (fun i hi hh => by have := m6 i hi; simp at hh; omega)
  have o7 := Dt.chg (T := dSS) o7 eR (fun i hi hh => by have := m7 i hi; simp at hh; omega)
  have cH := cH.trans' eR (fun i hi => .inr (by simp at hi; omega))
  simp [show dSS.val n7 arr = n7.1 from rfl, VM.look, b0, bR, gR, hF, q1, q2, q3, q4, q5, q6, q7]
  refine ⟨(n1, n2, n3, n4, n5, n6, n7, ()), rfl, ⟨o1, o2, o3, o4, o5, o6, o7, trivial⟩, cH, fun i hi => ?_, ?_⟩
  · rcases List.mem_append.1 hi with hi | hi
    · have := m1 i hi; omega
    rcases List.mem_append.1 hi with hi | hi
    · have := m2 i hi; omega
    rcases List.mem_append.1 hi with hi | hi
    · have := m3 i hi; omega
    rcases List.mem_append.1 hi with hi | hi
    · have := m4 i hi; omega
    rcases List.mem_append.1 hi with hi | hi
    · have := m5 i hi; omega
    rcases List.mem_append.1 hi with hi | hi
    · have := m6 i hi; omega
    rcases List.mem_append.1 hi with hi | hi
    · have := m7 i hi; omega
    · simp [dNone] at hi
  · have z7 : (dSS.ids n7 ++ []).Nodup ∧ ∀ i ∈ dSS.ids n7 ++ [], G6.length ≤ i := ⟨by simpa using d7, fun i hi => by simp at hi; have := m7 i hi; omega⟩
    have z6 : (dSS.ids n6 ++ (dSS.ids n7 ++ [])).Nodup ∧ ∀ i ∈ dSS.ids n6 ++ (dSS.ids n7 ++ []), G5.length ≤ i := ⟨nd_app d6 z7.1 lt6 z7.2, fun i hi => by rcases List.mem_append.1 hi with hi | hi; (have := m6 i hi; omega); (have := z7.2 i hi; omega)⟩
    have z5 : (dIntS.ids n5 ++ (dSS.ids n6 ++ (dSS.ids n7 ++ []))).Nodup ∧ ∀ i ∈ dIntS.ids n5 ++ (dSS.ids n6 ++ (dSS.ids n7 ++ [])), G4.length ≤ i := ⟨nd_app d5 z6.1 lt5 z6.2, fun i hi => by rcases List.mem_append.1 hi with hi | hi; (have := m5 i hi; omega); (have := z6.2 i hi; omega)⟩
    have z4 : (dIntS.ids n4 ++ (dIntS.ids n5 ++ (dSS.ids n6 ++ (dSS.ids n7 ++ [])))).Nodup ∧ ∀ i ∈ dIntS.ids n4 ++ (dIntS.ids n5 ++ (dSS.ids n6 ++ (dSS.ids n7 ++ []))), G3.length ≤ i := ⟨nd_app d4 z5.1 lt4 z5.2, fun i hi => by rcases List.mem_append.1 hi with hi | hi; (have := m4 i hi; omega); (have := z5.2 i hi; omega)⟩
    have z3 : (dSS.ids n3 ++ (dIntS.ids n4 ++ (dIntS.ids n5 ++ (dSS.ids n6 ++ (dSS.ids n7 ++ []))))).Nodup ∧ ∀ i ∈ dSS.ids n3 ++ (dIntS.ids n4 ++ (dIntS.ids n5 ++ (dSS.ids n6 ++ (dSS.ids n7 ++ [])))), G2.length ≤ i := ⟨nd_app d3 z4.1 lt3 z4.2, fun i hi => by rcases List.mem_append.1 hi with hi | hi; (have := m3 i hi; omega); (have := z4.2 i hi; omega)⟩
    have z2 : (dClasses.ids n2 ++ (dSS.ids n3 ++ (dIntS.ids n4 ++ (dIntS.ids n5 ++ (dSS.ids n6 ++ (dSS.ids n7 ++ [])))))).Nodup ∧ ∀ i ∈ dClasses.ids n2 ++ (dSS.ids n3 ++ (dIntS.ids n4 ++ (dIntS.ids n5 ++ (dSS.ids n6 ++ (dSS.ids n7 ++ []))))), G1.length ≤ i := ⟨nd_app d2 z3.1 lt2 z3.2, fun i hi => by rcases List.mem_append.1 hi with hi | hi; (have := m2 i hi; omega); (have := z3.2 i hi; omega)⟩
    exact nd_app d1 z2.1 lt1 z2.2
end Go.Proofs.Ytcigpclbhfkgaaa.V
/-! Tables: the walks. -/
set_option linter.all false
namespace Go.Proofs.Ytcigpclbhfkgaaa.V
open Go Go.VM Go.Proofs
set_option maxRecDepth 10000
variable {frz : Nat} {H : Heap}
theorem sWalk_c (w h : Int) (v u : Value) (b T : List Int) (a to : Int) (hI : IsI H v b) (hT : IsI H u T) (hl : b.length ≤ 1073741824) (hz : tsized w h b T) (ha : isN w h a) (hto : isN w h to) :
   vcall C frz 160 [.agg #[.int .i64 w, .int .i64 h, v], .agg #[u], .int .i64 a, .int .i64 to] H =
    some (.slice (some ⟨H.length, 0, some 0⟩) (walk w h b T a to).length 0, H ++ [⟨(walk w h b T a to).map (.int .i64), 0, 3⟩]) := by
  rw [vcall_go (fn := Try.f160) Try.func160 rfl (by kernel_rfl) rfl]
  simp [hI.one', hI.cells, hT.one', hT.cells, sNodeCount_c]
  have hc := cnt_range w h
  refine go_inv (fun n t H' => ∃ (o : List Int) (g : Nat) (x : Int) (G : Heap), n = (cnt w h).toNat + 1 - o.length ∧ t 3 = .int .i64 to ∧ t 4 = .pointer (some ⟨H.length, 0, some 0⟩) ∧ t 5 = .pointer (some ⟨H.length + 1, 0, some 0⟩) ∧
    t 9 = .slice (some ⟨H.length + 2, 0, some g⟩) o.length 0 ∧ t 10 = .int .i64 (cnt w h) ∧ t 11 = .int .i64 x ∧
    H' = H ++ ⟨[.int .i64 w, .int .i64 h, v], 0, 38⟩ :: ⟨[u], 0, 40⟩ :: ⟨o.map (.int .i64), g, 3⟩ :: G ∧
    ((o.length ≤ (cnt w h).toNat ∧ isN w h x ∧ walkN w h b T to ((cnt w h).toNat - o.length) x o = walk w h b T a to) ∨ (o.length = (cnt w h).toNat + 1 ∧ walk w h b T a to = []))) ?_
    (n := (cnt w h).toNat + 1) ⟨[], 0, a, [], by simp [ha, walk]⟩
  rintro n t H' ⟨o, g, x, G, rfl, h3, h4, h5, h9, h10, h11, rfl, ho⟩ ih
  simp [h3, h4, h5, h9, h10, h11]
  refine br_dec _ ?_ ?_ <;> intro hn
  · obtain ⟨ho1, hx, hw⟩ : o.length ≤ (cnt w h).toNat ∧ isN w h x ∧ walkN w h b T to ((cnt w h).toNat - o.length) x o = walk w h b T a to := by
      rcases ho with ho | ho
      · exact ho
      · omega
    obtain ⟨k0, k1, k2, k3⟩ := at_small hx hto
    have hTl := hz.2
    have e1 : IntKind.i64.wrap (x * cnt w h) = x * cnt w h := w64 (by omega) (by omega)
    have e2 : IntKind.i64.wrap (x * cnt w h + to) = x * cnt w h + to := w64 (by omega) (by have := hto.2; omega)
    have q1 : ∀ L, vindexAddr Try.prog (H ++ L) 24 u (.int .i64 (x * cnt w h + to)) = some (elp u (x * cnt w h + to).toNat) := fun L => hT.idxA (e := 3) (by simp) k0 (by omega)
    have q2 : ∀ L, vload Try.prog (H ++ L) 3 (elp u (x * cnt w h + to).toNat) = some (.int .i64 (portOf w h T x to)) := fun L => hT.loadA (by simp) (by omega)
    simp [h3, h4, h5, h9, h10, h11, e1, e2, q1, q2]
    refine br_dec _ ?_ ?_ <;> intro hp
    · have hw' : walk w h b T a to = if x = to then o else [] := by
        rw [← hw]; cases (cnt w h).toNat - o.length <;> simp [walkN, hp]
      simp [h3, h4, h5, h9, h10, h11, hp]
      refine br_dec _ ?_ ?_ <;> intro hq
      · simp [h3, h4, h5, h9, h10, h11, hq] at hw' ⊢
        simp [hw']
      · simp [h3, h4, h5, h9, h10, h11, hq] at hw' ⊢
        simp [hw']
    · simp [h3, h4, h5, h9, h10, h11, hp]
      have hw0 : ¬ stepOk w h b T x to → walk w h b T a to = [] := fun hh => by
        rw [← hw]; cases (cnt w h).toNat - o.length <;> simp [walkN, hp, hh]
      have e3 : IntKind.i64.wrap (4 * x) = 4 * x := w64 (by have := hx.1; omega) (by have := hx.2; omega)
      simp [l01In_c]
      refine gd_dec _ _ ?_ ?_ <;> intro hr
      · have e4 : IntKind.i64.wrap (4 * x + portOf w h T x to) = 4 * x + portOf w h T x to := w64 (by have := hx.1; have := hr.1; omega) (by have := hx.2; have := hr.2; omega)
        simp [h3, h4, h5, h9, h10, h11, hp, hr, e3, e4, l03Has_c _ _ _ _ _ (hI.app _) hl, hI.one', hI.cells]
        refine br_dec _ ?_ ?_ <;> intro hh
        · simp [h3, h4, h5, h9, h10, h11, hp, hr, hh, e3, e4, sNextNode_c, hI.one', hI.cells]
          obtain ⟨s1, s2, s3⟩ := step_next hr hh
          refine vneed_eq (by omega) ?_
          refine ih ((cnt w h).toNat + 1 - (o.length + 1)) _ _ ⟨o ++ [4 * x + portOf w h T x to], g + 1, next w h x (portOf w h T x to), _, by simp, by simp [h3], by simp [h4], by simp [h5], by simp, by simp [h10], by simp, by simp; rfl, ?_⟩ (by omega)
          by_cases hlt : o.length < (cnt w h).toNat
          · refine .inl ⟨by simp; omega, s3, ?_⟩
            rw [show (cnt w h).toNat - o.length = ((cnt w h).toNat - (o ++ [4 * x + portOf w h T x to]).length) + 1 by simp; omega] at hw
            rw [← hw, walkN, if_neg hp, if_pos ⟨hr, hh⟩]
          · refine .inr ⟨by simp; omega, ?_⟩
            rw [show (cnt w h).toNat - o.length = 0 by omega] at hw
            rw [← hw, walkN, if_neg hp]
        · have hw2 := hw0 (fun k => hh k.2)
          simp [h3, h4, h5, h9, h10, h11, hp, hr, hh, e3, e4, hw2]
      · have hw2 := hw0 (fun k => hr k.1)
        simp [h3, h4, h5, h9, h10, h11, hp, hr, hw2]
  · have hw2 : walk w h b T a to = [] := by
      rcases ho with ho | ho
      · omega
      · exact ho.2
    simp [h3, h4, h5, h9, h10, h11, hn, hw2]
end Go.Proofs.Ytcigpclbhfkgaaa.V
/-! Tables: the program's own walk. -/
set_option linter.all false
namespace Go.Proofs.Ytcigpclbhfkgaaa.V
open Go Go.VM Go.Proofs
set_option maxRecDepth 10000
variable {frz : Nat} {H : Heap}
theorem portAt_c (w h : Int) (v u : Value) (b T : List Int) (a to : Int) (hI : IsI H v b) (hT : IsI H u T) (hl : b.length ≤ 1073741824) (hz : tsized w h b T) (ha : isN w h a) (hto : isN w h to) :
   vcall C frz 162 [.agg #[.int .i64 w, .int .i64 h, v], .agg #[u], .int .i64 a, .int .i64 to] H =
    some (.int .i64 (if inR 0 (portOf w h T a to) 4 then portOf w h T a to else -1), H) := by
  rw [vcall_go (fn := Try.f162) Try.func162 rfl (by kernel_rfl) rfl]
  have hc := cnt_range w h
  obtain ⟨k0, k1, k2, k3⟩ := at_small ha hto
  have hTl := hz.2
  have hc2 : cnt w h * cnt w h ≤ 16 * 16 := Int.mul_le_mul hc.2 hc.2 hc.1 (by omega)
  have hc3 : 0 * 0 ≤ cnt w h * cnt w h := Int.mul_le_mul hc.1 hc.1 (by omega) hc.1
  have e0 : IntKind.i64.wrap (cnt w h * cnt w h) = cnt w h * cnt w h := w64 (by omega) (by omega)
  have e1 : IntKind.i64.wrap (a * cnt w h) = a * cnt w h := w64 (by omega) (by omega)
  have e2 : IntKind.i64.wrap (a * cnt w h + to) = a * cnt w h + to := w64 (by omega) (by have := hto.2; omega)
  have q1 : ∀ L, vindexAddr Try.prog (H ++ L) 24 u (.int .i64 (a * cnt w h + to)) = some (elp u (a * cnt w h + to).toNat) := fun L => hT.idxA (e := 3) (by simp) k0 (by omega)
  have q2 : ∀ L, vload Try.prog (H ++ L) 3 (elp u (a * cnt w h + to).toNat) = some (.int .i64 (portOf w h T a to)) := fun L => hT.loadA (by simp) (by omega)
  simp [hI.one', hI.cells, hT.one', hT.cells, nodeCount_c, meshOk_c _ _ _ _ (hI.app _) hl, hz.1, inside_c, isN_inR, ha, hto, e0, e1, e2, q1, q2, hT.lenA, hTl]
  try refine br_dec _ ?_ ?_ <;> intro hr <;> simp [hr, q1, q2, e1, e2]
/-- what the program's walk gives back -/
def ret (H : Heap) (xs : List Int) : Value × Heap := if xs = [] then (.slice none 0 0, H) else (.slice (some ⟨H.length, 0, some 0⟩) xs.length 0, H ++ [⟨xs.map (.int .i64), 0, 3⟩])
theorem walk_c (w h : Int) (v u : Value) (b T : List Int) (a to : Int) (hI : IsI H v b) (hT : IsI H u T) (hl : b.length ≤ 1073741824) (hz : tsized w h b T) (ha : isN w h a) (hto : isN w h to) (hne : a ≠ to) :
   vcall C frz 111 [.agg #[.int .i64 w, .int .i64 h, v], .agg #[u], .int .i64 a, .int .i64 to] H = some (ret H (walk w h b T a to)) := by
  rw [vcall_go (fn := Try.f111) Try.func111 rfl (by kernel_rfl) rfl]
  have hc := cnt_range w h
  simp [hI.one', hI.cells, hT.one', hT.cells, nodeCount_c, meshOk_c _ _ _ _ (hI.app _) hl, hz.1, isNode_c, ha, hto, hne]
  refine go_inv (fun n t H' => ∃ (o : List Int) (g : Nat) (x : Int) (G : Heap), n = (cnt w h).toNat + 1 - o.length ∧ t 3 = .int .i64 to ∧ t 4 = .pointer (some ⟨H.length, 0, some 0⟩) ∧ t 5 = .pointer (some ⟨H.length + 1, 0, some 0⟩) ∧
    t 9 = .slice (some ⟨H.length + 2, 0, some g⟩) o.length 0 ∧ t 10 = .int .i64 x ∧
    H' = H ++ ⟨[.int .i64 w, .int .i64 h, v], 0, 38⟩ :: ⟨[u], 0, 40⟩ :: ⟨o.map (.int .i64), g, 3⟩ :: G ∧
    o.length ≤ (cnt w h).toNat ∧ isN w h x ∧ walkN w h b T to ((cnt w h).toNat - o.length) x o = walk w h b T a to ∧ (o = [] → x ≠ to)) ?_
    (n := (cnt w h).toNat + 1) ⟨[], 0, a, [], by simp [ha, walk, hne]⟩
  rintro n t H' ⟨o, g, x, G, rfl, h3, h4, h5, h9, h10, rfl, ho1, hx, hw, hox⟩ ih
  have hpa := fun F L => portAt_c (frz := F) (H := H ++ L) w h v u b T x to (hI.app _) (hT.app _) hl hz hx hto
  have hw0 : portOf w h T x to ≠ 4 → ¬ stepOk w h b T x to → walk w h b T a to = [] := fun hp hh => by
    rw [← hw]; cases (cnt w h).toNat - o.length <;> simp [walkN, hp, hh]
  simp [h3, h4, h5, h9, h10, hI.one', hI.cells, hT.one', hT.cells, hpa]
  have hnil : walk w h b T a to = [] → (Value.slice none 0 0, H) = ret H (walk w h b T a to) := fun hh => by rw [hh]; rfl
  by_cases hr : inR 0 (portOf w h T x to) 4
  · have hlt : ¬ portOf w h T x to < 0 := by have := hr.1; omega
    simp [hr, hlt]
    refine br_dec _ ?_ ?_ <;> intro hp
    · have hw' : walk w h b T a to = if x = to then o else [] := by
        rw [← hw]; cases (cnt w h).toNat - o.length <;> simp [walkN, hp]
      simp [h3, h4, h5, h9, h10, hp]
      refine br_dec _ ?_ ?_ <;> intro hq
      · have hon : o ≠ [] := fun hh => hox hh hq
        rw [if_pos hq] at hw'
        simp [h3, h4, h5, h9, h10, hq, hw', ret, hon]
      · rw [if_neg hq] at hw'
        simp [h3, h4, h5, h9, h10, hq, hw', ret]
    · have hr3 : inR 0 (portOf w h T x to) 3 := ⟨hr.1, by have := hr.2; omega⟩
      have e3 : IntKind.i64.wrap (4 * x) = 4 * x := w64 (by have := hx.1; omega) (by have := hx.2; omega)
      have e4 : IntKind.i64.wrap (4 * x + portOf w h T x to) = 4 * x + portOf w h T x to := w64 (by have := hx.1; have := hr.1; omega) (by have := hx.2; have := hr.2; omega)
      simp [h3, h4, h5, h9, h10, hp, hI.one', hI.cells, e3, e4, hasChannel_c _ _ _ _ _ (hI.app _) hl, hz.1]
      refine gd_dec _ _ ?_ ?_ <;> intro hh
      · obtain ⟨s1, s2, s3⟩ := step_next hr3 hh
        have he := fun F L => endOf_c (frz := F) (H := H ++ L) w h v b (4 * x + portOf w h T x to) (hI.app _) hh.1
        rw [s1, s2] at he
        simp [h3, h4, h5, h9, h10, hp, hh, hI.one', hI.cells, e3, e4, nodeCount_c]
        refine br_dec _ ?_ ?_ <;> intro hf
        · have hwz : walk w h b T a to = [] := by
            rw [show (cnt w h).toNat - o.length = 0 by omega] at hw
            rw [← hw, walkN, if_neg hp]
          simp [h3, h4, h5, h9, h10, hp, hh, hf, hnil hwz]
        · simp [h3, h4, h5, h9, h10, hp, hh, hf, hI.one', hI.cells, e3, e4]
          refine vneed_eq (by omega) ?_
          simp [h3, h4, h5, h9, h10, hp, hh, hf, hI.one', hI.cells, e3, e4, he]
          refine ih ((cnt w h).toNat + 1 - (o.length + 1)) _ _ ⟨o ++ [4 * x + portOf w h T x to], g + 1, next w h x (portOf w h T x to), _, by simp, by simp [h3], by simp [h4], by simp [h5], by simp, by simp, by simp; rfl, by simp; omega, s3, ?_, by simp⟩ (by omega)
          rw [show (cnt w h).toNat - o.length = ((cnt w h).toNat - (o ++ [4 * x + portOf w h T x to]).length) + 1 by simp; omega] at hw
          rw [← hw, walkN, if_neg hp, if_pos ⟨hr3, hh⟩]
      · simp [h3, h4, h5, h9, h10, hp, hh]
        exact hnil (hw0 hp (fun hs => hh hs.2))
  · simp [hr]
    refine hnil (hw0 (fun hp => hr ?_) fun hs => hr ⟨hs.1.1, by have := hs.1.2; omega⟩)
    rw [hp]; exact ⟨by omega, by omega⟩
end Go.Proofs.Ytcigpclbhfkgaaa.V
/-! Tables that are valid. -/
set_option linter.all false
namespace Go.Proofs.Ytcigpclbhfkgaaa.V
open Go Go.VM Go.Proofs
set_option maxRecDepth 10000
variable {frz : Nat} {H : Heap}
theorem sq_small (w h : Int) : IntKind.i64.wrap (cnt w h * cnt w h) = cnt w h * cnt w h := by
  have hc := cnt_range w h
  have hc2 : cnt w h * cnt w h ≤ 16 * 16 := Int.mul_le_mul hc.2 hc.2 hc.1 (by omega)
  have hc3 : 0 * 0 ≤ cnt w h * cnt w h := Int.mul_le_mul hc.1 hc.1 (by omega) hc.1
  exact w64 (by omega) (by omega)
theorem sized_c (w h : Int) (v u : Value) (b T : List Int) (hI : IsI H v b) (hT : IsI H u T) (hl : b.length ≤ 1073741824) :
   vcall C frz 173 [.agg #[.int .i64 w, .int .i64 h, v], .agg #[u]] H = some (.bool (decide (tsized w h b T)), H) := by
  rw [vcall_go (fn := Try.f173) Try.func173 rfl (by kernel_rfl) rfl]
  simp [hI.one', hI.cells, hT.one', hT.cells, sNodeCount_c, sMeshOk_c _ _ _ _ (hI.app _) hl]
  refine gd_dec _ _ ?_ ?_ <;> intro h1 <;> simp [h1, tsized, hT.lenA, sq_small, hI.one', hI.cells, hT.one', hT.cells, sNodeCount_c, -Bool.decide_and]
def good (w h : Int) (b T : List Int) (a c : Nat) : Prop := ((a : Int) = c → portOf w h T a a = 4) ∧ ((a : Int) ≠ c → walk w h b T a c ≠ [])
theorem tableOk_iff (w h : Int) (b T : List Int) : tableOk w h b T ↔ tsized w h b T ∧ ∀ a, a < (cnt w h).toNat → ∀ c, c < (cnt w h).toNat → good w h b T a c := by
  unfold tableOk good
  refine and_congr Iff.rfl ⟨fun k a ha c hc => ?_, fun k a ha c hc => ?_⟩
  · exact ⟨fun e => (k a ha c hc).1 (by omega), fun e => (k a ha c hc).2 (by omega)⟩
  · exact ⟨fun e => (k a ha c hc).1 (by omega), fun e => (k a ha c hc).2 (by omega)⟩
theorem isN_nat {w h : Int} {a : Nat} (k : a < (cnt w h).toNat) : isN w h a := ⟨by omega, by omega⟩
theorem sTableOk_c (w h : Int) (v u : Value) (b T : List Int) (hI : IsI H v b) (hT : IsI H u T) (hl : b.length ≤ 1073741824) :
   vcall C frz 130 [.agg #[.int .i64 w, .int .i64 h, v], .agg #[u]] H = some (.bool (decide (tableOk w h b T)), H) := by
  rw [vcall_go (fn := Try.f130) Try.func130 rfl (by kernel_rfl) rfl]
  simp [hI.one', hI.cells, hT.one', hT.cells, sNodeCount_c, sized_c _ _ _ _ _ _ (hI.app _) (hT.app _) hl]
  refine br_dec _ ?_ ?_ <;> intro h1
  · simp [h1, hI.one', hI.cells, hT.one', hT.cells, sNodeCount_c]
    have hc := cnt_range w h
    have no : ∀ i j : Nat, i < (cnt w h).toNat → j < (cnt w h).toNat → ¬ good w h b T i j → ¬ tableOk w h b T := fun i j hi hj hg hh => hg (((tableOk_iff w h b T).1 hh).2 i hi j hj)
    refine go_inv (fun n t H' => ∃ (i : Nat) (G : Heap), n = (cnt w h).toNat - i ∧ i ≤ (cnt w h).toNat ∧ t 2 = .pointer (some ⟨H.length, 0, some 0⟩) ∧ t 3 = .pointer (some ⟨H.length + 1, 0, some 0⟩) ∧
      t 5 = .int .i64 (cnt w h) ∧ t 6 = .int .i64 i ∧ H' = H ++ ⟨[.int .i64 w, .int .i64 h, v], 0, 38⟩ :: ⟨[u], 0, 40⟩ :: G ∧ ∀ a, a < i → ∀ c, c < (cnt w h).toNat → good w h b T a c) ?_
      (n := (cnt w h).toNat) ⟨0, [], by simp⟩
    rintro n t H' ⟨i, G, rfl, hi, h2, h3, h5, h6, rfl, hk⟩ ih
    simp [h2, h3, h5, h6]
    refine br_dec _ ?_ ?_ <;> intro hlt
    · simp [h2, h3, h5, h6, hlt]
      refine go_inv (fun n t H' => ∃ (j : Nat) (G : Heap), n = (cnt w h).toNat - j ∧ j ≤ (cnt w h).toNat ∧ t 2 = .pointer (some ⟨H.length, 0, some 0⟩) ∧ t 3 = .pointer (some ⟨H.length + 1, 0, some 0⟩) ∧
        t 5 = .int .i64 (cnt w h) ∧ t 6 = .int .i64 i ∧ t 7 = .int .i64 j ∧ H' = H ++ ⟨[.int .i64 w, .int .i64 h, v], 0, 38⟩ :: ⟨[u], 0, 40⟩ :: G ∧ ∀ c, c < j → good w h b T i c) ?_
        (n := (cnt w h).toNat) ⟨0, G, by simp [h2, h3, h5, h6]⟩
      clear h2 h3 h5 h6
      rintro n t H' ⟨j, G, rfl, hj, h2, h3, h5, h6, h7, rfl, hkj⟩ ih2
      simp [h2, h3, h5, h6, h7]
      refine br_dec _ ?_ ?_ <;> intro hlj
      · have ni : i < (cnt w h).toNat := by omega
        have nj : j < (cnt w h).toNat := by omega
        obtain ⟨k0, k1, k2, k3⟩ := at_small (isN_nat ni) (isN_nat ni)
        have hTl := h1.2
        have e1 : IntKind.i64.wrap (i * cnt w h) = i * cnt w h := w64 (by omega) (by omega)
        have e2 : IntKind.i64.wrap (i * cnt w h + i) = i * cnt w h + i := w64 (by omega) (by omega)
        have q1 : ∀ L, vindexAddr Try.prog (H ++ L) 24 u (.int .i64 (i * cnt w h + i)) = some (elp u (i * cnt w h + i : Int).toNat) := fun L => hT.idxA (e := 3) (by simp) k0 (by omega)
        have q2 : ∀ L, vload Try.prog (H ++ L) 3 (elp u (i * cnt w h + i : Int).toNat) = some (.int .i64 (portOf w h T i i)) := fun L => hT.loadA (by simp) (by omega)
        have sw := fun F L => sWalk_c (frz := F) (H := H ++ L) w h v u b T i j (hI.app _) (hT.app _) hl h1 (isN_nat ni) (isN_nat nj)
        have yes := fun (t' : Env) (G' : Heap) (x2 : t' 2 = .pointer (some ⟨H.length, 0, some 0⟩)) (x3 : t' 3 = .pointer (some ⟨H.length + 1, 0, some 0⟩)) (x5 : t' 5 = .int .i64 (cnt w h)) (x6 : t' 6 = .int .i64 i) (x7 : t' 7 = .int .i64 (j + 1 : Nat)) (hg : good w h b T i j) =>
          ih2 ((cnt w h).toNat - (j + 1)) t' _ ⟨j + 1, G', rfl, by omega, x2, x3, x5, x6, x7, rfl, fun c hc' => by
            by_cases hcj : c < j
            · exact hkj c hcj
            · have : c = j := by omega
              subst this; exact hg⟩ (by omega)
        simp [h2, h3, h5, h6, h7, hlj]
        refine gd_dec _ _ ?_ ?_ <;> intro hij
        · obtain rfl : i = j := by omega
          simp [h2, h3, h5, h6, h7, hlj, e1, e2, q1, q2]
          refine gd_dec _ _ ?_ ?_ <;> intro hp
          · simp [h2, h3, h5, h6, h7, hlj, hp]
            refine yes _ _ (by simp [h2]) (by simp [h3]) (by simp [h5]) (by simp [h6]) ?_ ⟨fun _ => hp, fun hh => absurd rfl hh⟩
            simp; rw [w64 (by omega) (by omega)]
          · simp [h2, h3, h5, h6, h7, hlj, hp]
            exact no i i ni ni (fun hg => hp (hg.1 rfl))
        · simp [h2, h3, h5, h6, h7, hlj, hij, hI.one', hI.cells, hT.one', hT.cells, sw]
          refine br_dec _ ?_ ?_ <;> intro hp
          · simp [h2, h3, h5, h6, h7, hlj, hp]
            exact no i j ni nj (fun hg => hg.2 hij hp)
          · simp [h2, h3, h5, h6, h7, hlj, hp]
            refine yes _ _ (by simp [h2]) (by simp [h3]) (by simp [h5]) (by simp [h6]) ?_ ⟨fun hh => absurd hh hij, fun _ => hp⟩
            simp; rw [w64 (by omega) (by omega)]
      · have : j = (cnt w h).toNat := by omega
        subst this
        simp [h2, h3, h5, h6, h7, hlj]
        refine ih ((cnt w h).toNat - (i + 1)) _ _ ⟨i + 1, G, rfl, by omega, by simp [h2], by simp [h3], by simp [h5], ?_, rfl, fun a ha c hc' => ?_⟩ (by omega)
        · simp; rw [w64 (by omega) (by omega)]
        · by_cases hai : a < i
          · exact hk a hai c hc'
          · have : a = i := by omega
            subst this; exact hkj c hc'
    · simp [h2, h3, h5, h6, hlt]
      have : i = (cnt w h).toNat := by omega
      subst this
      exact (tableOk_iff w h b T).2 ⟨h1, hk⟩
  · simp [h1]
    exact fun k => h1 k.1
theorem areInside_c (v : Value) (xs : List Int) (lo hi : Int) (hI : IsI H v xs) (hl : xs.length ≤ 1073741824) :
   vcall C frz 68 [v, .int .i64 lo, .int .i64 hi] H = some (.bool (decide (∀ x ∈ xs, inR lo x hi)), H) := by
  rw [vcall_go (fn := Try.f68) Try.func68 rfl (by kernel_rfl) rfl]
  simp [hI.len]
  refine go_inv (fun n t H' => ∃ i : Nat, n = xs.length - i ∧ i ≤ xs.length ∧ t 1 = .int .i64 lo ∧ t 2 = .int .i64 hi ∧ t 9 = v ∧ t 10 = .int .i64 xs.length ∧ t 11 = .int .i64 i ∧ H' = H ∧ ∀ x ∈ xs.take i, inR lo x hi) ?_ (n := xs.length) ⟨0, by simp⟩
  rintro n t H' ⟨i, rfl, hi', h1, h2, h3, h4, h5, rfl, hj⟩ ih
  simp [h1, h2, h3, h4, h5]
  refine br_dec _ ?_ ?_ <;> intro h6
  · simp [h1, h2, h3, h4, h5, h6, hI.idx, hI.load, getD_get, inside_c]
    refine br_dec _ ?_ ?_ <;> intro h7 <;> simp [h1, h2, h3, h4, h5, h6, h7]
    · refine ih (xs.length - (i + 1)) _ _ ⟨i + 1, rfl, by omega, by simp [h1], by simp [h2], by simp [h3], by simp [h4], ?_, rfl, fun x hx => ?_⟩ (by omega)
      · simp; rw [w64 (by omega) (by omega)]
      · rw [List.take_succ_eq_append_getElem h6] at hx
        rcases List.mem_append.1 hx with hx | hx
        · exact hj x hx
        · rw [List.mem_singleton.1 hx]; exact h7
    · exact ⟨_, List.getElem_mem h6, h7⟩
  · have : i = xs.length := by omega
    subst this
    simp [h1, h2, h3, h4, h5]
    rwa [List.take_length] at hj
def rowPairs (n a m : Nat) : List (Nat × Nat) := ((List.range m).filter (fun c => a ≠ c)).map fun c => (a, c)
/-- the pairs in the order of the visits -/
def allPairs (n m : Nat) : List (Nat × Nat) := (List.range m).flatMap fun a => rowPairs n a n
theorem rowPairs_eq (n a m : Nat) (h : a = m) : rowPairs n a (m + 1) = rowPairs n a m := by
  simp [rowPairs, List.range_succ, h]
theorem rowPairs_ne (n a m : Nat) (h : a ≠ m) : rowPairs n a (m + 1) = rowPairs n a m ++ [(a, m)] := by
  simp [rowPairs, List.range_succ, h]
theorem allPairs_succ (n m : Nat) : allPairs n (m + 1) = allPairs n m ++ rowPairs n m n := by
  simp [allPairs, List.range_succ]
theorem mem_allPairs {n a c : Nat} : (a, c) ∈ allPairs n n ↔ a < n ∧ c < n ∧ a ≠ c := by
  simp [allPairs, rowPairs]
theorem pairs_w (w h : Int) (f : Value) {Q : Value → Heap → Prop} (Inv : List (Nat × Nat) → Heap → Prop)
    (h0 : Inv [] (H ++ [⟨[.int .i64 w, .int .i64 h], 0, 36⟩]))
    (hs : ∀ (done : List (Nat × Nat)) (a c : Nat) (H' : Heap), a < (cnt w h).toNat → c < (cnt w h).toNat → a ≠ c → Inv done H' → wp (vclos (vcall C frz) f [.int .i64 a, .int .i64 c] H') fun r H'' => (r = .bool true ∧ Inv (done ++ [(a, c)]) H'') ∨ (r = .bool false ∧ Q (.bool false) H''))
    (he : ∀ H', Inv (allPairs (cnt w h).toNat (cnt w h).toNat) H' → Q (.bool true) H') :
    wp (vcall C frz 174 [.agg #[.int .i64 w, .int .i64 h], f] H) Q := by
  rw [vcall_go (fn := Try.f174) Try.func174 rfl (by kernel_rfl) rfl]
  have hc := cnt_range w h
  simp [nodeCount_c]
  refine wp_inv (fun n t H' => ∃ (i : Nat), n = (cnt w h).toNat - i ∧ i ≤ (cnt w h).toNat ∧ t 1 = f ∧ t 5 = .int .i64 (cnt w h) ∧ t 10 = .int .i64 (cnt w h) ∧ t 11 = .int .i64 i ∧
    Inv (allPairs (cnt w h).toNat i) H') ?_ (n := (cnt w h).toNat) ⟨0, by simp [allPairs, h0]⟩
  rintro n t H' ⟨i, rfl, hi, h1, h5, h10, h11, hk⟩ ih
  simp [h1, h5, h10, h11]
  refine wp_dec ?_ ?_ <;> intro hlt
  · simp [h1, h5, h10, h11, hlt]
    refine wp_inv (fun n t H' => ∃ (j : Nat), n = (cnt w h).toNat - j ∧ j ≤ (cnt w h).toNat ∧ t 1 = f ∧ t 5 = .int .i64 (cnt w h) ∧ t 10 = .int .i64 (cnt w h) ∧ t 11 = .int .i64 i ∧ t 6 = .int .i64 i ∧ t 14 = .int .i64 (cnt w h) ∧ t 15 = .int .i64 j ∧
      Inv (allPairs (cnt w h).toNat i ++ rowPairs (cnt w h).toNat i j) H') ?_ (n := (cnt w h).toNat) ⟨0, by simp [h1, h5, h10, h11, rowPairs, hk]⟩
    clear h1 h5 h10 h11 hk
    rintro n t H' ⟨j, rfl, hj, h1, h5, h10, h11, h6, h14, h15, hk⟩ ih2
    simp [h1, h5, h10, h11, h6, h14, h15]
    refine wp_dec ?_ ?_ <;> intro hlj
    · have ni : i < (cnt w h).toNat := by omega
      have nj : j < (cnt w h).toNat := by omega
      have yes := fun (t' : Env) (H' : Heap) (x1 : t' 1 = f) (x5 : t' 5 = .int .i64 (cnt w h)) (x10 : t' 10 = .int .i64 (cnt w h)) (x11 : t' 11 = .int .i64 i) (x6 : t' 6 = .int .i64 i) (x14 : t' 14 = .int .i64 (cnt w h)) (x15 : t' 15 = .int .i64 (j + 1 : Nat)) (hg : Inv (allPairs (cnt w h).toNat i ++ rowPairs (cnt w h).toNat i (j + 1)) H') =>
        ih2 ((cnt w h).toNat - (j + 1)) t' H' ⟨j + 1, rfl, by omega, x1, x5, x10, x11, x6, x14, x15, hg⟩ (by omega)
      simp [h1, h5, h10, h11, h6, h14, h15, hlj]
      refine wpg_dec ?_ ?_ <;> intro hij
      · simp [h1, h5, h10, h11, h6, h14, h15, hlj, hij]
        refine yes _ _ (by simp [h1]) (by simp [h5]) (by simp [h10]) (by simp [h11]) (by simp [h6]) (by simp [h14]) ?_ (by rw [rowPairs_eq _ _ _ (by omega)]; exact hk)
        simp; rw [w64 (by omega) (by omega)]
      · simp [h1, h5, h10, h11, h6, h14, h15, hlj, hij]
        refine wp_thn (hs _ i j H' ni nj (by omega) hk) ?_
        rintro r H'' (⟨rfl, hq⟩ | ⟨rfl, hq⟩)
        · simp [h1, h5, h10, h11, h6, h14, h15, hlj, hij]
          refine yes _ _ (by simp [h1]) (by simp [h5]) (by simp [h10]) (by simp [h11]) (by simp [h6]) (by simp [h14]) ?_ (by rw [rowPairs_ne _ _ _ (by omega), ← List.append_assoc]; exact hq)
          simp; rw [w64 (by omega) (by omega)]
        · simp [h1, h5, h10, h11, h6, h14, h15, hlj, hij]
          exact hq
    · have : j = (cnt w h).toNat := by omega
      subst this
      simp [h1, h5, h10, h11, h6, h14, h15, hlj]
      refine ih ((cnt w h).toNat - (i + 1)) _ _ ⟨i + 1, rfl, by omega, by simp [h1], by simp [h5], by simp [h10], ?_, by rw [allPairs_succ]; exact hk⟩ (by omega)
      · simp; rw [w64 (by omega) (by omega)]
  · simp [h1, h5, h10, h11, hlt]
    have : i = (cnt w h).toNat := by omega
    subst this
    exact he _ hk
theorem tableOk1_c (w h : Int) (v u : Value) (b T : List Int) (a c : Int) (r1 r2 : Nat) (hI : IsI H v b) (hT : IsI H u T) (hl : b.length ≤ 1073741824) (hz : tsized w h b T) (ha : isN w h a) (hto : isN w h c) (hne : a ≠ c)
    (g1 : H[r1]? = some ⟨[.int .i64 w, .int .i64 h, v], 0, 38⟩) (g2 : H[r2]? = some ⟨[u], 0, 40⟩) :
   vcall C frz 175 [.int .i64 a, .int .i64 c, .pointer (some ⟨r1, 0, some 0⟩), .pointer (some ⟨r2, 0, some 0⟩)] H = some (.bool (!decide (walk w h b T a c = [])), H) := by
  rw [vcall_go (fn := Try.f175) Try.func175 rfl (by kernel_rfl) rfl]
  simp [VM.look, g1, g2, hI.one', hI.cells, hT.one', hT.cells, walk_c _ _ _ _ _ _ _ _ hI hT hl hz ha hto hne]
  by_cases hw : walk w h b T a c = []
  · simp [ret, hw]
  · have : 0 < (walk w h b T a c).length := List.length_pos_iff.2 hw
    simp [ret, hw, this]
theorem tableOk_w (w h : Int) (v u : Value) (b T : List Int) (hI : IsI H v b) (hT : IsI H u T) (hl : b.length ≤ 1073741824) :
   wp (vcall C frz 132 [.agg #[.int .i64 w, .int .i64 h, v], .agg #[u]] H) (fun r _ => r = .bool (decide (tableOk w h b T))) := by
  rw [vcall_go (fn := Try.f132) Try.func132 rfl (by kernel_rfl) rfl]
  simp [hI.one', hI.cells, hT.one', hT.cells, nodeCount_c, meshOk_c _ _ _ _ (hI.app _) hl]
  refine wpg_dec ?_ ?_ <;> intro hm
  · simp [hm, hT.lenA, sq_small]
    refine wp_dec ?_ ?_ <;> intro hz
    · simp [hz]
      have hs : tsized w h b T := ⟨hm, hz⟩
      have hc := cnt_range w h
      refine wp_inv (fun n t H' => ∃ (i : Nat), n = (cnt w h).toNat - i ∧ i ≤ (cnt w h).toNat ∧ t 2 = .pointer (some ⟨H.length, 0, some 0⟩) ∧ t 3 = .pointer (some ⟨H.length + 1, 0, some 0⟩) ∧ t 5 = .int .i64 (cnt w h) ∧ t 22 = .int .i64 (cnt w h) ∧ t 23 = .int .i64 i ∧
        H' = H ++ [⟨[.int .i64 w, .int .i64 h, v], 0, 38⟩, ⟨[u], 0, 40⟩] ∧ ∀ a, a < i → portOf w h T a a = 4) ?_ (n := (cnt w h).toNat) ⟨0, by simp⟩
      rintro n t H' ⟨i, rfl, hi, h2, h3, h5, h22, h23, rfl, hk⟩ ih
      simp [h2, h3, h5, h22, h23]
      refine wp_dec ?_ ?_ <;> intro hlt
      · have ni : i < (cnt w h).toNat := by omega
        obtain ⟨k0, k1, k2, k3⟩ := at_small (isN_nat ni) (isN_nat ni)
        have e1 : IntKind.i64.wrap (i * cnt w h) = i * cnt w h := w64 (by omega) (by omega)
        have e2 : IntKind.i64.wrap (i * cnt w h + i) = i * cnt w h + i := w64 (by omega) (by omega)
        have q1 : ∀ L, vindexAddr Try.prog (H ++ L) 24 u (.int .i64 (i * cnt w h + i)) = some (elp u (i * cnt w h + i : Int).toNat) := fun L => hT.idxA (e := 3) (by simp) k0 (by omega)
        have q2 : ∀ L, vload Try.prog (H ++ L) 3 (elp u (i * cnt w h + i : Int).toNat) = some (.int .i64 (portOf w h T i i)) := fun L => hT.loadA (by simp) (by omega)
        simp [h2, h3, h5, h22, h23, hlt, e1, e2, q1, q2]
        refine wp_dec ?_ ?_ <;> intro hp
        · simp [h2, h3, h5, h22, h23, hlt, hp]
          refine ih ((cnt w h).toNat - (i + 1)) _ _ ⟨i + 1, rfl, by omega, by simp [h2], by simp [h3], by simp [h5], by simp [h22], ?_, rfl, fun a ha => ?_⟩ (by omega)
          · simp; rw [w64 (by omega) (by omega)]
          · by_cases hai : a < i
            · exact hk a hai
            · have : a = i := by omega
              subst this; exact hp
        · simp [h2, h3, h5, h22, h23, hlt, hp]
          exact fun hh => hp ((hh.2 i ni i ni).1 rfl)
      · simp [h2, h3, h5, h22, h23, hlt]
        have : i = (cnt w h).toNat := by omega
        subst this
        refine wp_thn (pairs_w w h _ (Q := fun r _ => r = .bool (decide (tableOk w h b T))) (fun done H' => ∃ L, H' = H ++ [⟨[.int .i64 w, .int .i64 h, v], 0, 38⟩, ⟨[u], 0, 40⟩] ++ L ∧ ∀ p ∈ done, walk w h b T p.1 p.2 ≠ []) ⟨_, rfl, by simp⟩ ?_ ?_) ?_
        · rintro done a c _ ha hc' hne ⟨L, rfl, hd⟩
          simp
          rw [tableOk1_c w h v u b T a c _ _ (hI.app _) (hT.app _) hl hs (isN_nat ha) (isN_nat hc') (by omega) (by simp) (by simp)]
          simp
          by_cases hw : walk w h b T a c = []
          · refine .inr ⟨hw, ?_⟩
            exact fun hh => (hh.2 a (by omega) c (by omega)).2 (by omega) hw
          · refine .inl ⟨hw, fun p q hp => ?_⟩
            rcases hp with hp | ⟨rfl, rfl⟩
            · exact hd (p, q) hp
            · exact hw
        · rintro _ ⟨L, rfl, hd⟩
          simp
          exact ⟨hs, fun a ha c hc' => ⟨fun _ => hk a ha, fun hne => hd (a, c) (mem_allPairs.2 ⟨ha, hc', hne⟩)⟩⟩
        · rintro _ H' rfl
          simp
    · simp [hz]
      exact fun hh => hz hh.1.2
  · simp [hm]
    exact fun hh => hm hh.1.1
theorem tableOk_c (w h : Int) (v u : Value) (b T : List Int) (hI : IsI H v b) (hT : IsI H u T) (hl : b.length ≤ 1073741824) :
   vcall C frz 132 [.agg #[.int .i64 w, .int .i64 h, v], .agg #[u]] H = some (.bool (decide (tableOk w h b T)), H) :=
  (tableOk_w w h v u b T hI hT hl).exact (by simp) rfl
end Go.Proofs.Ytcigpclbhfkgaaa.V
/-! What unicasts cost. -/
set_option linter.all false
namespace Go.Proofs.Ytcigpclbhfkgaaa.V
open Go Go.VM Go.Proofs
set_option maxRecDepth 10000
variable {frz : Nat} {H : Heap}
def castOk (w h : Int) (b T : List Int) (a : Int) (ts : List Int) : Prop := tableOk w h b T ∧ isN w h a ∧ ∀ x ∈ ts, isN w h x
instance (w h : Int) (b T : List Int) (a : Int) (ts : List Int) : Decidable (castOk w h b T a ts) := inferInstanceAs (Decidable (_ ∧ _))
/-- what single packets to all targets cost -/
def cost (w h : Int) (b T : List Int) (a : Int) (ts : List Int) : Nat := (ts.map fun x => (walk w h b T a x).length).sum
theorem walk_len (w h : Int) (b T : List Int) (a to : Int) : (walk w h b T a to).length ≤ 16 := by
  have := walkN_len w h b T to (cnt w h).toNat a []
  have hc := cnt_range w h
  simp only [walk] at *
  simp at this; omega
theorem cost_succ {w h : Int} {b T : List Int} {a : Int} {ts : List Int} {i : Nat} (hi : i < ts.length) : cost w h b T a (ts.take (i + 1)) = cost w h b T a (ts.take i) + (walk w h b T a ts[i]).length := by
  unfold cost
  rw [List.take_succ_eq_append_getElem hi, List.map_append, List.sum_append]; simp
theorem cost_le (w h : Int) (b T : List Int) (a : Int) (ts : List Int) : cost w h b T a ts ≤ 16 * ts.length := by
  unfold cost
  induction ts with
  | nil => simp
  | cons x ts ih =>
    have := walk_len w h b T a x
    simp only [List.map_cons, List.sum_cons, List.length_cons]; omega
theorem walk_selfT {w h : Int} {b T : List Int} {a : Int} (ht : tableOk w h b T) (ha : isN w h a) : walk w h b T a a = [] := by
  obtain ⟨a0, a1⟩ := ha
  have := (ht.2 a.toNat (by omega) a.toNat (by omega)).1 rfl
  rw [show ((a.toNat : Nat) : Int) = a by omega] at this
  unfold walk
  cases (cnt w h).toNat <;> simp [walkN, this]
theorem walkT_c (w h : Int) (v u : Value) (b T : List Int) (a to : Int) (hI : IsI H v b) (hT : IsI H u T) (hl : b.length ≤ 1073741824) (hz : tableOk w h b T) (ha : isN w h a) (hto : isN w h to) :
   vcall C frz 111 [.agg #[.int .i64 w, .int .i64 h, v], .agg #[u], .int .i64 a, .int .i64 to] H = some (ret H (walk w h b T a to)) := by
  by_cases hne : a = to
  · subst hne
    rw [walk_selfT hz ha, vcall_go (fn := Try.f111) Try.func111 rfl (by kernel_rfl) rfl]
    simp [hI.one', hI.cells, hT.one', hT.cells, ret]
  · exact walk_c w h v u b T a to hI hT hl hz.1 ha hto hne
end Go.Proofs.Ytcigpclbhfkgaaa.V
/-! Latency without load; requests and replies. -/
set_option linter.all false
namespace Go.Proofs.Ytcigpclbhfkgaaa.V
open Go Go.VM Go.Proofs
set_option maxRecDepth 10000
variable {frz : Nat} {H : Heap}
def classesOk (w h : Int) (b A B : List Int) : Prop := tableOk w h b A ∧ tableOk w h b B
instance (w h : Int) (b A B : List Int) : Decidable (classesOk w h b A B) := inferInstanceAs (Decidable (_ ∧ _))
/-- a packet: its number, whence, whither, class, length -/
abbrev PkD := Int × Int × Int × Int × Int
def packetOk (w h : Int) (p : PkD) : Prop := inR 1 p.1 9999 ∧ isN w h p.2.1 ∧ isN w h p.2.2.1 ∧ p.2.1 ≠ p.2.2.1 ∧ inR 0 p.2.2.2.1 1 ∧ inR 1 p.2.2.2.2 5
instance (w h : Int) (p : PkD) : Decidable (packetOk w h p) := inferInstanceAs (Decidable (_ ∧ _))
def pkV (p : PkD) : Value := .agg #[.int .i64 p.1, .int .i64 p.2.1, .int .i64 p.2.2.1, .int .i64 p.2.2.2.1, .int .i64 p.2.2.2.2]
theorem classesOk_c (w h : Int) (v u1 u2 : Value) (b A B : List Int) (hI : IsI H v b) (h1 : IsI H u1 A) (h2 : IsI H u2 B) (hl : b.length ≤ 1073741824) :
   vcall C frz 80 [.agg #[.int .i64 w, .int .i64 h, v], .agg #[u1, u2]] H = some (.bool (decide (classesOk w h b A B)), H) := by
  rw [vcall_go (fn := Try.f80) Try.func80 rfl (by kernel_rfl) rfl]
  have one := And.intro (And.intro h1.one' h1.cells) (And.intro h2.one' h2.cells)
  simp [hI.one', hI.cells, one, tableOk_c _ _ _ _ _ _ (hI.app _) (h1.app _) hl]
  refine gd_dec _ _ ?_ ?_ <;> intro g <;> simp [g, classesOk, hI.one', hI.cells, one, tableOk_c _ _ _ _ _ _ (hI.app _) (h2.app _) hl]
theorem sClassesOk_c (w h : Int) (v u1 u2 : Value) (b A B : List Int) (hI : IsI H v b) (h1 : IsI H u1 A) (h2 : IsI H u2 B) (hl : b.length ≤ 1073741824) :
   vcall C frz 77 [.agg #[.int .i64 w, .int .i64 h, v], .agg #[u1, u2]] H = some (.bool (decide (classesOk w h b A B)), H) := by
  rw [vcall_go (fn := Try.f77) Try.func77 rfl (by kernel_rfl) rfl]
  have one := And.intro (And.intro h1.one' h1.cells) (And.intro h2.one' h2.cells)
  simp [hI.one', hI.cells, one, sTableOk_c _ _ _ _ _ _ (hI.app _) (h1.app _) hl]
  refine gd_dec _ _ ?_ ?_ <;> intro g <;> simp [g, classesOk, hI.one', hI.cells, one, sTableOk_c _ _ _ _ _ _ (hI.app _) (h2.app _) hl]
theorem packetOk_c (w h : Int) (p : PkD) : vcall C frz 93 [.agg #[.int .i64 w, .int .i64 h], pkV p] H = some (.bool (decide (packetOk w h p)), H) := by
  obtain ⟨i, a, b, c, l⟩ := p
  rw [vcall_go (fn := Try.f93) Try.func93 rfl (by kernel_rfl) rfl]
  by_cases g1 : inR 1 i 9999
  · by_cases g2 : isN w h a
    · by_cases g3 : isN w h b
      · by_cases g4 : a = b
        · simp [pkV, inside_c, isNode_c, g1, g2, g3, g4, packetOk]
        · by_cases g5 : inR 0 c 1
          · by_cases g6 : inR 1 l 5 <;> simp [pkV, inside_c, isNode_c, g1, g2, g3, g4, g5, g6, packetOk]
          · simp [pkV, inside_c, isNode_c, g1, g2, g3, g4, g5, packetOk]
      · simp [pkV, inside_c, isNode_c, g1, g2, g3, packetOk]
    · simp [pkV, inside_c, isNode_c, g1, g2, packetOk]
  · simp [pkV, inside_c, isNode_c, g1, packetOk]
theorem sPacketOk_c (w h : Int) (p : PkD) : vcall C frz 91 [.agg #[.int .i64 w, .int .i64 h], pkV p] H = some (.bool (decide (packetOk w h p)), H) := by
  obtain ⟨i, a, b, c, l⟩ := p
  rw [vcall_go (fn := Try.f91) Try.func91 rfl (by kernel_rfl) rfl]
  by_cases g1 : inR 1 i 9999
  · by_cases g2 : isN w h a
    · by_cases g3 : isN w h b
      · by_cases g4 : a = b
        · simp [pkV, l01In_c, l02Has_c, g1, g2, g3, g4, packetOk]
        · by_cases g5 : inR 0 c 1
          · by_cases g6 : inR 1 l 5 <;> simp [pkV, l01In_c, l02Has_c, g1, g2, g3, g4, g5, g6, packetOk]
          · simp [pkV, l01In_c, l02Has_c, g1, g2, g3, g4, g5, packetOk]
      · simp [pkV, l01In_c, l02Has_c, g1, g2, g3, packetOk]
    · simp [pkV, l01In_c, l02Has_c, g1, g2, packetOk]
  · simp [pkV, l01In_c, l02Has_c, g1, packetOk]
def zeroLoad (w h : Int) (b A B : List Int) (p : PkD) : Int :=
  if classesOk w h b A B ∧ packetOk w h p then ((walk w h b (if p.2.2.2.1 = 1 then B else A) p.2.1 p.2.2.1).length : Int) + p.2.2.2.2 + 1 else -1
theorem zeroLoad_range (w h : Int) (b A B : List Int) (p : PkD) : -1 ≤ zeroLoad w h b A B p ∧ zeroLoad w h b A B p ≤ 100 := by
  unfold zeroLoad; split
  · rename_i g
    have h1 := g.2.2.2.2.2.2
    have := walk_len w h b (if p.2.2.2.1 = 1 then B else A) p.2.1 p.2.2.1
    unfold inR at h1; omega
  · omega
theorem tableFor_w (u1 u2 : Value) (A B : List Int) (c : Int) (h1 : IsI H u1 A) (h2 : IsI H u2 B) :
   wp (vcall C frz 112 [.agg #[u1, u2], .int .i64 c] H) (fun r H' => r = .agg #[if c = 1 then u2 else u1] ∧ ∃ L, H' = H ++ L) := by
  rw [vcall_go (fn := Try.f112) Try.func112 rfl (by kernel_rfl) rfl]
  have one := And.intro (And.intro h1.one' h1.cells) (And.intro h2.one' h2.cells)
  simp [one]
  refine wp_dec ?_ ?_ <;> intro g <;> simp [g, one]
theorem zeroLoad_c (w h : Int) (v u1 u2 : Value) (b A B : List Int) (p : PkD) (hI : IsI H v b) (h1 : IsI H u1 A) (h2 : IsI H u2 B) (hl : b.length ≤ 1073741824) :
   vcall C frz 56 [.agg #[.int .i64 w, .int .i64 h, v], .agg #[u1, u2], pkV p] H = some (.int .i64 (zeroLoad w h b A B p), H) := by
  refine wp.exact (by simp) ?_ rfl
  rw [vcall_go (fn := Try.f56) Try.func56 rfl (by kernel_rfl) rfl]
  have one := And.intro (And.intro h1.one' h1.cells) (And.intro h2.one' h2.cells)
  have onev := And.intro hI.one' hI.cells
  have pk := fun F L => packetOk_c (frz := F) (H := L) w h p
  have hz : zeroLoad w h b A B p = if classesOk w h b A B ∧ packetOk w h p then ((walk w h b (if p.2.2.2.1 = 1 then B else A) p.2.1 p.2.2.1).length : Int) + p.2.2.2.2 + 1 else -1 := rfl
  obtain ⟨i, a, c, k, l⟩ := p
  simp only [pkV] at pk ⊢
  simp [onev, one, classesOk_c _ _ _ _ _ _ _ _ (hI.app _) (h1.app _) (h2.app _) hl]
  by_cases g1 : classesOk w h b A B
  · by_cases g2 : packetOk w h (i, a, c, k, l)
    · simp [g1, g2, pk, onev, one]
      rw [if_pos ⟨g1, g2⟩] at hz
      obtain ⟨k1, k2, k3, k4, k5, k6⟩ := g2
      simp only at k1 k2 k3 k4 k5 k6 hz
      rw [go_draw (h := by kernel_rfl)]
      simp [onev, one]
      refine wp_thn (tableFor_w u1 u2 A B k (h1.app _) (h2.app _)) ?_
      rintro _ H1 ⟨rfl, L, rfl⟩
      have hT : IsI H (if k = 1 then u2 else u1) (if k = 1 then B else A) := by split <;> assumption
      have hok : tableOk w h b (if k = 1 then B else A) := by split; exact g1.2; exact g1.1
      have hwl := walk_len w h b (if k = 1 then B else A) a c
      generalize (if k = 1 then u2 else u1) = uT at *
      generalize (if k = 1 then B else A) = T at *
      have wt := fun F L => walkT_c (frz := F) (H := H ++ L) w h v uT b T a c (hI.app _) (hT.app _) hl hok k2 k3
      simp only [List.append_assoc]
      unfold inR at k6
      have f0 : ∀ [Inhabited Unit], IntKind.i64.wrap l = l := by intro _; exact w64 (by omega) (by omega)
      have f1 : ∀ [Inhabited Unit], IntKind.i64.wrap (l + 1) = l + 1 := by intro _; exact w64 (by omega) (by omega)
      have f2 : ∀ [Inhabited Unit], IntKind.i64.wrap ((walk w h b T a c).length + l) = (walk w h b T a c).length + l := by intro _; exact w64 (by omega) (by omega)
      have f3 : ∀ [Inhabited Unit], IntKind.i64.wrap ((walk w h b T a c).length + l + 1) = (walk w h b T a c).length + l + 1 := by intro _; exact w64 (by omega) (by omega)
      simp [onev, one, hT.one', hT.cells, wt, hz]
      unfold ret
      by_cases h0 : walk w h b T a c = []
      · simp [h0, f0, f1]
      · simp [h0, f2, f3]
    · simp [g1, g2, pk, onev, one, hz]
  · by_cases g2 : packetOk w h (i, a, c, k, l) <;> simp [g1, g2, pk, onev, one, hz]
theorem sL27_c (w h : Int) (v u1 u2 : Value) (b A B : List Int) (i a c k l : Int) (hI : IsI H v b) (h1 : IsI H u1 A) (h2 : IsI H u2 B) (hl : b.length ≤ 1073741824) (g1 : classesOk w h b A B) (k2 : isN w h a) (k3 : isN w h c) (k4 : a ≠ c) (k6 : inR 1 l 5) :
   vcall C frz 110 [.agg #[.int .i64 w, .int .i64 h, v], .agg #[u1, u2], .agg #[.int .i64 i, .int .i64 a, .int .i64 c, .int .i64 k, .int .i64 l]] H = some (.int .i64 (((walk w h b (if k = 1 then B else A) a c).length : Int) + l + 1), H) := by
  refine wp.exact (by simp) ?_ rfl
  rw [vcall_go (fn := Try.f110) Try.func110 rfl (by kernel_rfl) rfl]
  have one := And.intro (And.intro h1.one' h1.cells) (And.intro h2.one' h2.cells)
  have onev := And.intro hI.one' hI.cells
  simp [onev, one]
  have core : ∀ (T : List Int), tableOk w h b T → ∀ [Inhabited Unit], IntKind.i64.wrap ((walk w h b T a c).length + l) = (walk w h b T a c).length + l ∧ IntKind.i64.wrap ((walk w h b T a c).length + l + 1) = (walk w h b T a c).length + l + 1 := fun T hT => by
    intro _
    have hwl := walk_len w h b T a c
    unfold inR at k6
    exact ⟨w64 (by omega) (by omega), w64 (by omega) (by omega)⟩
  refine wp_dec ?_ ?_ <;> intro g
  · simp [g, onev, one]
    have sw := fun F L => sWalk_c (frz := F) (H := H ++ L) w h v u2 b B a c (hI.app _) (h2.app _) hl g1.2.1 k2 k3
    rw [go_draw (h := by kernel_rfl)]
    simp [onev, one, sw, core B g1.2]
  · simp [g, onev, one]
    have sw := fun F L => sWalk_c (frz := F) (H := H ++ L) w h v u1 b A a c (hI.app _) (h1.app _) hl g1.1.1 k2 k3
    rw [go_draw (h := by kernel_rfl)]
    simp [onev, one, sw, core A g1.1]
theorem sZeroLoad_c (w h : Int) (v u1 u2 : Value) (b A B : List Int) (p : PkD) (hI : IsI H v b) (h1 : IsI H u1 A) (h2 : IsI H u2 B) (hl : b.length ≤ 1073741824) :
   vcall C frz 53 [.agg #[.int .i64 w, .int .i64 h, v], .agg #[u1, u2], pkV p] H = some (.int .i64 (zeroLoad w h b A B p), H) := by
  refine wp.exact (by simp) ?_ rfl
  rw [vcall_go (fn := Try.f53) Try.func53 rfl (by kernel_rfl) rfl]
  have one := And.intro (And.intro h1.one' h1.cells) (And.intro h2.one' h2.cells)
  have onev := And.intro hI.one' hI.cells
  have pk := fun F L => sPacketOk_c (frz := F) (H := L) w h p
  have hz : zeroLoad w h b A B p = if classesOk w h b A B ∧ packetOk w h p then ((walk w h b (if p.2.2.2.1 = 1 then B else A) p.2.1 p.2.2.1).length : Int) + p.2.2.2.2 + 1 else -1 := rfl
  obtain ⟨i, a, c, k, l⟩ := p
  simp only [pkV] at pk ⊢
  simp [onev, one, sClassesOk_c _ _ _ _ _ _ _ _ (hI.app _) (h1.app _) (h2.app _) hl]
  by_cases g1 : classesOk w h b A B
  · by_cases g2 : packetOk w h (i, a, c, k, l)
    · simp [g1, g2, pk, onev, one]
      rw [if_pos ⟨g1, g2⟩] at hz
      obtain ⟨k1, k2, k3, k4, k5, k6⟩ := g2
      simp only at k1 k2 k3 k4 k5 k6 hz
      have lz := fun F L => sL27_c (frz := F) (H := H ++ L) w h v u1 u2 b A B i a c k l (hI.app _) (h1.app _) (h2.app _) hl g1 k2 k3 k4 k6
      simp [lz, hz]
    · simp [g1, g2, pk, onev, one, hz]
  · by_cases g2 : packetOk w h (i, a, c, k, l) <;> simp [g1, g2, pk, onev, one, hz]
/-- a request and its reply -/
def replyTime (w h : Int) (b A B : List Int) (p : PkD) (n : Int) : Int :=
  if zeroLoad w h b A B p < 0 ∨ zeroLoad w h b A B (p.1, p.2.2.1, p.2.1, IntKind.i64.wrap (1 - p.2.2.2.1), n) < 0 then -1 else zeroLoad w h b A B p + zeroLoad w h b A B (p.1, p.2.2.1, p.2.1, IntKind.i64.wrap (1 - p.2.2.2.1), n)
theorem zeroLoad_id {w h : Int} {b A B : List Int} {i j a c k l : Int} (h1 : inR 1 i 9999) (h2 : inR 1 j 9999) : zeroLoad w h b A B (i, a, c, k, l) = zeroLoad w h b A B (j, a, c, k, l) := by
  unfold zeroLoad packetOk
  simp only [h1, h2]
theorem replyTime_c (w h : Int) (v u1 u2 : Value) (b A B : List Int) (i a c k l n : Int) (hI : IsI H v b) (h1 : IsI H u1 A) (h2 : IsI H u2 B) (hl : b.length ≤ 1073741824) :
   vcall C frz 17 [.agg #[.int .i64 w, .int .i64 h, v], .agg #[u1, u2], .agg #[.int .i64 i, .int .i64 a, .int .i64 c, .int .i64 k, .int .i64 l], .int .i64 n] H = some (.int .i64 (replyTime w h b A B (i, a, c, k, l) n), H) := by
  refine wp.exact (by simp) ?_ rfl
  rw [vcall_go (fn := Try.f17) Try.func17 rfl (by kernel_rfl) rfl]
  have one := And.intro (And.intro h1.one' h1.cells) (And.intro h2.one' h2.cells)
  have onev := And.intro hI.one' hI.cells
  have z1 := fun F L => zeroLoad_c (frz := F) (H := H ++ L) w h v u1 u2 b A B (i, a, c, k, l) (hI.app _) (h1.app _) (h2.app _) hl
  have z2 := fun F L => zeroLoad_c (frz := F) (H := H ++ L) w h v u1 u2 b A B (i, c, a, IntKind.i64.wrap (1 - k), n) (hI.app _) (h1.app _) (h2.app _) hl
  simp only [pkV] at z1 z2
  have r1 := zeroLoad_range w h b A B (i, a, c, k, l)
  have r2 := zeroLoad_range w h b A B (i, c, a, IntKind.i64.wrap (1 - k), n)
  unfold replyTime
  simp only
  generalize hq : IntKind.i64.wrap (1 - k) = kk at *
  generalize zeroLoad w h b A B (i, a, c, k, l) = Z1 at *
  generalize zeroLoad w h b A B (i, c, a, kk, n) = Z2 at *
  have e1 : ∀ [Inhabited Unit], IntKind.i64.wrap (Z1 + Z2) = Z1 + Z2 := by intro _; exact w64 (by omega) (by omega)
  simp [onev, one, hq]
  rw [go_draw (h := by kernel_rfl)]
  simp [onev, one, z1, z2]
  by_cases g1 : Z1 < 0
  · simp [g1]
  · by_cases g2 : Z2 < 0 <;> simp [g1, g2, e1]
theorem replyTime_d {v : Value} {u : Value × Value} {w h : Int} {b A B : List Int} {i a c k l n : Int} (o1 : dMesh.Ow H v (w, h, b)) (o2 : dClasses.Ow H u (A, B)) :
   vcall C frz 17 [dMesh.val v (w, h, b), dClasses.val u (A, B), .agg #[.int .i64 i, .int .i64 a, .int .i64 c, .int .i64 k, .int .i64 l], .int .i64 n] H = some (.int .i64 (replyTime w h b A B (i, a, c, k, l) n), H) :=
  replyTime_c w h v u.1 u.2 b A B i a c k l n o1.1.rd.isI o2.1.1.rd.isI o2.2.1.rd.isI o1.2
theorem sReplyTime_c (w h : Int) (v u1 u2 : Value) (b A B : List Int) (i a c k l n : Int) (hI : IsI H v b) (h1 : IsI H u1 A) (h2 : IsI H u2 B) (hl : b.length ≤ 1073741824) :
   vcall C frz 13 [.agg #[.int .i64 w, .int .i64 h, v], .agg #[u1, u2], .agg #[.int .i64 i, .int .i64 a, .int .i64 c, .int .i64 k, .int .i64 l], .int .i64 n] H = some (.int .i64 (replyTime w h b A B (i, a, c, k, l) n), H) := by
  refine wp.exact (by simp) ?_ rfl
  rw [vcall_go (fn := Try.f13) Try.func13 rfl (by kernel_rfl) rfl]
  have one := And.intro (And.intro h1.one' h1.cells) (And.intro h2.one' h2.cells)
  have onev := And.intro hI.one' hI.cells
  have z1 := fun F L => sZeroLoad_c (frz := F) (H := H ++ L) w h v u1 u2 b A B (i, a, c, k, l) (hI.app _) (h1.app _) (h2.app _) hl
  have z2 := fun F L => sZeroLoad_c (frz := F) (H := H ++ L) w h v u1 u2 b A B (1, c, a, IntKind.i64.wrap (1 - k), n) (hI.app _) (h1.app _) (h2.app _) hl
  simp only [pkV] at z1 z2
  have r1 := zeroLoad_range w h b A B (i, a, c, k, l)
  have r2 := zeroLoad_range w h b A B (1, c, a, IntKind.i64.wrap (1 - k), n)
  have same : ¬ zeroLoad w h b A B (i, a, c, k, l) < 0 → zeroLoad w h b A B (i, c, a, IntKind.i64.wrap (1 - k), n) = zeroLoad w h b A B (1, c, a, IntKind.i64.wrap (1 - k), n) := fun hz => by
    refine zeroLoad_id ?_ (by decide)
    unfold zeroLoad at hz
    split at hz
    · rename_i g; exact g.2.1
    · omega
  unfold replyTime
  simp only
  generalize hq : IntKind.i64.wrap (1 - k) = kk at *
  generalize zeroLoad w h b A B (i, a, c, k, l) = Z1 at *
  generalize zeroLoad w h b A B (1, c, a, kk, n) = Z2 at *
  generalize zeroLoad w h b A B (i, c, a, kk, n) = Z3 at *
  have e1 : ∀ [Inhabited Unit], IntKind.i64.wrap (Z1 + Z2) = Z1 + Z2 := by intro _; exact w64 (by omega) (by omega)
  simp [onev, one, z1, hq, z2]
  by_cases g1 : Z1 < 0
  · simp [g1]
  · rw [same g1]
    by_cases g2 : Z2 < 0 <;> simp [g1, g2, e1]
theorem sReplyTime_d {v : Value} {u : Value × Value} {w h : Int} {b A B : List Int} {i a c k l n : Int} (o1 : dMesh.Ow H v (w, h, b)) (o2 : dClasses.Ow H u (A, B)) :
   vcall C frz 13 [dMesh.val v (w, h, b), dClasses.val u (A, B), .agg #[.int .i64 i, .int .i64 a, .int .i64 c, .int .i64 k, .int .i64 l], .int .i64 n] H = some (.int .i64 (replyTime w h b A B (i, a, c, k, l) n), H) :=
  sReplyTime_c w h v u.1 u.2 b A B i a c k l n o1.1.rd.isI o2.1.1.rd.isI o2.2.1.rd.isI o1.2
theorem toPacket_c (i a c k l : Int) : vcall C frz 16 [.agg #[.int .i64 i, .int .i64 a, .int .i64 c, .int .i64 k, .int .i64 l]] H = some (.agg #[.int .i64 i, .int .i64 a, .int .i64 c, .int .i64 k, .int .i64 l], H) := by
  rw [vcall_go (fn := Try.f16) Try.func16 rfl (by kernel_rfl) rfl]
  simp
end Go.Proofs.Ytcigpclbhfkgaaa.V
/-! New networks. -/
set_option linter.all false
namespace Go.Proofs.Ytcigpclbhfkgaaa.V
open Go Go.VM Go.Proofs
set_option maxRecDepth 10000
variable {frz : Nat} {H : Heap}
def net0 : NetD := ((0, 0, []), ([], []), [], [], [], [], [], 0)
/-- a new network -/
def netNew (m : MeshD) (t : ClassesD) : NetD :=
  if classesOk m.1 m.2.1 m.2.2 t.1 t.2 then (m, t, List.replicate (10 * (cnt m.1 m.2.1).toNat) [], List.replicate (10 * (cnt m.1 m.2.1).toNat) (-1), List.replicate (5 * (cnt m.1 m.2.1).toNat) 0, List.replicate (cnt m.1 m.2.1).toNat [], List.replicate (cnt m.1 m.2.1).toNat [], 0) else net0
/-- slices that are empty -/
theorem emptyS {id n : Nat} (h : H[id]? = some ⟨List.replicate n (.slice none 0 0), 0, 123⟩) (hn : n ≤ 2097152) : dSS.Ow H (.slice (some ⟨id, 0, some 0⟩) n 0, List.replicate n (.slice none 0 0)) (List.replicate n []) := by
  refine ⟨⟨.inr ⟨id, 0, _, by simp, h, ?_, by simp, rfl, ?_⟩, by simp, fun j a xs ha hx => ?_⟩, by simpa using hn, fun xs hx => ?_⟩
  · simp [cellsOf, Fl.val]
  · simp [ones]
  · rw [List.getElem?_replicate] at ha hx
    split at ha
    · cases ha; rename_i hj; rw [if_pos hj] at hx; cases hx; exact .inl ⟨rfl, rfl⟩
    · cases ha
  · have := List.eq_of_mem_replicate hx; subst this; simp
theorem zeroI {id n : Nat} (h : H[id]? = some ⟨List.replicate n (.int .i64 0), 0, 3⟩) (hn : n ≤ 1073741824) : dIntS.Ow H (.slice (some ⟨id, 0, some 0⟩) n 0) (List.replicate n 0) := by
  refine ⟨.inr ⟨id, 0, _, by simp, h, ?_, by simp, rfl, ?_⟩, by simpa using hn⟩
  · rw [cellsOf_int]; simp
  · simp [ones]
theorem ssIds (id n m : Nat) : dSS.ids (.slice (some ⟨id, 0, some 0⟩) n 0, List.replicate m (.slice none 0 0)) = [id] := by
  show idsL _ _ = _
  have : ∀ m, (List.replicate m (Value.slice none 0 0)).flatMap ids = [] := fun m => by
    induction m with
    | zero => rfl
    | succ m ih => rw [List.replicate_succ, List.flatMap_cons, ih]; rfl
  unfold idsL; rw [this]; rfl
def nV0 : NetV := (.slice none 0 0, (.slice none 0 0, .slice none 0 0), (.slice none 0 0, []), .slice none 0 0, .slice none 0 0, (.slice none 0 0, []), (.slice none 0 0, []), ())
theorem nV0_ids : dNet.ids nV0 = [] := by simp [nV0, dNet, dNet0, dAnd, dSS, dMesh, dClasses, dIntS, dTable, dFlat, dNone, idsL, ids]
theorem net0_ow (K : Heap) : dNet.Ow K nV0 net0 := by
  have e1 : dIntS.Ow K (.slice none 0 0) [] := ⟨.inl ⟨rfl, rfl⟩, by simp⟩
  have e2 : dSS.Ow K (.slice none 0 0, []) [] := ⟨⟨.inl ⟨rfl, rfl⟩, rfl, by simp⟩, by simp, by simp⟩
  exact ⟨e1, ⟨e1, e1⟩, e2, e1, e1, e2, e2, trivial⟩
theorem net0_made {K : Heap} (c : Chg H K []) : dNet.Made H net0 (.agg #[.int .i64 0, .int .i64 0, .slice none 0 0, .slice none 0 0, .slice none 0 0, .slice none 0 0, .slice none 0 0, .slice none 0 0, .slice none 0 0, .slice none 0 0, .int .i64 0]) K :=
  ⟨nV0, rfl, net0_ow K, c, by rw [nV0_ids]; simp, by rw [nV0_ids]; simp⟩
theorem netNew_w {vm : Value} {m : MeshD} {vc : Value × Value} {t : ClassesD} (om : dMesh.Ow H vm m) (oc : dClasses.Ow H vc t) :
   wp (vcall C frz 73 [dMesh.val vm m, dClasses.val vc t] H) (Made2 dNet H (netNew m t) (decide (classesOk m.1 m.2.1 m.2.2 t.1 t.2))) := by
  obtain ⟨w, h, b⟩ := m
  obtain ⟨A, B⟩ := t
  have onem := dMesh_one om
  have onec := dClasses_one oc
  obtain ⟨u1, u2⟩ := vc
  rw [dMesh_val, dClasses_val]
  simp only at onem onec ⊢
  rw [vcall_go (fn := Try.f73) Try.func73 rfl (by kernel_rfl) rfl]
  have ck := fun F L => classesOk_c (frz := F) (H := H ++ L) w h vm u1 u2 b A B (Rd.isI om.1.rd.app) (Rd.isI oc.1.1.rd.app) (Rd.isI oc.2.1.rd.app) om.2
  simp [onem, onec, ck]
  by_cases g0 : classesOk w h b A B
  rotate_left
  · simp [g0]
    have e : netNew (w, h, b) (A, B) = net0 := if_neg g0
    rw [e]
    exact ⟨_, rfl, net0_made (Chg.app _)⟩
  obtain ⟨N, hN⟩ : ∃ N : Nat, cnt w h = N := ⟨(cnt w h).toNat, by have := cnt_range w h; omega⟩
  have hNr := cnt_range w h
  have eN : (cnt w h).toNat = N := by rw [hN]; simp
  simp [g0, nodeCount_c]
  obtain ⟨G0, hG0⟩ : ∃ G, G = H ++ [⟨[.int .i64 w, .int .i64 h, vm], 0, 38⟩, ⟨[u1, u2], 0, 42⟩, ⟨[.int .i64 0, .int .i64 0, .slice none 0 0, .slice none 0 0, .slice none 0 0, .slice none 0 0, .slice none 0 0, .slice none 0 0, .slice none 0 0, .slice none 0 0, .int .i64 0], 0, 59⟩] := ⟨_, rfl⟩
  have b0 : G0[H.length]? = some ⟨[.int .i64 w, .int .i64 h, vm], 0, 38⟩ := by rw [hG0]; simp
  have b1 : G0[H.length + 1]? = some ⟨[u1, u2], 0, 42⟩ := by rw [hG0]; simp
  have bR : G0[H.length + 2]? = some ⟨[.int .i64 0, .int .i64 0, .slice none 0 0, .slice none 0 0, .slice none 0 0, .slice none 0 0, .slice none 0 0, .slice none 0 0, .slice none 0 0, .slice none 0 0, .int .i64 0], 0, 59⟩ := by rw [hG0]; simp
  have cH : Chg H G0 [] := by rw [hG0]; exact Chg.app []
  have lH : G0.length = H.length + 3 := by rw [hG0]; simp
  rw [← hG0]
  clear hG0
  rw [go_draw (h := by kernel_rfl)]
  simp [VM.look, b0, onem, hN]
  have om0 : dMesh.Ow G0 vm (w, h, b) := Dt.chg0 om cH
  have oc0 : dClasses.Ow G0 (u1, u2) (A, B) := Dt.chg0 oc cH
  refine wp_thn (copyMesh_w w h vm b om0.1.rd.isI om0.2) ?_
  rintro _ G1 ⟨n1, rfl, o1, c1, m1, d1⟩
  have oc1 := Dt.chg0 oc0 c1
  have b1 := box_chg b1 c1 (by simp)
  have bR := box_chg bR c1 (by simp)
  have onen := dMesh_one o1
  simp [VM.look, b1, onec]
  refine wp_thn (copyClasses_w u1 u2 A B oc1.1.1.rd.isI oc1.2.1.rd.isI oc1.1.2 oc1.2.2) ?_
  rintro _ G2 ⟨⟨n2, n3⟩, rfl, o2, c2, m2, d2⟩
  have lt1 := dMesh.lt o1
  have ltc := dClasses.lt o2
  have o1 := Dt.chg0 o1 c2
  have bR := box_chg bR c2 (by simp)
  have onen2 := dClasses_one o2
  obtain ⟨K5, hK5⟩ : ∃ K, K = 5 * N := ⟨_, rfl⟩
  obtain ⟨K10, hK10⟩ : ∃ K, K = 10 * N := ⟨_, rfl⟩
  have e5 : ∀ [Inhabited Unit], IntKind.i64.wrap (5 * (N : Int)) = (K5 : Int) := by intro _; rw [w64 (by omega) (by omega)]; omega
  have e10 : ∀ [Inhabited Unit], IntKind.i64.wrap (10 * (N : Int)) = (K10 : Int) := by intro _; rw [w64 (by omega) (by omega)]; omega
  have hk5 : (K5 : Int) ≤ 1073741824 := by omega
  have hk10 : (K10 : Int) ≤ 1073741824 := by omega
  have hk1 : (N : Int) ≤ 1073741824 := by omega
  have cH2 : Chg H G2 [] := (cH.trans c1).trans c2
  have l2 := cH2.1
  have l01 := c1.1
  have l12 := c2.1
  have hz : H.length ≤ G2.length + 1 := by omega
  have hz4 : H.length ≤ G2.length + 4 := by omega
  simp [dMesh_val, dClasses_val, onen, onen2, e5, e10, hk5, hk10, hk1, hz, hz4]
  rw [go_drawF (fl := [4, 6]) (h := ⟨by kernel_rfl, by kernel_rfl, by kernel_rfl, by kernel_rfl⟩)]
  simp [emps, empOp, empB, e10, hk10, hk1, VM.look, hz, List.set_append]
  obtain ⟨G4, hG4⟩ : ∃ G, G = G2 ++ [⟨List.replicate K5 (.int .i64 0), 0, 3⟩, ⟨[.int .i64 w, .int .i64 h, n1, n2, n3, .slice (some ⟨G2.length + 2, 0, some 0⟩) K10 0, .slice none 0 0, .slice (some ⟨G2.length, 0, some 0⟩) K5 0, .slice (some ⟨G2.length + 3, 0, some 0⟩) N 0, .slice (some ⟨G2.length + 4, 0, some 0⟩) N 0, .int .i64 0], 0, 59⟩, ⟨List.replicate K10 (.slice none 0 0), 0, 123⟩, ⟨List.replicate N (.slice none 0 0), 0, 123⟩, ⟨List.replicate N (.slice none 0 0), 0, 123⟩] := ⟨_, rfl⟩
  have e4 : G2 ++ [⟨List.replicate K5 (.int .i64 0), 0, 3⟩, ⟨[.int .i64 w, .int .i64 h, n1, n2, n3, .slice (some ⟨G2.length + 2, 0, some 0⟩) K10 0, .slice none 0 0, .slice (some ⟨G2.length, 0, some 0⟩) K5 0, .slice (some ⟨G2.length + 3, 0, some 0⟩) N 0, .slice (some ⟨G2.length + 4, 0, some 0⟩) N 0, .int .i64 0], 0, 59⟩, ⟨List.replicate K10 (.slice none 0 0), 0, 123⟩, ⟨List.replicate N (.slice none 0 0), 0, 123⟩, ⟨List.replicate N (.slice none 0 0), 0, 123⟩] = G4 := hG4.symm
  rw [e4]
  have l4 : G4.length = G2.length + 5 := by rw [hG4]; simp
  have c4 : Chg G2 G4 [] := by rw [hG4]; exact Chg.app _
  have bN : G4[G2.length + 1]? = some ⟨[.int .i64 w, .int .i64 h, n1, n2, n3, .slice (some ⟨G2.length + 2, 0, some 0⟩) K10 0, .slice none 0 0, .slice (some ⟨G2.length, 0, some 0⟩) K5 0, .slice (some ⟨G2.length + 3, 0, some 0⟩) N 0, .slice (some ⟨G2.length + 4, 0, some 0⟩) N 0, .int .i64 0], 0, 59⟩ := by rw [hG4]; simp
  have bR : G4[H.length + 2]? = some ⟨[.int .i64 0, .int .i64 0, .slice none 0 0, .slice none 0 0, .slice none 0 0, .slice none 0 0, .slice none 0 0, .slice none 0 0, .slice none 0 0, .slice none 0 0, .int .i64 0], 0, 59⟩ := box_chg bR c4 (by simp)
  have o1 := Dt.chg0 o1 c4
  have o2 := Dt.chg0 o2 c4
  have y3 : dSS.Ow G4 (.slice (some ⟨G2.length + 2, 0, some 0⟩) K10 0, List.replicate K10 (.slice none 0 0)) (List.replicate K10 []) := emptyS (by rw [hG4]; simp) (by omega)
  have y5 : dIntS.Ow G4 (.slice (some ⟨G2.length, 0, some 0⟩) K5 0) (List.replicate K5 0) := zeroI (by rw [hG4]; simp) (by omega)
  have y6 : dSS.Ow G4 (.slice (some ⟨G2.length + 3, 0, some 0⟩) N 0, List.replicate N (.slice none 0 0)) (List.replicate N []) := emptyS (by rw [hG4]; simp) (by omega)
  have y7 : dSS.Ow G4 (.slice (some ⟨G2.length + 4, 0, some 0⟩) N 0, List.replicate N (.slice none 0 0)) (List.replicate N []) := emptyS (by rw [hG4]; simp) (by omega)
  clear hG4 e4
  refine wp_inv (fun n t G => ∃ (i : Nat) (own : Value), n = K10 - i ∧ i ≤ K10 ∧ t 4 = .pointer (some ⟨H.length + 2, 0, some 0⟩) ∧ t 7 = .pointer (some ⟨G2.length + 1, 0, some 0⟩) ∧ t 35 = .int .i64 K10 ∧ t 36 = .int .i64 i ∧ Chg G4 G [G2.length + 1] ∧ G[G2.length + 1]? = some ⟨[.int .i64 w, .int .i64 h, n1, n2, n3, .slice (some ⟨G2.length + 2, 0, some 0⟩) K10 0, own, .slice (some ⟨G2.length, 0, some 0⟩) K5 0, .slice (some ⟨G2.length + 3, 0, some 0⟩) N 0, .slice (some ⟨G2.length + 4, 0, some 0⟩) N 0, .int .i64 0], 0, 59⟩ ∧ Ow Fl.int 3 G own (List.replicate i (-1)) ∧ (∀ j ∈ ids own, G4.length ≤ j)) ?_ (n := K10)
    ⟨0, .slice none 0 0, rfl, by omega, by simp, by simp, by simp, by simp, Chg.refl _, bN, .inl ⟨rfl, rfl⟩, by simp⟩
  rintro n t G ⟨i, own, rfl, hi, t4, t7, t35, t36, ch, bb, oo, no⟩ ih
  have hF : H.length ≤ G2.length + 1 := by omega
  simp [t4, t7, t35, t36]
  refine wp_dec ?_ ?_ <;> intro g
  · obtain ⟨r', H2, hap, ow, cw, nw⟩ := oo.push (P := Try.prog) (frz := H.length) (ty := 24) (a := -1) (by simp) rfl (by simp; omega) (fun j hj => by have := no j hj; omega)
    simp only [Fl.int_f] at hap
    have hlt := box_lt bb
    have bb1 := fun r => get_app' bb [r]
    have bb2 := box_chg bb cw (fun hh => by have := no _ hh; omega)
    have h9 : VM.one r' = true := ow.rd.one'
    have h10 : r'.cells = #[r'] := ow.rd.cells
    simp [-vappend_nil, -vappend_mk, t4, t7, t35, t36, VM.look, bb, bb1, bb2, hap, hF, h9, h10]
    have gR := set_get (r' := ⟨[.int .i64 w, .int .i64 h, n1, n2, n3, .slice (some ⟨G2.length + 2, 0, some 0⟩) K10 0, r', .slice (some ⟨G2.length, 0, some 0⟩) K5 0, .slice (some ⟨G2.length + 3, 0, some 0⟩) N 0, .slice (some ⟨G2.length + 4, 0, some 0⟩) N 0, .int .i64 0], 0, 59⟩) bb2
    refine ih (K10 - (i + 1)) _ _ ⟨i + 1, r', rfl, by omega, by simp [t4], by simp [t7], by simp [t35], ?_, ?_, gR, ?_, fun j hj => ?_⟩ (by omega)
    · simp [t36]; rw [w64 (by omega) (by omega)]
    · exact (ch.trans' cw (fun j hj => .inr (no j hj))).trans' (chg_set _ _) (fun j hj => .inl (by simpa using hj))
    · rw [List.replicate_succ']; exact ow.chg (chg_set _ _) (fun j hj hh => by
        simp at hh; subst hh
        rcases nw _ hj with h1 | h1
        · have := no _ h1; omega
        · have := ch.1; omega)
    · rcases nw j hj with h1 | h1
      · exact no j h1
      · have := ch.1; omega
  · have hiK : i = K10 := by omega
    rw [hiK] at oo
    have gR := box_chg bR ch (by simp; omega)
    have hne : H.length ≤ H.length + 2 := by omega
    have on1 := Dt.chg (T := dMesh) o1 ch (fun j hj hh => by have := lt1 j hj; simp at hh; omega)
    have on2 := Dt.chg (T := dClasses) o2 ch (fun j hj hh => by have := ltc j hj; simp at hh; omega)
    have on3 := Dt.chg (T := dSS) y3 ch (fun j hj hh => by rw [ssIds] at hj; simp at hj hh; omega)
    have on5 := Dt.chg (T := dIntS) y5 ch (fun j hj hh => by simp [dIntS, dFlat] at hj hh; omega)
    have on6 := Dt.chg (T := dSS) y6 ch (fun j hj hh => by rw [ssIds] at hj; simp at hj hh; omega)
    have on7 := Dt.chg (T := dSS) y7 ch (fun j hj hh => by rw [ssIds] at hj; simp at hj hh; omega)
    have on4 : dIntS.Ow G own (List.replicate K10 (-1)) := ⟨oo, by simp; omega⟩
    have q4 := dIntS_one on4
    have hio : ids own = [] ∨ ∃ x, ids own = [x] ∧ G4.length ≤ x := by
      rcases oo with ⟨e, _⟩ | ⟨x, off, r, e, _⟩
      · left; rw [e]; rfl
      · right; exact ⟨x, by rw [e]; rfl, no x (by rw [e]; simp [ids])⟩
    have gR2 := set_get (r' := ⟨[.int .i64 w, .int .i64 h, n1, n2, n3, .slice (some ⟨G2.length + 2, 0, some 0⟩) K10 0, own, .slice (some ⟨G2.length, 0, some 0⟩) K5 0, .slice (some ⟨G2.length + 3, 0, some 0⟩) N 0, .slice (some ⟨G2.length + 4, 0, some 0⟩) N 0, .int .i64 0], 0, 59⟩) gR
    have hF2 : H.length ≤ H.length + 2 := by omega
    simp [t4, t7, t35, t36, VM.look, bb, gR, onen, onen2, q4, hF2, gR2]
    have eR : Chg G (G.set (H.length + 2) ⟨[.int .i64 w, .int .i64 h, n1, n2, n3, .slice (some ⟨G2.length + 2, 0, some 0⟩) K10 0, own, .slice (some ⟨G2.length, 0, some 0⟩) K5 0, .slice (some ⟨G2.length + 3, 0, some 0⟩) N 0, .slice (some ⟨G2.length + 4, 0, some 0⟩) N 0, .int .i64 0], 0, 59⟩) [H.length + 2] := chg_set _ _
    have on1 := Dt.chg (T := dMesh) on1 eR (fun j hj hh => by have := m1 j hj; simp at hh; omega)
    have on2 := Dt.chg (T := dClasses) on2 eR (fun j hj hh => by have := m2 j hj; simp at hh; omega)
    have on3 := Dt.chg (T := dSS) on3 eR (fun j hj hh => by rw [ssIds] at hj; simp at hj hh; omega)
    have on4 := Dt.chg (T := dIntS) on4 eR (fun j hj hh => by have := no j hj; simp at hh; omega)
    have on5 := Dt.chg (T := dIntS) on5 eR (fun j hj hh => by simp [dIntS, dFlat] at hj hh; omega)
    have on6 := Dt.chg (T := dSS) on6 eR (fun j hj hh => by rw [ssIds] at hj; simp at hj hh; omega)
    have on7 := Dt.chg (T := dSS) on7 eR (fun j hj hh => by rw [ssIds] at hj; simp at hj hh; omega)
    have e : netNew (w, h, b) (A, B) = ((w, h, b), (A, B), List.replicate K10 [], List.replicate K10 (-1), List.replicate K5 0, List.replicate N [], List.replicate N [], 0) := by
      unfold netNew; rw [if_pos g0]; simp only [eN, hK5, hK10]
    have rest : ∀ l, dSS.ids (.slice (some ⟨G2.length + 2, 0, some 0⟩) K10 0, List.replicate K10 (.slice none 0 0)) ++ (dIntS.ids own ++ (dIntS.ids (.slice (some ⟨G2.length, 0, some 0⟩) K5 0) ++ (dSS.ids (.slice (some ⟨G2.length + 3, 0, some 0⟩) N 0, List.replicate N (.slice none 0 0)) ++ (dSS.ids (.slice (some ⟨G2.length + 4, 0, some 0⟩) N 0, List.replicate N (.slice none 0 0)) ++ [])))) = l → l.Nodup ∧ ∀ i ∈ l, G2.length ≤ i := by
      intro l hl
      rw [ssIds, ssIds, ssIds, show dIntS.ids own = ids own from rfl] at hl
      rcases hio with hx | ⟨x, hx, hx2⟩ <;> rw [hx] at hl <;> simp [dIntS, dFlat] at hl <;> subst hl
      · refine ⟨by simp, fun i hi => ?_⟩
        simp at hi; omega
      · refine ⟨by simp; omega, fun i hi => ?_⟩
        simp at hi; omega
    obtain ⟨r1, r2⟩ := rest _ rfl
    refine ⟨_, rfl, (n1, (n2, n3), (.slice (some ⟨G2.length + 2, 0, some 0⟩) K10 0, List.replicate K10 (.slice none 0 0)), own, .slice (some ⟨G2.length, 0, some 0⟩) K5 0, (.slice (some ⟨G2.length + 3, 0, some 0⟩) N 0, List.replicate N (.slice none 0 0)), (.slice (some ⟨G2.length + 4, 0, some 0⟩) N 0, List.replicate N (.slice none 0 0)), ()), ?_, ?_, ?_, fun i hi => ?_, ?_⟩
    · rw [e]; rfl
    · rw [e]; exact ⟨on1, on2, on3, on4, on5, on6, on7, trivial⟩
    · exact ((cH2.trans c4).trans' ch (fun j hj => .inr (by simp at hj; omega))).trans' eR (fun j hj => .inr (by simp at hj; omega))
    · rcases List.mem_append.1 hi with hi | hi
      · have := m1 i hi; omega
      rcases List.mem_append.1 hi with hi | hi
      · have := m2 i hi; omega
      have := r2 i hi; omega
    · refine nd_app d1 (nd_app d2 r1 ltc r2) lt1 (fun i hi => ?_)
      rcases List.mem_append.1 hi with hi | hi
      · exact m2 i hi
      · have := r2 i hi; omega
theorem sNetNew_w {vm : Value} {m : MeshD} {vc : Value × Value} {t : ClassesD} (om : dMesh.Ow H vm m) (oc : dClasses.Ow H vc t) :
   wp (vcall C frz 71 [dMesh.val vm m, dClasses.val vc t] H) (Made2 dNet H (netNew m t) (decide (classesOk m.1 m.2.1 m.2.2 t.1 t.2))) := by
  obtain ⟨w, h, b⟩ := m
  obtain ⟨A, B⟩ := t
  have onem := dMesh_one om
  have onec := dClasses_one oc
  obtain ⟨u1, u2⟩ := vc
  rw [dMesh_val, dClasses_val]
  simp only at onem onec ⊢
  rw [vcall_go (fn := Try.f71) Try.func71 rfl (by kernel_rfl) rfl]
  have ck := fun F L => sClassesOk_c (frz := F) (H := H ++ L) w h vm u1 u2 b A B (Rd.isI om.1.rd.app) (Rd.isI oc.1.1.rd.app) (Rd.isI oc.2.1.rd.app) om.2
  simp [onem, onec, ck]
  by_cases g0 : classesOk w h b A B
  rotate_left
  · simp [g0]
    have e : netNew (w, h, b) (A, B) = net0 := if_neg g0
    rw [e]
    exact ⟨_, rfl, net0_made (Chg.app _)⟩
  obtain ⟨N, hN⟩ : ∃ N : Nat, cnt w h = N := ⟨(cnt w h).toNat, by have := cnt_range w h; omega⟩
  have hNr := cnt_range w h
  have eN : (cnt w h).toNat = N := by rw [hN]; simp
  simp [g0, sNodeCount_c]
  obtain ⟨G0, hG0⟩ : ∃ G, G = H ++ [⟨[.int .i64 w, .int .i64 h, vm], 0, 38⟩, ⟨[u1, u2], 0, 42⟩, ⟨[.int .i64 0, .int .i64 0, .slice none 0 0, .slice none 0 0, .slice none 0 0, .slice none 0 0, .slice none 0 0, .slice none 0 0, .slice none 0 0, .slice none 0 0, .int .i64 0], 0, 59⟩] := ⟨_, rfl⟩
  have b0 : G0[H.length]? = some ⟨[.int .i64 w, .int .i64 h, vm], 0, 38⟩ := by rw [hG0]; simp
  have b1 : G0[H.length + 1]? = some ⟨[u1, u2], 0, 42⟩ := by rw [hG0]; simp
  have bR : G0[H.length + 2]? = some ⟨[.int .i64 0, .int .i64 0, .slice none 0 0, .slice none 0 0, .slice none 0 0, .slice none 0 0, .slice none 0 0, .slice none 0 0, .slice none 0 0, .slice none 0 0, .int .i64 0], 0, 59⟩ := by rw [hG0]; simp
  have cH : Chg H G0 [] := by rw [hG0]; exact Chg.app []
  have lH : G0.length = H.length + 3 := by rw [hG0]; simp
  rw [← hG0]
  clear hG0
  rw [go_draw (h := by kernel_rfl)]
  simp [VM.look, b0, onem, hN]
  have om0 : dMesh.Ow G0 vm (w, h, b) := Dt.chg0 om cH
  have oc0 : dClasses.Ow G0 (u1, u2) (A, B) := Dt.chg0 oc cH
  refine wp_thn (l15Mesh_w w h vm b om0.1.rd.isI om0.2) ?_
  rintro _ G1 ⟨n1, rfl, o1, c1, m1, d1⟩
  have oc1 := Dt.chg0 oc0 c1
  have b1 := box_chg b1 c1 (by simp)
  have bR := box_chg bR c1 (by simp)
  have onen := dMesh_one o1
  simp [VM.look, b1, onec]
  refine wp_thn (l15Classes_w u1 u2 A B oc1.1.1.rd.isI oc1.2.1.rd.isI oc1.1.2 oc1.2.2) ?_
  rintro _ G2 ⟨⟨n2, n3⟩, rfl, o2, c2, m2, d2⟩
  have lt1 := dMesh.lt o1
  have ltc := dClasses.lt o2
  have o1 := Dt.chg0 o1 c2
  have bR := box_chg bR c2 (by simp)
  have onen2 := dClasses_one o2
  obtain ⟨K5, hK5⟩ : ∃ K, K = 5 * N := ⟨_, rfl⟩
  obtain ⟨K10, hK10⟩ : ∃ K, K = 10 * N := ⟨_, rfl⟩
  have e5 : ∀ [Inhabited Unit], IntKind.i64.wrap (5 * (N : Int)) = (K5 : Int) := by intro _; rw [w64 (by omega) (by omega)]; omega
  have e10 : ∀ [Inhabited Unit], IntKind.i64.wrap (10 * (N : Int)) = (K10 : Int) := by intro _; rw [w64 (by omega) (by omega)]; omega
  have hk5 : (K5 : Int) ≤ 1073741824 := by omega
  have hk10 : (K10 : Int) ≤ 1073741824 := by omega
  have hk1 : (N : Int) ≤ 1073741824 := by omega
  have cH2 : Chg H G2 [] := (cH.trans c1).trans c2
  have l2 := cH2.1
  have l01 := c1.1
  have l12 := c2.1
  have hz : H.length ≤ G2.length + 1 := by omega
  have hz4 : H.length ≤ G2.length + 4 := by omega
  simp [dMesh_val, dClasses_val, onen, onen2, e5, e10, hk5, hk10, hk1, hz, hz4]
  obtain ⟨G4, hG4⟩ : ∃ G, G = G2 ++ [⟨List.replicate K10 (.slice none 0 0), 0, 123⟩, ⟨List.replicate K5 (.int .i64 0), 0, 3⟩, ⟨List.replicate N (.slice none 0 0), 0, 123⟩, ⟨List.replicate N (.slice none 0 0), 0, 123⟩, ⟨[.int .i64 w, .int .i64 h, n1, n2, n3, .slice (some ⟨G2.length, 0, some 0⟩) K10 0, .slice none 0 0, .slice (some ⟨G2.length + 1, 0, some 0⟩) K5 0, .slice (some ⟨G2.length + 2, 0, some 0⟩) N 0, .slice (some ⟨G2.length + 3, 0, some 0⟩) N 0, .int .i64 0], 0, 59⟩] := ⟨_, rfl⟩
  have e4 : G2 ++ [⟨List.replicate K10 (.slice none 0 0), 0, 123⟩, ⟨List.replicate K5 (.int .i64 0), 0, 3⟩, ⟨List.replicate N (.slice none 0 0), 0, 123⟩, ⟨List.replicate N (.slice none 0 0), 0, 123⟩, ⟨[.int .i64 w, .int .i64 h, n1, n2, n3, .slice (some ⟨G2.length, 0, some 0⟩) K10 0, .slice none 0 0, .slice (some ⟨G2.length + 1, 0, some 0⟩) K5 0, .slice (some ⟨G2.length + 2, 0, some 0⟩) N 0, .slice (some ⟨G2.length + 3, 0, some 0⟩) N 0, .int .i64 0], 0, 59⟩] = G4 := hG4.symm
  rw [e4]
  have l4 : G4.length = G2.length + 5 := by rw [hG4]; simp
  have c4 : Chg G2 G4 [] := by rw [hG4]; exact Chg.app _
  have bN : G4[G2.length + 4]? = some ⟨[.int .i64 w, .int .i64 h, n1, n2, n3, .slice (some ⟨G2.length, 0, some 0⟩) K10 0, .slice none 0 0, .slice (some ⟨G2.length + 1, 0, some 0⟩) K5 0, .slice (some ⟨G2.length + 2, 0, some 0⟩) N 0, .slice (some ⟨G2.length + 3, 0, some 0⟩) N 0, .int .i64 0], 0, 59⟩ := by rw [hG4]; simp
  have bR : G4[H.length + 2]? = some ⟨[.int .i64 0, .int .i64 0, .slice none 0 0, .slice none 0 0, .slice none 0 0, .slice none 0 0, .slice none 0 0, .slice none 0 0, .slice none 0 0, .slice none 0 0, .int .i64 0], 0, 59⟩ := box_chg bR c4 (by simp)
  have o1 := Dt.chg0 o1 c4
  have o2 := Dt.chg0 o2 c4
  have y3 : dSS.Ow G4 (.slice (some ⟨G2.length, 0, some 0⟩) K10 0, List.replicate K10 (.slice none 0 0)) (List.replicate K10 []) := emptyS (by rw [hG4]; simp) (by omega)
  have y5 : dIntS.Ow G4 (.slice (some ⟨G2.length + 1, 0, some 0⟩) K5 0) (List.replicate K5 0) := zeroI (by rw [hG4]; simp) (by omega)
  have y6 : dSS.Ow G4 (.slice (some ⟨G2.length + 2, 0, some 0⟩) N 0, List.replicate N (.slice none 0 0)) (List.replicate N []) := emptyS (by rw [hG4]; simp) (by omega)
  have y7 : dSS.Ow G4 (.slice (some ⟨G2.length + 3, 0, some 0⟩) N 0, List.replicate N (.slice none 0 0)) (List.replicate N []) := emptyS (by rw [hG4]; simp) (by omega)
  clear hG4 e4
  refine wp_inv (fun n t G => ∃ (i : Nat) (own : Value), n = K10 - i ∧ i ≤ K10 ∧ t 4 = .pointer (some ⟨H.length + 2, 0, some 0⟩) ∧ t 6 = .int .i64 N ∧ t 7 = .pointer (some ⟨G2.length + 4, 0, some 0⟩) ∧ t 8 = .int .i64 i ∧ Chg G4 G [G2.length + 4] ∧ G[G2.length + 4]? = some ⟨[.int .i64 w, .int .i64 h, n1, n2, n3, .slice (some ⟨G2.length, 0, some 0⟩) K10 0, own, .slice (some ⟨G2.length + 1, 0, some 0⟩) K5 0, .slice (some ⟨G2.length + 2, 0, some 0⟩) N 0, .slice (some ⟨G2.length + 3, 0, some 0⟩) N 0, .int .i64 0], 0, 59⟩ ∧ Ow Fl.int 3 G own (List.replicate i (-1)) ∧ (∀ j ∈ ids own, G4.length ≤ j)) ?_ (n := K10)
    ⟨0, .slice none 0 0, rfl, by omega, by simp, by simp, by simp, by simp, Chg.refl _, bN, .inl ⟨rfl, rfl⟩, by simp⟩
  rintro n t G ⟨i, own, rfl, hi, t4, t6, t7, t8, ch, bb, oo, no⟩ ih
  have hF : H.length ≤ G2.length + 4 := by omega
  simp [t4, t6, t7, t8, e10]
  refine wp_dec ?_ ?_ <;> intro g
  · obtain ⟨r', H2, hap, ow, cw, nw⟩ := oo.push (P := Try.prog) (frz := H.length) (ty := 24) (a := -1) (by simp) rfl (by simp; omega) (fun j hj => by have := no j hj; omega)
    simp only [Fl.int_f] at hap
    have hlt := box_lt bb
    have bb1 := fun r => get_app' bb [r]
    have bb2 := box_chg bb cw (fun hh => by have := no _ hh; omega)
    have h9 : VM.one r' = true := ow.rd.one'
    have h10 : r'.cells = #[r'] := ow.rd.cells
    simp [-vappend_nil, -vappend_mk, t4, t6, t7, t8, VM.look, bb, bb1, bb2, hap, hF, h9, h10]
    have gR := set_get (r' := ⟨[.int .i64 w, .int .i64 h, n1, n2, n3, .slice (some ⟨G2.length, 0, some 0⟩) K10 0, r', .slice (some ⟨G2.length + 1, 0, some 0⟩) K5 0, .slice (some ⟨G2.length + 2, 0, some 0⟩) N 0, .slice (some ⟨G2.length + 3, 0, some 0⟩) N 0, .int .i64 0], 0, 59⟩) bb2
    refine ih (K10 - (i + 1)) _ _ ⟨i + 1, r', rfl, by omega, by simp [t4], by simp [t6], by simp [t7], ?_, ?_, gR, ?_, fun j hj => ?_⟩ (by omega)
    · simp [t8]; rw [w64 (by omega) (by omega)]
    · exact (ch.trans' cw (fun j hj => .inr (no j hj))).trans' (chg_set _ _) (fun j hj => .inl (by simpa using hj))
    · rw [List.replicate_succ']; exact ow.chg (chg_set _ _) (fun j hj hh => by
        simp at hh; subst hh
        rcases nw _ hj with h1 | h1
        · have := no _ h1; omega
        · have := ch.1; omega)
    · rcases nw j hj with h1 | h1
      · exact no j h1
      · have := ch.1; omega
  · have hiK : i = K10 := by omega
    rw [hiK] at oo
    have gR := box_chg bR ch (by simp; omega)
    have hne : H.length ≤ H.length + 2 := by omega
    have on1 := Dt.chg (T := dMesh) o1 ch (fun j hj hh => by have := lt1 j hj; simp at hh; omega)
    have on2 := Dt.chg (T := dClasses) o2 ch (fun j hj hh => by have := ltc j hj; simp at hh; omega)
    have on3 := Dt.chg (T := dSS) y3 ch (fun j hj hh => by rw [ssIds] at hj; simp at hj hh; omega)
    have on5 := Dt.chg (T := dIntS) y5 ch (fun j hj hh => by simp [dIntS, dFlat] at hj hh; omega)
    have on6 := Dt.chg (T := dSS) y6 ch (fun j hj hh => by rw [ssIds] at hj; simp at hj hh; omega)
    have on7 := Dt.chg (T := dSS) y7 ch (fun j hj hh => by rw [ssIds] at hj; simp at hj hh; omega)
    have on4 : dIntS.Ow G own (List.replicate K10 (-1)) := ⟨oo, by simp; omega⟩
    have q4 := dIntS_one on4
    have hio : ids own = [] ∨ ∃ x, ids own = [x] ∧ G4.length ≤ x := by
      rcases oo with ⟨e, _⟩ | ⟨x, off, r, e, _⟩
      · left; rw [e]; rfl
      · right; exact ⟨x, by rw [e]; rfl, no x (by rw [e]; simp [ids])⟩
    have gR2 := set_get (r' := ⟨[.int .i64 w, .int .i64 h, n1, n2, n3, .slice (some ⟨G2.length, 0, some 0⟩) K10 0, own, .slice (some ⟨G2.length + 1, 0, some 0⟩) K5 0, .slice (some ⟨G2.length + 2, 0, some 0⟩) N 0, .slice (some ⟨G2.length + 3, 0, some 0⟩) N 0, .int .i64 0], 0, 59⟩) gR
    have hF2 : H.length ≤ H.length + 2 := by omega
    simp [t4, t6, t7, t8, e10, VM.look, bb, gR, onen, onen2, q4, hF2, gR2]
    have eR : Chg G (G.set (H.length + 2) ⟨[.int .i64 w, .int .i64 h, n1, n2, n3, .slice (some ⟨G2.length, 0, some 0⟩) K10 0, own, .slice (some ⟨G2.length + 1, 0, some 0⟩) K5 0, .slice (some ⟨G2.length + 2, 0, some 0⟩) N 0, .slice (some ⟨G2.length + 3, 0, some 0⟩) N 0, .int .i64 0], 0, 59⟩) [H.length + 2] := chg_set _ _
    have on1 := Dt.chg (T := dMesh) on1 eR (fun j hj hh => by have := m1 j hj; simp at hh; omega)
    have on2 := Dt.chg (T := dClasses) on2 eR (fun j hj hh => by have := m2 j hj; simp at hh; omega)
    have on3 := Dt.chg (T := dSS) on3 eR (fun j hj hh => by rw [ssIds] at hj; simp at hj hh; omega)
    have on4 := Dt.chg (T := dIntS) on4 eR (fun j hj hh => by have := no j hj; simp at hh; omega)
    have on5 := Dt.chg (T := dIntS) on5 eR (fun j hj hh => by simp [dIntS, dFlat] at hj hh; omega)
    have on6 := Dt.chg (T := dSS) on6 eR (fun j hj hh => by rw [ssIds] at hj; simp at hj hh; omega)
    have on7 := Dt.chg (T := dSS) on7 eR (fun j hj hh => by rw [ssIds] at hj; simp at hj hh; omega)
    have e : netNew (w, h, b) (A, B) = ((w, h, b), (A, B), List.replicate K10 [], List.replicate K10 (-1), List.replicate K5 0, List.replicate N [], List.replicate N [], 0) := by
      unfold netNew; rw [if_pos g0]; simp only [eN, hK5, hK10]
    have rest : ∀ l, dSS.ids (.slice (some ⟨G2.length, 0, some 0⟩) K10 0, List.replicate K10 (.slice none 0 0)) ++ (dIntS.ids own ++ (dIntS.ids (.slice (some ⟨G2.length + 1, 0, some 0⟩) K5 0) ++ (dSS.ids (.slice (some ⟨G2.length + 2, 0, some 0⟩) N 0, List.replicate N (.slice none 0 0)) ++ (dSS.ids (.slice (some ⟨G2.length + 3, 0, some 0⟩) N 0, List.replicate N (.slice none 0 0)) ++ [])))) = l → l.Nodup ∧ ∀ i ∈ l, G2.length ≤ i := by
      intro l hl
      rw [ssIds, ssIds, ssIds, show dIntS.ids own = ids own from rfl] at hl
      rcases hio with hx | ⟨x, hx, hx2⟩ <;> rw [hx] at hl <;> simp [dIntS, dFlat] at hl <;> subst hl
      · refine ⟨by simp, fun i hi => ?_⟩
        simp at hi; omega
      · refine ⟨by simp; omega, fun i hi => ?_⟩
        simp at hi; omega
    obtain ⟨r1, r2⟩ := rest _ rfl
    refine ⟨_, rfl, (n1, (n2, n3), (.slice (some ⟨G2.length, 0, some 0⟩) K10 0, List.replicate K10 (.slice none 0 0)), own, .slice (some ⟨G2.length + 1, 0, some 0⟩) K5 0, (.slice (some ⟨G2.length + 2, 0, some 0⟩) N 0, List.replicate N (.slice none 0 0)), (.slice (some ⟨G2.length + 3, 0, some 0⟩) N 0, List.replicate N (.slice none 0 0)), ()), ?_, ?_, ?_, fun i hi => ?_, ?_⟩
    · rw [e]; rfl
    · rw [e]; exact ⟨on1, on2, on3, on4, on5, on6, on7, trivial⟩
    · exact ((cH2.trans c4).trans' ch (fun j hj => .inr (by simp at hj; omega))).trans' eR (fun j hj => .inr (by simp at hj; omega))
    · rcases List.mem_append.1 hi with hi | hi
      · have := m1 i hi; omega
      rcases List.mem_append.1 hi with hi | hi
      · have := m2 i hi; omega
      have := r2 i hi; omega
    · refine nd_app d1 (nd_app d2 r1 ltc r2) lt1 (fun i hi => ?_)
      rcases List.mem_append.1 hi with hi | hi
      · exact m2 i hi
      · have := r2 i hi; omega
end Go.Proofs.Ytcigpclbhfkgaaa.V
/-! Packets: what the laws' own functions do with slices of them. -/
set_option linter.all false
namespace Go.Proofs.Ytcigpclbhfkgaaa.V
open Go Go.VM Go.Proofs
set_option maxRecDepth 10000
variable {frz : Nat} {H : Heap}
def pkF : Fl PkD := ⟨5, fun a => [.int .i64 a.1, .int .i64 a.2.1, .int .i64 a.2.2.1, .int .i64 a.2.2.2.1, .int .i64 a.2.2.2.2], fun _ => rfl⟩
@[simp] theorem pkF_n : pkF.n = 5 := rfl
theorem pkF_f (a : PkD) : pkF.f a = [.int .i64 a.1, .int .i64 a.2.1, .int .i64 a.2.2.1, .int .i64 a.2.2.2.1, .int .i64 a.2.2.2.2] := rfl
abbrev knP := Kn.pair (Kn.int .i64) (Kn.pair (Kn.int .i64) (Kn.pair (Kn.int .i64) (Kn.pair (Kn.int .i64) (Kn.int .i64))))
theorem knP_is {H : Heap} {x : PkD} {vs : List Value} (h : knP.Is H x vs) : vs = pkF.f x := by
  obtain ⟨v1, v2, rfl, h1, w1, w2, rfl, h2, y1, y2, rfl, h3, z1, z2, rfl, h4, h5⟩ := h
  simp only [Kn.int, Kn.bool] at h1 h2 h3 h4 h5
  rw [h1, h2, h3, h4, h5]; rfl
theorem ones_pkF (xs : List PkD) : ones (cellsOf pkF xs) = true := by
  induction xs with
  | nil => rfl
  | cons a l ih => rw [cellsOf_cons]; simp [ih, pkF_f]
theorem toPacket_p (x : PkD) : vcall C frz 16 [.agg (pkF.f x).toArray] H = some (.agg (pkF.f x).toArray, H) := toPacket_c _ _ _ _ _
theorem toPacketS_w (v : Value) (xs : List PkD) (hI : Rd pkF H v xs) (hb : xs.length ≤ 1073741824) :
   wp (vcall C frz 62 [v] H) (fun r H' => Ow pkF 44 H' r xs ∧ (∀ i ∈ ids r, H.length ≤ i) ∧ Chg H H' []) := by
  rw [vcall_go (fn := Try.f62) Try.func62 rfl (by kernel_rfl) rfl]
  simp [hI.len]
  refine wp_need (by omega) ?_
  refine wp_inv (fun n t H' => ∃ i : Nat, n = xs.length - i ∧ i ≤ xs.length ∧ t 0 = v ∧ t 3 = .slice (some ⟨H.length, 0, some 0⟩) xs.length 0 ∧ t 4 = .int .i64 i ∧
    Ow pkF 44 H' (.slice (some ⟨H.length, 0, some 0⟩) xs.length 0) (xs.take i ++ List.replicate (xs.length - i) (0, 0, 0, 0, 0)) ∧ Chg H H' []) ?_ (n := xs.length)
    ⟨0, by simp, by omega, by simp, by simp, by simp, Ow.new0 rfl (rep_cells (D := pkF) (0, 0, 0, 0, 0) _) (by rw [rep_cells (D := pkF) (0, 0, 0, 0, 0)]; exact ones_pkF _) (by simp), Chg.app _⟩
  rintro n t H' ⟨i, rfl, hi, h0, h3, h4, o, c⟩ ih
  have rd := hI.chg c (by simp)
  simp [h0, h3, h4, rd.len]
  refine wp_dec ?_ ?_ <;> intro h
  · have h' : i < xs.length := by omega
    have q1 := rd.idx (P := Try.prog) (ty := 52) (e := 32) (by simp) (i := (i : Int)) (by omega) (by omega)
    have q2 := rd.load (P := Try.prog) (e := 32) (by simp) h'
    have hl : (xs.take i ++ List.replicate (xs.length - i) ((0, 0, 0, 0, 0) : PkD)).length = xs.length := by simp; omega
    have q3 := o.rd.idx (P := Try.prog) (ty := 60) (e := 44) (by simp) (i := (i : Int)) (by omega) (by omega)
    obtain ⟨H2, s1, o1, c1, l1⟩ := o.store (P := Try.prog) (frz := H.length) (et := 44) (ag := true) (x := .agg (pkF.f xs[i]).toArray) (by simp) (j := i) (y := xs[i]) (by omega) (by simp [Value.cells]) (by simp [pkF_f]) (by simp)
    simp only [Int.toNat_natCast, pkF_n] at q1 q2 q3 s1
    simp [h0, h3, h4, q1, q2, toPacket_p, q3, s1]
    refine ih (xs.length - (i + 1)) _ _ ⟨i + 1, rfl, by omega, by simp [h0], by simp [h3], ?_, ?_, c.trans' c1 (by simp)⟩ (by omega)
    · simp; rw [w64 (by omega) (by omega)]
    · rw [fill_set _ _ h'] at o1; exact o1
  · have : i = xs.length := by omega
    subst this
    simp [h0, h3, h4]
    exact ⟨by simpa using o, c⟩
theorem szPacketS_c (v : Value) (xs : List PkD) (n : Int) (hI : Rd pkF H v xs) (h0 : 0 ≤ n) (h1 : n ≤ 1048576) (h2 : xs.length ≤ 9223372036854775807) :
    vcall C frz 60 [v, .int .i64 n] H = some (.int .i64 (if n < xs.length then -1 else n - xs.length), H) := by
  rw [vcall_go (fn := Try.f60) Try.func60 rfl (by kernel_rfl) rfl]
  simp [hI.len]
  rw [w64 (by omega) (by omega)]
  refine br_dec _ ?_ ?_ <;> intro h <;> simp [h]
  · intro hh; omega
  · intro hh; omega
theorem eqPacket_c (x y : PkD) : vcall C frz 115 [.agg (pkF.f x).toArray, .agg (pkF.f y).toArray] H = some (.bool (decide (x = y)), H) := by
  obtain ⟨p, t, c, h, l⟩ := x
  obtain ⟨p', t', c', h', l'⟩ := y
  rw [vcall_go (fn := Try.f115) Try.func115 rfl (by kernel_rfl) rfl]
  simp [pkF_f]
  by_cases e1 : p = p'
  · by_cases e2 : t = t'
    · by_cases e3 : c = c'
      · by_cases e4 : h = h'
        · by_cases e5 : l = l' <;> simp [e1, e2, e3, e4, e5]
        · simp [e1, e2, e3, e4]
      · simp [e1, e2, e3]
    · simp [e1, e2]
  · simp [e1]
theorem eqPacketS_c (a b : Value) (xs ys : List PkD) (ha : Rd pkF H a xs) (hb : Rd pkF H b ys) (hl : xs.length ≤ 1073741824) :
   vcall C frz 64 [a, b] H = some (.bool (decide (xs = ys)), H) := by
  refine wp.exact (by simp) ?_ rfl
  rw [vcall_go (fn := Try.f64) Try.func64 rfl (by kernel_rfl) rfl]
  simp [ha.len, hb.len]
  refine wp_dec ?_ ?_ <;> intro h0 <;> simp [h0]
  · refine wp_inv (fun n t H' => ∃ i : Nat, n = xs.length - i ∧ i ≤ xs.length ∧ t 0 = a ∧ t 1 = b ∧ t 5 = .int .i64 i ∧ H' = H ∧ xs.take i = ys.take i) ?_ (n := xs.length) ⟨0, rfl, by omega, by simp, by simp, by simp, rfl, by simp⟩
    rintro n t H' ⟨i, rfl, hi, h1, h2, h3, rfl, h4⟩ ih
    simp [h1, h2, h3, ha.len]
    refine wp_dec ?_ ?_ <;> intro h
    · have hx : i < xs.length := by omega
      have hy : i < ys.length := by omega
      have q1 := ha.idx (P := Try.prog) (ty := 60) (e := 44) (by simp) (i := (i : Int)) (by omega) (by omega)
      have q2 := ha.load (P := Try.prog) (e := 44) (by simp) hx
      have q3 := hb.idx (P := Try.prog) (ty := 60) (e := 44) (by simp) (i := (i : Int)) (by omega) (by omega)
      have q4 := hb.load (P := Try.prog) (e := 44) (by simp) hy
      simp only [Int.toNat_natCast, pkF_n] at q1 q2 q3 q4
      simp [h1, h2, h3]
      rw [go_draw (h := by kernel_rfl)]
      simp [h1, h2, h3, q1, q2, q3, q4, eqPacket_c]
      refine wp_dec ?_ ?_ <;> intro h5
      · simp [h1, h2, h3]
        refine ih (xs.length - (i + 1)) _ _ ⟨i + 1, rfl, by omega, by simp [h1], by simp [h2], ?_, rfl, ?_⟩ (by omega)
        · simp; rw [w64 (by omega) (by omega)]
        · rw [List.take_succ_eq_append_getElem hx, List.take_succ_eq_append_getElem hy, h4]; simp [h5]
      · simp [h1, h2, h3]
        intro hh; subst hh; simp at h5
    · have : i = xs.length := by omega
      subst this
      simp [h1, h2, h3]
      rw [List.take_length, List.take_of_length_le (by omega)] at h4
      exact h4
  · intro hh; exact h0 (by rw [hh])
end Go.Proofs.Ytcigpclbhfkgaaa.V
/-! Chips: what the laws' own functions do with them. -/
set_option linter.all false
namespace Go.Proofs.Ytcigpclbhfkgaaa.V
open Go Go.VM Go.Proofs
set_option maxRecDepth 10000
variable {frz : Nat} {H : Heap}
abbrev dPk : Dt Value (List PkD) := dFlat pkF 44 1073741824
abbrev ChipD := NetD × List PkD
abbrev ChipV := NetV × Value
def dChip : Dt ChipV ChipD := { dAnd dNet dPk with val := fun v a => .agg #[.int .i64 a.1.1.1, .int .i64 a.1.1.2.1, v.1.1, v.1.2.1.1, v.1.2.1.2, v.1.2.2.1.1, v.1.2.2.2.1, v.1.2.2.2.2.1, v.1.2.2.2.2.2.1.1, v.1.2.2.2.2.2.2.1.1, .int .i64 a.1.2.2.2.2.2.2.2, v.2] }
theorem dChip_val (v : ChipV) (a : ChipD) : dChip.val v a = .agg #[.int .i64 a.1.1.1, .int .i64 a.1.1.2.1, v.1.1, v.1.2.1.1, v.1.2.1.2, v.1.2.2.1.1, v.1.2.2.2.1, v.1.2.2.2.2.1, v.1.2.2.2.2.2.1.1, v.1.2.2.2.2.2.2.1.1, .int .i64 a.1.2.2.2.2.2.2.2, v.2] := rfl
theorem dChip_one {v : ChipV} {a : ChipD} (h : dChip.Ow H v a) : ((VM.one v.1.1 = true ∧ v.1.1.cells = #[v.1.1]) ∧ (VM.one v.1.2.1.1 = true ∧ v.1.2.1.1.cells = #[v.1.2.1.1]) ∧ (VM.one v.1.2.1.2 = true ∧ v.1.2.1.2.cells = #[v.1.2.1.2]) ∧ (VM.one v.1.2.2.1.1 = true ∧ v.1.2.2.1.1.cells = #[v.1.2.2.1.1]) ∧
    (VM.one v.1.2.2.2.1 = true ∧ v.1.2.2.2.1.cells = #[v.1.2.2.2.1]) ∧ (VM.one v.1.2.2.2.2.1 = true ∧ v.1.2.2.2.2.1.cells = #[v.1.2.2.2.2.1]) ∧ (VM.one v.1.2.2.2.2.2.1.1 = true ∧ v.1.2.2.2.2.2.1.1.cells = #[v.1.2.2.2.2.2.1.1]) ∧ (VM.one v.1.2.2.2.2.2.2.1.1 = true ∧ v.1.2.2.2.2.2.2.1.1.cells = #[v.1.2.2.2.2.2.2.1.1])) ∧ VM.one v.2 = true ∧ v.2.cells = #[v.2] :=
  ⟨dNet_one h.1, h.2.1.rd.one', h.2.1.rd.cells⟩
theorem eqChip_d {a b : ChipV} {x y : ChipD} (ha : dChip.Ow H a x) (hb : dChip.Ow H b y) : vcall C frz 24 [dChip.val a x, dChip.val b y] H = some (.bool (decide (x = y)), H) := by
  have oa := dChip_one ha
  have ob := dChip_one hb
  have e1 := fun F L => eqNet_d (frz := F) (H := H ++ L) (Dt.app (T := dNet) ha.1) (Dt.app (T := dNet) hb.1)
  have e2 := fun F L => eqPacketS_c (frz := F) (H := H ++ L) a.2 b.2 x.2 y.2 ha.2.1.rd.app hb.2.1.rd.app ha.2.2
  simp only [dNet_val] at e1
  rw [dChip_val, dChip_val]
  have hY : decide (x = y) = (decide (x.1 = y.1) && decide (x.2 = y.2)) := by
    obtain ⟨x1, x2⟩ := x; obtain ⟨y1, y2⟩ := y
    rw [Bool.eq_iff_iff]; simp only [decide_eq_true_eq, Bool.and_eq_true, Prod.mk.injEq]
  refine wp.exact (by simp) ?_ rfl
  rw [vcall_go (fn := Try.f24) Try.func24 rfl (by kernel_rfl) rfl]
  generalize decide (x = y) = Y at *
  generalize decide (x.1 = y.1) = P1 at *
  generalize decide (x.2 = y.2) = P2 at *
  simp [oa, ob, e1]
  cases P1
  · simp [hY]
  simp [oa, ob, e2]
  cases P2 <;> simp [hY]
theorem szChip_c (w h tm n : Int) (u2 u3 u4 u5 u6 u7 u8 u9 u10 : Value) (h5 h8 h9 : List Value) (b A B own turn : List Int) (buf src arr : SSD) (sent : List PkD)
    (r2 : Rd Fl.int H u2 b) (r3 : Rd Fl.int H u3 A) (r4 : Rd Fl.int H u4 B) (r5 : RdL flF H u5 h5 buf) (r6 : Rd Fl.int H u6 own) (r7 : Rd Fl.int H u7 turn) (r8 : RdL flF H u8 h8 src) (r9 : RdL flF H u9 h9 arr) (r10 : Rd pkF H u10 sent)
    (l2 : b.length ≤ 9223372036854775807) (l3 : A.length ≤ 9223372036854775807) (l4 : B.length ≤ 9223372036854775807) (l5 : buf.length ≤ 9223372036854775807) (l5' : ∀ x ∈ buf, x.length ≤ 9223372036854775807) (l6 : own.length ≤ 9223372036854775807) (l7 : turn.length ≤ 9223372036854775807)
    (l8 : src.length ≤ 9223372036854775807) (l8' : ∀ x ∈ src, x.length ≤ 9223372036854775807) (l9 : arr.length ≤ 9223372036854775807) (l9' : ∀ x ∈ arr, x.length ≤ 9223372036854775807) (l10 : sent.length ≤ 9223372036854775807) (h0 : 0 ≤ n) (h1 : n ≤ 1048576) :
   vcall C frz 20 [.agg #[.int .i64 w, .int .i64 h, u2, u3, u4, u5, u6, u7, u8, u9, .int .i64 tm, u10], .int .i64 n] H = some (.int .i64 (if n < (b.length : Int) + ((A.length : Int) + (B.length : Int)) + (tot buf : Int) + (own.length : Int) + (turn.length : Int) + (tot src : Int) + (tot arr : Int) + (sent.length : Int) then -1 else n - ((b.length : Int) + ((A.length : Int) + (B.length : Int)) + (tot buf : Int) + (own.length : Int) + (turn.length : Int) + (tot src : Int) + (tot arr : Int) + (sent.length : Int))), H) := by
  refine wp.exact (by simp) ?_ rfl
  rw [vcall_go (fn := Try.f20) Try.func20 rfl (by kernel_rfl) rfl]
  have one2 := And.intro r2.one' r2.cells
  have one3 := And.intro r3.one' r3.cells
  have one4 := And.intro r4.one' r4.cells
  have one5 := And.intro r5.1.one' r5.1.cells
  have one6 := And.intro r6.one' r6.cells
  have one7 := And.intro r7.one' r7.cells
  have one8 := And.intro r8.1.one' r8.1.cells
  have one9 := And.intro r9.1.one' r9.1.cells
  have one10 := And.intro r10.one' r10.cells
  have s1 := fun F L => szNet_c (frz := F) (H := H ++ L) w h tm n u2 u3 u4 u5 u6 u7 u8 u9 h5 h8 h9 b A B own turn buf src arr r2.app r3.app r4.app r5.app r6.app r7.app r8.app r9.app l2 l3 l4 l5 l5' l6 l7 l8 l8' l9 l9' h0 h1
  obtain ⟨S, hS⟩ : ∃ S : Int, S = (b.length : Int) + ((A.length : Int) + (B.length : Int)) + (tot buf : Int) + (own.length : Int) + (turn.length : Int) + (tot src : Int) + (tot arr : Int) := ⟨_, rfl⟩
  have hS0 : 0 ≤ S := by omega
  rw [← hS]
  simp only [← hS] at s1
  clear hS
  simp [one2, one3, one4, one5, one6, one7, one8, one9, one10, s1]
  by_cases g : n < S
  · simp only [if_pos g]; simp; intro hh; omega
  simp only [if_neg g]
  have f : ¬ n - S < 0 := by omega
  have s2 := fun F L => szPacketS_c (frz := F) (H := H ++ L) u10 sent (n - S) r10.app (by omega) (by omega) l10
  simp [f, one2, one3, one4, one5, one6, one7, one8, one9, one10, s2]
  by_cases g2 : n - S < (sent.length : Int)
  · simp only [if_pos g2]; simp; intro hh; omega
  simp only [if_neg g2]
  have f2 : ¬ n - S - (sent.length : Int) < 0 := by omega
  simp [f2]
  rw [if_neg (by omega)]; omega
theorem toChip_w (w h tm : Int) (u2 u3 u4 u5 u6 u7 u8 u9 u10 : Value) (h5 h8 h9 : List Value) (b A B own turn : List Int) (buf src arr : SSD) (sent : List PkD)
    (r2 : Rd Fl.int H u2 b) (r3 : Rd Fl.int H u3 A) (r4 : Rd Fl.int H u4 B) (r5 : RdL flF H u5 h5 buf) (r6 : Rd Fl.int H u6 own) (r7 : Rd Fl.int H u7 turn) (r8 : RdL flF H u8 h8 src) (r9 : RdL flF H u9 h9 arr) (r10 : Rd pkF H u10 sent)
    (l2 : b.length ≤ 1073741824) (l3 : A.length ≤ 1073741824) (l4 : B.length ≤ 1073741824) (l5 : buf.length ≤ 2097152) (l5' : ∀ x ∈ buf, x.length ≤ 67108864) (l6 : own.length ≤ 1073741824) (l7 : turn.length ≤ 1073741824)
    (l8 : src.length ≤ 2097152) (l8' : ∀ x ∈ src, x.length ≤ 67108864) (l9 : arr.length ≤ 2097152) (l9' : ∀ x ∈ arr, x.length ≤ 67108864) (l10 : sent.length ≤ 1073741824) :
   wp (vcall C frz 22 [.agg #[.int .i64 w, .int .i64 h, u2, u3, u4, u5, u6, u7, u8, u9, .int .i64 tm, u10]] H) (dChip.Made H (((w, h, b), (A, B), buf, own, turn, src, arr, tm), sent)) := by
  rw [vcall_go (fn := Try.f22) Try.func22 rfl (by kernel_rfl) rfl]
  have one2 := And.intro r2.one' r2.cells
  have one3 := And.intro r3.one' r3.cells
  have one4 := And.intro r4.one' r4.cells
  have one5 := And.intro r5.1.one' r5.1.cells
  have one6 := And.intro r6.one' r6.cells
  have one7 := And.intro r7.one' r7.cells
  have one8 := And.intro r8.1.one' r8.1.cells
  have one9 := And.intro r9.1.one' r9.1.cells
  have one10 := And.intro r10.one' r10.cells
  have hF : H.length ≤ H.length + 2 := by omega
  have hF1 : H.length ≤ H.length + 1 := by omega
  simp [one2, one3, one4, one5, one6, one7, one8, one9, one10]
  obtain ⟨G0, hG0⟩ : ∃ G, G = H ++ [⟨[.int .i64 w, .int .i64 h, u2, u3, u4, u5, u6, u7, u8, u9, .int .i64 tm, u10], 0, 54⟩, ⟨[.int .i64 0, .int .i64 0, .slice none 0 0, .slice none 0 0, .slice none 0 0, .slice none 0 0, .slice none 0 0, .slice none 0 0, .slice none 0 0, .slice none 0 0, .int .i64 0, .slice none 0 0], 0, 62⟩, ⟨[.int .i64 0, .int .i64 0, .slice none 0 0, .slice none 0 0, .slice none 0 0, .slice none 0 0, .slice none 0 0, .slice none 0 0, .slice none 0 0, .slice none 0 0, .int .i64 0, .slice none 0 0], 0, 62⟩] := ⟨_, rfl⟩
  have b0 : G0[H.length]? = some ⟨[.int .i64 w, .int .i64 h, u2, u3, u4, u5, u6, u7, u8, u9, .int .i64 tm, u10], 0, 54⟩ := by rw [hG0]; simp
  have bR : G0[H.length + 1]? = some ⟨[.int .i64 0, .int .i64 0, .slice none 0 0, .slice none 0 0, .slice none 0 0, .slice none 0 0, .slice none 0 0, .slice none 0 0, .slice none 0 0, .slice none 0 0, .int .i64 0, .slice none 0 0], 0, 62⟩ := by rw [hG0]; simp
  have b1 : G0[H.length + 2]? = some ⟨[.int .i64 0, .int .i64 0, .slice none 0 0, .slice none 0 0, .slice none 0 0, .slice none 0 0, .slice none 0 0, .slice none 0 0, .slice none 0 0, .slice none 0 0, .int .i64 0, .slice none 0 0], 0, 62⟩ := by rw [hG0]; simp
  have cH : Chg H G0 [] := by rw [hG0]; exact Chg.app []
  have lH : H.length + 3 ≤ G0.length := by rw [hG0]; simp
  rw [← hG0]
  clear hG0
  refine wp_thn (toNet_w w h tm u2 u3 u4 u5 u6 u7 u8 u9 h5 h8 h9 b A B own turn buf src arr (r2.chg cH (by simp)) (r3.chg cH (by simp)) (r4.chg cH (by simp)) (r5.chg cH (by simp)) (r6.chg cH (by simp)) (r7.chg cH (by simp)) (r8.chg cH (by simp)) (r9.chg cH (by simp)) l2 l3 l4 l5 l5' l6 l7 l8 l8' l9 l9') ?_
  rintro _ K1 ⟨n, rfl, o1, c1, m1, d1⟩
  have q1 := dNet_one o1
  have lt1 := dNet.lt o1
  have b0 := box_chg b0 c1 (by simp)
  have b1 := box_chg b1 c1 (by simp)
  have bR := box_chg bR c1 (by simp)
  have cH := cH.trans c1
  have lc1 := c1.1
  have e1 : Chg K1 (K1.set (H.length + 2) ⟨[.int .i64 w, .int .i64 h, n.1, n.2.1.1, n.2.1.2, n.2.2.1.1, n.2.2.2.1, n.2.2.2.2.1, n.2.2.2.2.2.1.1, n.2.2.2.2.2.2.1.1, .int .i64 tm, .slice none 0 0], 0, 62⟩) [H.length + 2] := chg_set _ _
  have g1 := set_get (r' := ⟨[.int .i64 w, .int .i64 h, n.1, n.2.1.1, n.2.1.2, n.2.2.1.1, n.2.2.2.1, n.2.2.2.2.1, n.2.2.2.2.2.1.1, n.2.2.2.2.2.2.1.1, .int .i64 tm, .slice none 0 0], 0, 62⟩) b1
  have b0' := box_chg b0 e1 (by simp)
  have bR := box_chg bR e1 (by simp)
  have o1 := Dt.chg (T := dNet) o1 e1 (fun i hi hh => by have := m1 i hi; simp at hh; omega)
  have cH := cH.trans' e1 (fun i hi => .inr (by simp at hi; omega))
  have ls1 : (K1.set (H.length + 2) ⟨[.int .i64 w, .int .i64 h, n.1, n.2.1.1, n.2.1.2, n.2.2.1.1, n.2.2.2.1, n.2.2.2.2.1, n.2.2.2.2.2.1.1, n.2.2.2.2.2.2.1.1, .int .i64 tm, .slice none 0 0], 0, 62⟩).length = K1.length := by simp
  simp [dNet_val, VM.look, b0, b1, one2, one3, one4, one5, one6, one7, one8, one9, one10, q1, hF]
  generalize K1.set (H.length + 2) ⟨[.int .i64 w, .int .i64 h, n.1, n.2.1.1, n.2.1.2, n.2.2.1.1, n.2.2.2.1, n.2.2.2.2.1, n.2.2.2.2.2.1.1, n.2.2.2.2.2.2.1.1, .int .i64 tm, .slice none 0 0], 0, 62⟩ = G1 at *
  clear b0 b1
  try simp [VM.look, b0', one2, one3, one4, one5, one6, one7, one8, one9, one10]
  refine wp_thn (toPacketS_w u10 sent (r10.chg cH (by simp)) l10) ?_
  rintro p K2 ⟨o2, m2, c2⟩
  have q2 := And.intro o2.rd.one' o2.rd.cells
  have b1 := box_chg g1 c2 (by simp)
  have bR := box_chg bR c2 (by simp)
  have o1 := Dt.chg0 (T := dNet) o1 c2
  have cH := cH.trans c2
  have e2 : Chg K2 (K2.set (H.length + 2) ⟨[.int .i64 w, .int .i64 h, n.1, n.2.1.1, n.2.1.2, n.2.2.1.1, n.2.2.2.1, n.2.2.2.2.1, n.2.2.2.2.2.1.1, n.2.2.2.2.2.2.1.1, .int .i64 tm, p], 0, 62⟩) [H.length + 2] := chg_set _ _
  have g2 := set_get (r' := ⟨[.int .i64 w, .int .i64 h, n.1, n.2.1.1, n.2.1.2, n.2.2.1.1, n.2.2.2.1, n.2.2.2.2.1, n.2.2.2.2.2.1.1, n.2.2.2.2.2.2.1.1, .int .i64 tm, p], 0, 62⟩) b1
  have bR := box_chg bR e2 (by simp)
  have o1 := Dt.chg (T := dNet) o1 e2 (fun i hi hh => by have := m1 i hi; simp at hh; omega)
  have o2 := o2.chg e2 (fun i hi hh => by have := m2 i hi; simp at hh; omega)
  have cH := cH.trans' e2 (fun i hi => .inr (by simp at hi; omega))
  simp [VM.look, b1, q1, q2, hF]
  generalize K2.set (H.length + 2) ⟨[.int .i64 w, .int .i64 h, n.1, n.2.1.1, n.2.1.2, n.2.2.1.1, n.2.2.2.1, n.2.2.2.2.1, n.2.2.2.2.2.1.1, n.2.2.2.2.2.2.1.1, .int .i64 tm, p], 0, 62⟩ = G2 at *
  have gR := set_get (r' := ⟨[.int .i64 w, .int .i64 h, n.1, n.2.1.1, n.2.1.2, n.2.2.1.1, n.2.2.2.1, n.2.2.2.2.1, n.2.2.2.2.2.1.1, n.2.2.2.2.2.2.1.1, .int .i64 tm, p], 0, 62⟩) bR
  have eR : Chg G2 (G2.set (H.length + 1) ⟨[.int .i64 w, .int .i64 h, n.1, n.2.1.1, n.2.1.2, n.2.2.1.1, n.2.2.2.1, n.2.2.2.2.1, n.2.2.2.2.2.1.1, n.2.2.2.2.2.2.1.1, .int .i64 tm, p], 0, 62⟩) [H.length + 1] := chg_set _ _
  have o1 := Dt.chg (T := dNet) o1 eR (fun i hi hh => by have := m1 i hi; simp at hh; omega)
  have o2 := o2.chg eR (fun i hi hh => by have := m2 i hi; simp at hh; omega)
  have cH := cH.trans' eR (fun i hi => .inr (by simp at hi; omega))
  try simp [VM.look, g2, bR, gR, hF1, q1, q2]
  refine ⟨(n, p), rfl, ⟨o1, o2, l10⟩, cH, fun i hi => ?_, ?_⟩
  · rcases List.mem_append.1 hi with hi | hi
    · have := m1 i hi; omega
    · have := m2 i hi; omega
  · exact nd_app d1 (ids_nodup p) lt1 (fun i hi => by have := m2 i hi; omega)
end Go.Proofs.Ytcigpclbhfkgaaa.V
/-! Marks: packets, chips. -/
set_option linter.all false
namespace Go.Proofs.Ytcigpclbhfkgaaa.V
open Go Go.VM Go.Proofs
set_option maxRecDepth 10000
variable {frz : Nat} {H : Heap}
def mkP (k : Int) : PkD := (k, k + 1, k + 2, k + 3, k + 4)
def marksP (k : Int) : Nat → List PkD
  | 0 => []
  | n + 1 => marksP k n ++ [mkP (k + 5 * n)]
@[simp] theorem marksP_len (k : Int) : ∀ n, (marksP k n).length = n
  | 0 => rfl
  | n + 1 => by simp [marksP, marksP_len k n]
theorem marksP_get (k : Int) {i : Nat} : ∀ n (h : i < n), (marksP k n)[i]'(by simpa using h) = mkP (k + 5 * i)
  | 0, h => by omega
  | n + 1, h => by
    simp only [marksP]
    by_cases hi : i < n
    · rw [List.getElem_append_left (by simpa using hi)]; exact marksP_get k n hi
    · have : i = n := by omega
      subst this
      rw [List.getElem_append_right (by simp)]; simp
theorem marksP_set (k : Int) (xs : List PkD) {i : Nat} (h : i < xs.length) : (marksP k i ++ xs.drop i).set i (mkP (k + 5 * i)) = marksP k (i + 1) ++ xs.drop (i + 1) := by
  rw [List.set_append_right _ _ (by simp), marksP_len, Nat.sub_self, List.drop_eq_getElem_cons h, List.set_cons_zero, marksP]
  simp
theorem markPacketS_w (v : Value) (xs : List PkD) (e : TypeId) (k : Int) (h : Ow pkF e H v xs) (hl : xs.length ≤ 1073741824) (hk : 0 ≤ k ∧ k ≤ 4611686018427387904) (hf : ∀ i ∈ ids v, frz ≤ i) :
   wp (vcall C frz 74 [v, .int .i64 k] H) (fun r H' => r = .int .i64 (k + 5 * xs.length) ∧ Ow pkF e H' v (marksP k xs.length) ∧ Chg H H' (ids v) ∧ H'.length = H.length) := by
  rw [vcall_go (fn := Try.f74) Try.func74 rfl (by kernel_rfl) rfl]
  simp
  refine wp_inv (fun n t H' => ∃ i : Nat, n = xs.length - i ∧ i ≤ xs.length ∧ t 0 = v ∧ t 1 = .int .i64 (k + 5 * i) ∧ t 5 = .int .i64 i ∧ Ow pkF e H' v (marksP k i ++ xs.drop i) ∧ Chg H H' (ids v) ∧ H'.length = H.length) ?_ (n := xs.length)
    ⟨0, by simp, by omega, by simp, by simp, by simp, by simpa [marksP] using h, Chg.refl _, rfl⟩
  rintro n t H' ⟨i, rfl, hi, h0, h1, h5, o, c, l⟩ ih
  have hlen : (marksP k i ++ xs.drop i).length = xs.length := by simp; omega
  have ll := o.rd.len (P := Try.prog) (ty := 60) (by simp)
  rw [hlen] at ll
  simp [h0, h1, h5, ll]
  refine wp_dec ?_ ?_ <;> intro h6
  · have hi' : i < xs.length := by omega
    have hms := marksP_set k xs hi'
    generalize marksP k i ++ xs.drop i = ys at *
    have hy : i < ys.length := by omega
    obtain ⟨K, hK⟩ : ∃ K, K = k + 5 * (i : Int) := ⟨_, rfl⟩
    obtain ⟨K1, hK1⟩ : ∃ K1, K1 = K + 1 := ⟨_, rfl⟩
    obtain ⟨K2, hK2⟩ : ∃ K1, K1 = K + 2 := ⟨_, rfl⟩
    obtain ⟨K3, hK3⟩ : ∃ K1, K1 = K + 3 := ⟨_, rfl⟩
    obtain ⟨K4, hK4⟩ : ∃ K1, K1 = K + 4 := ⟨_, rfl⟩
    have hmk : mkP K = (K, K1, K2, K3, K4) := by rw [hK1, hK2, hK3, hK4]; rfl
    have w1 : ∀ [Inhabited Unit], IntKind.i64.wrap (K + 1) = K1 := by intro _; rw [w64 (by omega) (by omega), hK1]
    have w2 : ∀ [Inhabited Unit], IntKind.i64.wrap (K1 + 1) = K2 := by intro _; rw [w64 (by omega) (by omega)]; omega
    have w3 : ∀ [Inhabited Unit], IntKind.i64.wrap (K2 + 1) = K3 := by intro _; rw [w64 (by omega) (by omega)]; omega
    have w4 : ∀ [Inhabited Unit], IntKind.i64.wrap (K3 + 1) = K4 := by intro _; rw [w64 (by omega) (by omega)]; omega
    have w5 : ∀ [Inhabited Unit], IntKind.i64.wrap (K4 + 1) = k + 5 * ((i + 1 : Nat) : Int) := by intro _; rw [w64 (by omega) (by omega)]; omega
    rw [← hK] at hms h1
    obtain ⟨z, hz⟩ : ∃ z, z = ys[i] := ⟨_, rfl⟩
    have ix := fun {G : Heap} {zs : List PkD} (oo : Ow pkF e G v zs) (hh : i < zs.length) => oo.rd.idx (P := Try.prog) (ty := 60) (e := 44) (by simp) (i := (i : Int)) (by omega) (by omega)
    have fa := fun {G : Heap} {zs : List PkD} (oo : Ow pkF e G v zs) (hh : i < zs.length) => (show _ ∧ _ ∧ _ ∧ _ ∧ _ from
      ⟨oo.rd.field (P := Try.prog) (s := 44) (f := 0) (o := 0) (n := 1) (ag := false) (by simp) (j := i * 5) (by omega), oo.rd.field (P := Try.prog) (s := 44) (f := 1) (o := 1) (n := 1) (ag := false) (by simp) (j := i * 5) (by omega),
       oo.rd.field (P := Try.prog) (s := 44) (f := 2) (o := 2) (n := 1) (ag := false) (by simp) (j := i * 5) (by omega), oo.rd.field (P := Try.prog) (s := 44) (f := 3) (o := 3) (n := 1) (ag := false) (by simp) (j := i * 5) (by omega),
       oo.rd.field (P := Try.prog) (s := 44) (f := 4) (o := 4) (n := 1) (ag := false) (by simp) (j := i * 5) (by omega)⟩)
    obtain ⟨H1, s1, o1, c1, l1⟩ := o.store1 (P := Try.prog) (frz := frz) (et := 3) (ag := false) (x := .int .i64 K) (by simp) (j := i) (c := 0) (y := (K, z.2)) hy (by decide) rfl rfl (by rw [← hz]; rfl) hf
    obtain ⟨H2, s2, o2, c2, l2⟩ := o1.store1 (P := Try.prog) (frz := frz) (et := 3) (ag := false) (x := .int .i64 K1) (by simp) (j := i) (c := 1) (y := (K, K1, z.2.2)) (by simpa using hy) (by decide) rfl rfl (by simp [pkF_f]) hf
    obtain ⟨H3, s3, o3, c3, l3⟩ := o2.store1 (P := Try.prog) (frz := frz) (et := 3) (ag := false) (x := .int .i64 K2) (by simp) (j := i) (c := 2) (y := (K, K1, K2, z.2.2.2)) (by simpa using hy) (by decide) rfl rfl (by simp [pkF_f]) hf
    obtain ⟨H4, s4, o4, c4, l4⟩ := o3.store1 (P := Try.prog) (frz := frz) (et := 3) (ag := false) (x := .int .i64 K3) (by simp) (j := i) (c := 3) (y := (K, K1, K2, K3, z.2.2.2.2)) (by simpa using hy) (by decide) rfl rfl (by simp [pkF_f]) hf
    obtain ⟨H5, s5, o5, c5, l5⟩ := o4.store1 (P := Try.prog) (frz := frz) (et := 3) (ag := false) (x := .int .i64 K4) (by simp) (j := i) (c := 4) (y := (K, K1, K2, K3, K4)) (by simpa using hy) (by decide) rfl rfl (by simp [pkF_f]) hf
    have i0 := ix o hy
    have i1 := ix o1 (by simpa using hy)
    have i2 := ix o2 (by simpa using hy)
    have i3 := ix o3 (by simpa using hy)
    have i4 := ix o4 (by simpa using hy)
    have f0 := (fa o hy).1
    have f1 := (fa o1 (by simpa using hy)).2.1
    have f2 := (fa o2 (by simpa using hy)).2.2.1
    have f3 := (fa o3 (by simpa using hy)).2.2.2.1
    have f4 := (fa o4 (by simpa using hy)).2.2.2.2
    simp only [Int.toNat_natCast, pkF_n, Nat.add_zero] at i0 i1 i2 i3 i4 s1 s2 s3 s4 s5 f0
    simp [-vfieldAddr, vfa_ptr, h0, h1, h5, i0, i1, i2, i3, i4, f0, f1, f2, f3, f4, s1, s2, s3, s4, s5, w1, w2, w3, w4, w5]
    refine ih (xs.length - (i + 1)) _ _ ⟨i + 1, rfl, by omega, by simp [h0], ?_, ?_, ?_, (((((c.trans c1).trans c2).trans c3).trans c4).trans c5), by omega⟩ (by omega)
    · simp
    · simp; rw [w64 (by omega) (by omega)]
    · rw [← hms, hmk]; simpa only [List.set_set] using o5
  · have : i = xs.length := by omega
    subst this
    simp [h0, h1, h5]
    exact ⟨by simpa using o, c, l⟩
theorem heldPacketS_c (v : Value) (n : Nat) (k : Int) (h : Rd pkF H v (marksP k n)) (hl : n ≤ 1073741824) (hk : 0 ≤ k ∧ k ≤ 4611686018427387904) :
   vcall C frz 75 [v, .int .i64 k] H = some (.int .i64 (k + 5 * n), H) := by
  refine wp.exact (by simp) ?_ rfl
  rw [vcall_go (fn := Try.f75) Try.func75 rfl (by kernel_rfl) rfl]
  have ll := h.len (P := Try.prog) (ty := 60) (by simp)
  rw [marksP_len] at ll
  simp
  refine wp_inv (fun m t H' => ∃ i : Nat, m = n - i ∧ i ≤ n ∧ t 0 = v ∧ t 1 = .int .i64 (k + 5 * i) ∧ t 5 = .int .i64 i ∧ H' = H) ?_ (n := n) ⟨0, rfl, by omega, by simp, by simp, by simp, rfl⟩
  rintro m t H' ⟨i, rfl, hi, h0, h1, h5, rfl⟩ ih
  simp [h0, h1, h5, ll]
  refine wp_dec ?_ ?_ <;> intro h6
  · have hi' : i < n := by omega
    have hy : i < (marksP k n).length := by simpa using hi'
    obtain ⟨K, hK⟩ : ∃ K, K = k + 5 * (i : Int) := ⟨_, rfl⟩
    obtain ⟨K1, hK1⟩ : ∃ K1, K1 = K + 1 := ⟨_, rfl⟩
    obtain ⟨K2, hK2⟩ : ∃ K1, K1 = K + 2 := ⟨_, rfl⟩
    obtain ⟨K3, hK3⟩ : ∃ K1, K1 = K + 3 := ⟨_, rfl⟩
    obtain ⟨K4, hK4⟩ : ∃ K1, K1 = K + 4 := ⟨_, rfl⟩
    have hmk : (marksP k n)[i] = (K, K1, K2, K3, K4) := by rw [marksP_get k n hi', hK1, hK2, hK3, hK4, hK]; rfl
    have w1 : ∀ [Inhabited Unit], IntKind.i64.wrap (K + 1) = K1 := by intro _; rw [w64 (by omega) (by omega), hK1]
    have w2 : ∀ [Inhabited Unit], IntKind.i64.wrap (K1 + 1) = K2 := by intro _; rw [w64 (by omega) (by omega)]; omega
    have w3 : ∀ [Inhabited Unit], IntKind.i64.wrap (K2 + 1) = K3 := by intro _; rw [w64 (by omega) (by omega)]; omega
    have w4 : ∀ [Inhabited Unit], IntKind.i64.wrap (K3 + 1) = K4 := by intro _; rw [w64 (by omega) (by omega)]; omega
    have w5 : ∀ [Inhabited Unit], IntKind.i64.wrap (K4 + 1) = k + 5 * ((i + 1 : Nat) : Int) := by intro _; rw [w64 (by omega) (by omega)]; omega
    rw [← hK] at h1
    have i0 := h.idx (P := Try.prog) (ty := 60) (e := 44) (by simp) (i := (i : Int)) (by omega) (by omega)
    have f0 := h.field (P := Try.prog) (s := 44) (f := 0) (o := 0) (n := 1) (ag := false) (by simp) (j := i * 5) (by omega)
    have f1 := h.field (P := Try.prog) (s := 44) (f := 1) (o := 1) (n := 1) (ag := false) (by simp) (j := i * 5) (by omega)
    have f2 := h.field (P := Try.prog) (s := 44) (f := 2) (o := 2) (n := 1) (ag := false) (by simp) (j := i * 5) (by omega)
    have f3 := h.field (P := Try.prog) (s := 44) (f := 3) (o := 3) (n := 1) (ag := false) (by simp) (j := i * 5) (by omega)
    have f4 := h.field (P := Try.prog) (s := 44) (f := 4) (o := 4) (n := 1) (ag := false) (by simp) (j := i * 5) (by omega)
    have c0 := h.cell (P := Try.prog) (e := 3) (by simp) hy (c := 0) (by decide)
    have c1 := h.cell (P := Try.prog) (e := 3) (by simp) hy (c := 1) (by decide)
    have c2 := h.cell (P := Try.prog) (e := 3) (by simp) hy (c := 2) (by decide)
    have c3 := h.cell (P := Try.prog) (e := 3) (by simp) hy (c := 3) (by decide)
    have c4 := h.cell (P := Try.prog) (e := 3) (by simp) hy (c := 4) (by decide)
    rw [hmk] at c0 c1 c2 c3 c4
    simp only [Int.toNat_natCast, pkF_n, pkF_f, Nat.add_zero] at i0 f0 c0 c1 c2 c3 c4
    simp at c0 c1 c2 c3 c4
    simp [-vfieldAddr, vfa_ptr, h0, h1, h5, i0, f0, f1, f2, f3, f4, c0, c1, c2, c3, c4, w1, w2, w3, w4, w5]
    refine ih (n - (i + 1)) _ _ ⟨i + 1, rfl, by omega, by simp [h0], ?_, ?_, rfl⟩ (by omega)
    · simp
    · simp; rw [w64 (by omega) (by omega)]
  · have : i = n := by omega
    subst this
    simp [h0, h1, h5]
theorem markPk_d {v : Value} {a : List PkD} {k : Int} (h : dPk.Ow H v a) (hd : (dPk.ids v).Nodup) (hk : 0 ≤ k ∧ k ≤ 2305843009213693952) (hf : ∀ i ∈ dPk.ids v, frz ≤ i) :
    wp (vcall C frz 74 [v, .int .i64 k] H) (Marks 5368709120 dPk 75 H v a k) := by
  refine (markPacketS_w v a _ k h.1 h.2 ⟨by omega, by omega⟩ hf).mono ?_
  rintro r H' ⟨rfl, o, c, l⟩
  have := h.2
  refine ⟨5 * (a.length : Int), marksP k a.length, rfl, by omega, rfl, ⟨o, by simpa using h.2⟩, c, fun F H2 h2 => ?_⟩
  exact heldPacketS_c v a.length k h2.1.rd h.2 ⟨by omega, by omega⟩
theorem markChip_d {v : ChipV} {a : ChipD} {k : Int} (h : dChip.Ow H v a) (hd : (dChip.ids v).Nodup) (hk : 0 ≤ k ∧ k ≤ 576460752303423488) (hf : ∀ i ∈ dChip.ids v, frz ≤ i) :
    wp (vcall C frz 33 [dChip.val v a, .int .i64 k] H) (Marks 9007199254740992 dChip 34 H v a k) := by
  have oneA := dChip_one h
  obtain ⟨v1, v2⟩ := v
  obtain ⟨⟨⟨w, g, b⟩, r2, r3, r4, r5, r6, r7, tm⟩, a2⟩ := a
  obtain ⟨h1, h2⟩ := h
  have ones := oneA.1
  have one2 := oneA.2
  simp only at h1 h2 ones one2
  rw [dChip_val]
  rw [vcall_go (fn := Try.f33) Try.func33 rfl (by kernel_rfl) rfl]
  have rest7 : dChip.ids (v1, v2) = dNet.ids v1 ++ dPk.ids v2 := rfl
  rw [rest7] at hd hf
  obtain ⟨d1, d2, x1⟩ := List.nodup_append.1 hd
  have z2_1 : ∀ i ∈ dPk.ids v2, i ∉ dNet.ids v1 := fun i hi hh => x1 i hh i hi rfl
  have z1_2 : ∀ i ∈ dNet.ids v1, i ∉ dPk.ids v2 := fun i hh hi => x1 i hh i hi rfl
  have lt1 := dNet.lt h1
  have lt2 := dPk.lt h2
  simp [ones, one2]
  obtain ⟨G0, hG0⟩ : ∃ G, G = H ++ [⟨[.int .i64 w, .int .i64 g, v1.1, v1.2.1.1, v1.2.1.2, v1.2.2.1.1, v1.2.2.2.1, v1.2.2.2.2.1, v1.2.2.2.2.2.1.1, v1.2.2.2.2.2.2.1.1, .int .i64 tm, v2], 0, 62⟩] := ⟨_, rfl⟩
  have b0 : G0[H.length]? = some ⟨[.int .i64 w, .int .i64 g, v1.1, v1.2.1.1, v1.2.1.2, v1.2.2.1.1, v1.2.2.2.1, v1.2.2.2.2.1, v1.2.2.2.2.2.1.1, v1.2.2.2.2.2.2.1.1, .int .i64 tm, v2], 0, 62⟩ := by rw [hG0]; simp
  have cH : Chg H G0 (dChip.ids (v1, v2)) := by rw [hG0]; exact Chg.app _
  have h1 := (by rw [hG0]; exact Dt.app (T := dNet) h1 : dNet.Ow G0 v1 ((w, g, b), r2, r3, r4, r5, r6, r7, tm))
  have h2 := (by rw [hG0]; exact Dt.app (T := dPk) h2 : dPk.Ow G0 v2 a2)
  rw [← hG0]
  clear hG0
  have m1 := markNet_d (frz := frz) (k := k) h1 d1 (by omega) (fun i hi => hf i (List.mem_append.2 (.inl hi)))
  simp only [dNet_val] at m1
  refine wp_thn m1 ?_
  rintro _ G1 ⟨n1, a1', rfl, hn1, hv1, o1, c1, he1⟩
  clear m1
  have b0 := box_chg b0 c1 (fun hh => by have := lt1 _ hh; omega)
  have h2 := Dt.chg (T := dPk) h2 c1 z2_1
  have cH := cH.trans (c1.mono (fun i hi => List.mem_append.2 (.inl hi)))
  have m2 := markPk_d (frz := frz) (k := k + n1) h2 d2 (by omega) (fun i hi => hf i (List.mem_append.2 (.inr hi)))
  simp [VM.look, b0, ones, one2]
  refine wp_thn m2 ?_
  rintro _ G2 ⟨n2, a2', rfl, hn2, hv2, o2, c2, he2⟩
  clear m2
  have o1 := Dt.chg (T := dNet) o1 c2 z1_2
  have cH := cH.trans (c2.mono (fun i hi => List.mem_append.2 (.inr hi)))
  simp
  obtain ⟨⟨w', g', b'⟩, s2, s3, s4, s5, s6, s7, tm'⟩ := a1'
  obtain ⟨e1, e2, e3⟩ : w' = w ∧ g' = g ∧ tm' = tm := by simpa [dNet_val] using hv1
  subst e1 e2 e3
  refine ⟨n1 + n2, (((w', g', b'), s2, s3, s4, s5, s6, s7, tm'), a2'), by congr 1; omega, by omega, by rw [dChip_val, dChip_val], ⟨o1, o2⟩, cH, fun F H3 q => ?_⟩
  obtain ⟨p1, p2⟩ := q
  simp only at p1 p2
  rw [dChip_val]
  rw [vcall_go (fn := Try.f34) Try.func34 rfl (by kernel_rfl) rfl]
  have y1 := fun F => he1 F (H3 ++ [⟨[.int .i64 w', .int .i64 g', v1.1, v1.2.1.1, v1.2.1.2, v1.2.2.1.1, v1.2.2.2.1, v1.2.2.2.2.1, v1.2.2.2.2.2.1.1, v1.2.2.2.2.2.2.1.1, .int .i64 tm', v2], 0, 62⟩]) (Dt.app (T := dNet) p1)
  simp only [dNet_val] at y1
  have f1 : ¬ k + n1 < 0 := by omega
  have y2 := fun F => he2 F (H3 ++ [⟨[.int .i64 w', .int .i64 g', v1.1, v1.2.1.1, v1.2.1.2, v1.2.2.1.1, v1.2.2.2.1, v1.2.2.2.2.1, v1.2.2.2.2.2.1.1, v1.2.2.2.2.2.2.1.1, .int .i64 tm', v2], 0, 62⟩]) (Dt.app (T := dPk) p2)
  simp only [show ∀ (v : Value) (a : List PkD), dPk.val v a = v from fun _ _ => rfl] at y2
  have f2 : ¬ k + n1 + n2 < 0 := by omega
  simp [ones, one2, y1, f1]
  simp [ones, one2, y2, f2]
  omega
end Go.Proofs.Ytcigpclbhfkgaaa.V
/-! Links. -/
set_option linter.all false
namespace Go.Proofs.Ytcigpclbhfkgaaa.V
open Go Go.VM Go.Proofs
set_option maxRecDepth 10000
variable {frz : Nat} {H : Heap}
theorem sOpposite_c (p : Int) : vcall C frz 202 [.int .i64 p] H = some (.int .i64 (opp p), H) := by
  rw [vcall_go (fn := Try.f202) Try.func202 rfl (by kernel_rfl) rfl]
  simp
  refine br_dec _ ?_ ?_ <;> intro h1 <;> simp [h1, opp, l01In_c]
  refine br_dec _ ?_ ?_ <;> intro h2
  · obtain ⟨h3, h4⟩ := h2
    simp [h3, h4]
    rw [w64 (by omega) (by omega), Int.tmod_eq_emod_of_nonneg (by omega)]
  · have h3 : ¬ (0 ≤ p ∧ p ≤ 3) := h2
    simp [h3]
theorem opp_range (p : Int) : -1 ≤ opp p ∧ opp p ≤ 4 := by unfold opp; split <;> (try split) <;> omega
theorem endC_range (w h c : Int) : -1 ≤ endC w h c ∧ endC w h c < 16 := next_range _ _ _ _
theorem leads_lt {w h c : Int} (h1 : leads w h c) : 0 ≤ c ∧ c < 64 := by have := cnt_range w h; have := h1.1; omega
theorem back_w64 {w h c : Int} : IntKind.i64.wrap (4 * endC w h c) = 4 * endC w h c ∧ IntKind.i64.wrap (4 * endC w h c + opp (c % 4)) = backC w h c := by
  have h1 := endC_range w h c
  have h2 := opp_range (c % 4)
  exact ⟨w64 (by omega) (by omega), by unfold backC; exact w64 (by omega) (by omega)⟩
end Go.Proofs.Ytcigpclbhfkgaaa.V
/-! slices.Repeat of one number. -/
set_option linter.all false
namespace Go.Proofs.Ytcigpclbhfkgaaa.V
open Go Go.VM Go.Proofs
set_option maxRecDepth 10000
variable {frz : Nat} {H : Heap}
theorem u64w {x : Int} (h1 : 0 ≤ x) (h2 : x ≤ 18446744073709551615) : IntKind.u64.wrap x = x := by
  have : IntKind.u64.wrap x = x % 18446744073709551616 := by
    simp [IntKind.wrap, IntKind.bits, IntKind.signed]
  rw [this]; omega
theorem iand_mask (m : Nat) (h : m < 4294967296) : iand .u64 (m : Int) 4294967295 = m := by
  have := bits_and m 4294967295 (by omega) (by omega) .u64 rfl
  have e : ((4294967295 : Nat) : Int) = 4294967295 := rfl
  rw [e] at this
  unfold iand
  rw [this, show (4294967295 : Nat) = 2 ^ 32 - 1 from rfl, Nat.and_two_pow_sub_one_eq_mod, u64w (by omega) (by omega)]
  omega
theorem ishr32 (m : Nat) (h : m < 4294967296) : ishr .u64 (m : Int) 32 = 0 := by
  have := ishr_nat .u64 m 32 (by decide)
  have e : ((32 : Nat) : Int) = 32 := rfl
  rw [e] at this
  rw [this]; omega
theorem splice_rep (c z : Value) (k m : Nat) (j : Nat) (h : j ≤ m) : VM.splice (List.replicate k c ++ List.replicate m z) k (List.replicate j c) = List.replicate (k + j) c ++ List.replicate (m - j) z := by
  unfold VM.splice
  rw [List.take_left' (by simp), List.drop_append, List.drop_of_length_le (by simp)]
  simp only [List.length_replicate, Nat.add_sub_cancel_left, List.nil_append, List.drop_replicate]
  rw [List.replicate_append_replicate]
end Go.Proofs.Ytcigpclbhfkgaaa.V
/-! TreeNodes. -/
set_option linter.all false
namespace Go.Proofs.Ytcigpclbhfkgaaa.V
open Go Go.VM Go.Proofs
set_option maxRecDepth 10000
variable {frz : Nat} {H : Heap}
theorem made_base {α : Type} {D : Fl α} {e : TypeId} {L H' : Heap} {xs : List α} {r : Value} (h : Made D e (H ++ L) xs r H') : Made D e H xs r H' := by
  obtain ⟨M, rfl, o, n⟩ := h
  exact ⟨L ++ M, by simp, by simpa using o, fun i hi => by have := n i hi; simp at this; omega⟩
theorem idx_get {y : List Int} {c : Int} (h : c ∈ y) : y[y.idxOf c]'(List.idxOf_lt_length_iff.2 h) = c := by
  have := List.findIdx_getElem (p := (· == c)) (xs := y) (w := List.idxOf_lt_length_iff.2 h)
  simpa using this
theorem idx_ne {y : List Int} {c : Int} {j : Nat} (h : j < y.idxOf c) (h' : j < y.length) : y[j] ≠ c := by
  have := List.not_of_lt_findIdx (p := (· == c)) (xs := y) h
  simpa using this
theorem idx_at {y : List Int} {c : Int} {j : Nat} (h : j < y.length) (h1 : y[j] = c) : y.idxOf c ≤ j := by
  by_cases hj : j < y.idxOf c
  · exact absurd h1 (idx_ne hj h)
  · omega
theorem swapI {A B : Heap} {v : Value} {xs : List Int} {r : Row} (r' : Row) (h : IsI (A ++ r :: B) v xs) (hn : ∀ i ∈ ids v, A.length + 1 ≤ i) : IsI (A ++ r' :: B) v xs :=
  (h.rd.frame fun i hi => by
    have := hn i hi
    obtain ⟨k, rfl⟩ : ∃ k, i = A.length + (k + 1) := ⟨i - A.length - 1, by omega⟩
    simp).isI
end Go.Proofs.Ytcigpclbhfkgaaa.V
/-! TreeDepths. -/
set_option linter.all false
namespace Go.Proofs.Ytcigpclbhfkgaaa.V
open Go Go.VM Go.Proofs
set_option maxRecDepth 10000
variable {frz : Nat} {H : Heap}
theorem rowget {xs : List Int} {x : Int} (h0 : 0 ≤ x) (h1 : x < xs.length) : (xs.map (Value.int .i64))[x.toNat]? = some (.int .i64 (rd xs x)) := by
  obtain ⟨i, rfl⟩ := Int.eq_ofNat_of_zero_le h0
  rw [rd_at (by omega)]; simp
theorem rd_nat {xs : List Int} {x : Int} (h0 : 0 ≤ x) (h1 : x < xs.length) : xs[x.toNat]'(by omega) = rd xs x := by
  obtain ⟨i, rfl⟩ := Int.eq_ofNat_of_zero_le h0
  rw [rd_at (by omega)]; rfl
theorem rowset {xs : List Int} {x c : Int} (h0 : 0 ≤ x) (h1 : x < xs.length) : VM.splice (xs.map (Value.int .i64)) x.toNat [.int .i64 c] = (xs.set x.toNat c).map (.int .i64) := by
  unfold VM.splice
  rw [List.set_eq_take_append_cons_drop, if_pos (by omega)]
  simp
theorem wr1 : IntKind.i64.wrap 1 = 1 := by decide
theorem run_next {w h : Int} {b s rest nx r : List Int} {d : Int} (R : Run w h b s rest nx d r) (i : Inv w h s rest nx d) : (rest = [] ∧ nx = [] ∧ s = r) ∨
    ∃ a rest' nx' d', rest ++ nx = a :: (rest' ++ nx') ∧ Inv w h s (a :: rest') nx' d' ∧ Run w h b (vis w h b a d' (s, nx')).1 rest' (vis w h b a d' (s, nx')).2 d' r := by
  cases R with
  | done => exact .inl ⟨rfl, rfl, rfl⟩
  | level R =>
    cases R with
    | node R => exact .inr ⟨_, _, [], _, by simp, i.level, R⟩
  | node R => exact .inr ⟨_, _, _, _, by simp, i, R⟩
end Go.Proofs.Ytcigpclbhfkgaaa.V
/-! TreeDepths of the reference. -/
set_option linter.all false
namespace Go.Proofs.Ytcigpclbhfkgaaa.V
open Go Go.VM Go.Proofs
set_option maxRecDepth 10000
variable {frz : Nat} {H : Heap}
theorem run_level {w h : Int} {b s nx r : List Int} {d : Int} (R : Run w h b s [] nx d r) (i : Inv w h s [] nx d) : (nx = [] ∧ s = r) ∨ (Run w h b s nx [] (d + 1) r ∧ Inv w h s nx [] (d + 1)) := by
  cases R with
  | done => exact .inl ⟨rfl, rfl⟩
  | level R => exact .inr ⟨R, i.level⟩
theorem run_node {w h : Int} {b s rest nx r : List Int} {a d : Int} (R : Run w h b s (a :: rest) nx d r) : Run w h b (vis w h b a d (s, nx)).1 rest (vis w h b a d (s, nx)).2 d r := by
  cases R with
  | node R => exact R
end Go.Proofs.Ytcigpclbhfkgaaa.V
/-! TreeParents, IsConnected, DepthOfTree, BestRoot. -/
set_option linter.all false
namespace Go.Proofs.Ytcigpclbhfkgaaa.V
open Go Go.VM Go.Proofs
set_option maxRecDepth 10000
variable {frz : Nat} {H : Heap}
/-- the parent that j ports, from the last one on, tell -/
def pF (w h : Int) (b d : List Int) (i : Int) : Nat → Int
  | 0 => -1
  | j + 1 => if toRoot w h b d i (3 - j) then next w h i (3 - j : Nat) else pF w h b d i j
theorem pF_par {w h : Int} {b d : List Int} {i : Int} (h0 : rd d i > 0) : pF w h b d i 4 = par w h b d i := by
  simp only [par, pF, if_pos h0]
theorem wrm1 : IntKind.i64.wrap (-1) = -1 := by decide
end Go.Proofs.Ytcigpclbhfkgaaa.V
/-! TreeParents of the reference. -/
set_option linter.all false
namespace Go.Proofs.Ytcigpclbhfkgaaa.V
open Go Go.VM Go.Proofs
set_option maxRecDepth 10000
variable {frz : Nat} {H : Heap}
theorem par_at {w h : Int} {b d : List Int} {i : Int} {p : Nat} (hp : p < 4) (h0 : rd d i > 0) (h1 : ∀ q < p, ¬ toRoot w h b d i q) (h2 : toRoot w h b d i p) : par w h b d i = next w h i p := by
  unfold par
  rw [if_pos h0]
  have : p = 0 ∨ p = 1 ∨ p = 2 ∨ p = 3 := by omega
  rcases this with rfl | rfl | rfl | rfl
  · rw [if_pos h2]
  · rw [if_neg (h1 0 (by omega)), if_pos h2]
  · rw [if_neg (h1 0 (by omega)), if_neg (h1 1 (by omega)), if_pos h2]
  · rw [if_neg (h1 0 (by omega)), if_neg (h1 1 (by omega)), if_neg (h1 2 (by omega)), if_pos h2]
theorem par_none {w h : Int} {b d : List Int} {i : Int} (h1 : rd d i > 0 → ∀ q < 4, ¬ toRoot w h b d i q) : par w h b d i = -1 := by
  unfold par
  by_cases h0 : rd d i > 0
  · have h1 := h1 h0
    rw [if_pos h0, if_neg (h1 0 (by omega)), if_neg (h1 1 (by omega)), if_neg (h1 2 (by omega)), if_neg (h1 3 (by omega))]
  · rw [if_neg h0]
end Go.Proofs.Ytcigpclbhfkgaaa.V
/-! IsConnected, DepthOfTree, BestRoot. -/
set_option linter.all false
namespace Go.Proofs.Ytcigpclbhfkgaaa.V
open Go Go.VM Go.Proofs
set_option maxRecDepth 10000
variable {frz : Nat} {H : Heap}
theorem ite_max (a b : Int) : (if a < b then b else a) = max a b := by omega
theorem foldl_max_take {xs : List Int} {a : Int} {i : Nat} (h : i < xs.length) : (xs.take (i + 1)).foldl max a = max ((xs.take i).foldl max a) xs[i] := by
  rw [List.take_succ_eq_append_getElem h, List.foldl_append]; rfl
theorem best_range {w h : Int} {b : List Int} (n : Nat) : 0 ≤ (List.range n).foldl (better w h b) 0 := by
  induction n with
  | zero => simp
  | succ n ih => rw [List.range_succ, List.foldl_append]; exact better_range ih
end Go.Proofs.Ytcigpclbhfkgaaa.V
/-! TreeNodes of the reference. -/
set_option linter.all false
namespace Go.Proofs.Ytcigpclbhfkgaaa.V
open Go Go.VM Go.Proofs
set_option maxRecDepth 10000
variable {frz : Nat} {H : Heap}
end Go.Proofs.Ytcigpclbhfkgaaa.V
/-! TreeNodes as contracts on data. -/
set_option linter.all false
namespace Go.Proofs.Ytcigpclbhfkgaaa.V
open Go Go.VM Go.Proofs
variable {frz : Nat} {H : Heap}
theorem made_d {α : Type} {D : Fl α} {e : TypeId} {n : Nat} {xs : List α} {r : Value} {H' : Heap} (h : Made D e H xs r H') (hl : xs.length ≤ n) : (dFlat D e n).Made H xs r H' := by
  obtain ⟨L, rfl, o, k⟩ := h
  exact ⟨r, rfl, ⟨o, hl⟩, Chg.app _, k, ids_nodup r⟩
theorem treeNodes_len (P : List Int) (a b : Int) : (treeNodes P a b).length ≤ P.length + P.length := by
  have h1 := anc_len P a
  have h2 := anc_len P b
  unfold treeNodes
  split
  · simp
  · simp; omega
end Go.Proofs.Ytcigpclbhfkgaaa.V
/-! Trees: who is reached, and the first step of a way. -/
set_option linter.all false
namespace Go.Proofs.Ytcigpclbhfkgaaa.V
open Go Go.VM
set_option maxRecDepth 100000
def geoB : Bool := (List.range 5).all fun w => (List.range 5).all fun h => (List.range 16).all fun a => (List.range 4).all fun p =>
  decide (next (w : Int) h a p < 0) || (decide (next w h (next w h a p) (opp p) = a) && (decide (0 ≤ opp p) && (decide (opp p < 4) && (decide (next (w : Int) h a p ≠ a) && decide (opp (opp p) = p)))))
theorem geo_dec : geoB = true := by decide +kernel
theorem geo {w h a : Int} {p : Nat} (hp : p < 4) (ha : isN w h a) (hu : 0 ≤ next w h a p) : next w h (next w h a p) (opp p) = a ∧ 0 ≤ opp p ∧ opp p < 4 ∧ next w h a p ≠ a ∧ opp (opp p) = p := by
  obtain ⟨⟨⟨a1, a2⟩, b1, b2⟩, c1, c2, c3⟩ := isN_ok ha
  have h0 := geo_dec
  unfold geoB at h0
  rw [List.all_eq_true] at h0
  have h1 := h0 w.toNat (by simp; omega)
  rw [List.all_eq_true] at h1
  have h2 := h1 h.toNat (by simp; omega)
  rw [List.all_eq_true] at h2
  have h3 := h2 a.toNat (by simp; omega)
  rw [List.all_eq_true] at h3
  have h4 := h3 p (by simp; omega)
  have e1 : (w.toNat : Int) = w := by omega
  have e2 : (h.toNat : Int) = h := by omega
  have e3 : (a.toNat : Int) = a := by omega
  rw [e1, e2, e3] at h4
  simp only [Bool.or_eq_true, Bool.and_eq_true, decide_eq_true_eq] at h4
  rcases h4 with h4 | h4
  · omega
  · exact h4
theorem link_symm {w h : Int} {b : List Int} {a : Int} {p : Nat} (hp : p < 4) (h1 : link w h b (4 * a + p)) : ∃ q : Nat, q < 4 ∧ link w h b (4 * next w h a p + q) ∧ next w h (next w h a p) q = a := by
  obtain ⟨ha, hu, he⟩ := link_next hp h1
  obtain ⟨g1, g2, g3, g4, g5⟩ := geo hp ha hu.1
  have e0 : (4 * a + (p : Int)) % 4 = p := by omega
  have hb : backC w h (4 * a + p) = 4 * next w h a p + opp p := by unfold backC; rw [he, e0]
  have h2 := h1.2
  rw [hb] at h2
  obtain ⟨q, hq⟩ := Int.eq_ofNat_of_zero_le g2
  rw [hq] at g1 g3 g5 h2
  have eq1 : (4 * next w h a p + (q : Int)) / 4 = next w h a p := by omega
  have eq2 : (4 * next w h a p + (q : Int)) % 4 = q := by omega
  refine ⟨q, by omega, ⟨h2, ?_⟩, g1⟩
  have : backC w h (4 * next w h a p + q) = 4 * a + p := by unfold backC endC; rw [eq1, eq2, g1, g5]
  rw [this]; exact h1.1

/-- what visiting the ports of a list does -/
structure VOut (w h : Int) (b : List Int) (a d : Int) (l : List Nat) (x y : List Int × List Int) : Prop where
  keep : ∀ v, 0 ≤ v → 0 ≤ rd x.1 v → rd y.1 v = rd x.1 v
  new : ∀ v, isN w h v → rd x.1 v < 0 → 0 ≤ rd y.1 v → rd y.1 v = d ∧ v ∈ y.2 ∧ ∃ p : Nat, p < 4 ∧ link w h b (4 * a + p) ∧ next w h a p = v
  all : ∀ p ∈ l, link w h b (4 * a + (p : Nat)) → 0 ≤ rd y.1 (next w h a p)
  pre : ∀ v ∈ x.2, v ∈ y.2
  len : y.1.length = x.1.length
theorem vst_out {w h : Int} {b : List Int} {a d : Int} (hd : 0 ≤ d) : ∀ (l : List Nat) (x : List Int × List Int), (∀ p ∈ l, p < 4) → (∀ v, isN w h v → v < x.1.length) → VOut w h b a d l x (l.foldl (vst w h b a d) x)
  | [], x, _, _ => ⟨fun _ _ _ => rfl, fun v _ h1 h2 => by simp only [List.foldl_nil] at h2; omega, fun p hp => by simp at hp, fun _ h => h, rfl⟩
  | p :: l, x, hl, hlen => by
    have hp := hl p (by simp)
    have E := vst_ext (w := w) (h := h) (b := b) (a := a) (x := x) hp hd
    have ih := vst_out (w := w) (h := h) (b := b) (a := a) hd l (vst w h b a d x p) (fun q hq => hl q (by simp [hq])) (by rw [E.len]; exact hlen)
    refine ⟨fun v h0 h1 => ?_, fun v hv h1 h2 => ?_, fun q hq hlk => ?_, fun v hv => ih.pre v (E.pre v hv), by rw [List.foldl_cons, ih.len, E.len]⟩
    · have e1 := E.old v h0 h1
      rw [List.foldl_cons, ih.keep v h0 (by omega), e1]
    · by_cases h3 : rd (vst w h b a d x p).1 v < 0
      · exact ih.new v hv h3 h2
      · have h4 : 0 ≤ rd (vst w h b a d x p).1 v := by omega
        have e2 := ih.keep v hv.1 h4
        have : link w h b (4 * a + p) ∧ next w h a p = v ∧ rd (vst w h b a d x p).1 v = d ∧ v ∈ (vst w h b a d x p).2 := by
          unfold vst at h4 ⊢
          split at h4
          · rename_i hc
            rw [if_pos hc]
            obtain ⟨_, hn, _⟩ := link_next hp hc.1
            have hln := hlen _ hn
            simp only at h4 ⊢
            rw [rd_set hn.1 hln hv.1] at h4 ⊢
            by_cases hvn : v = next w h a p
            · rw [if_pos hvn]; exact ⟨hc.1, hvn.symm, rfl, by simp [hvn]⟩
            · rw [if_neg hvn] at h4; omega
          · omega
        rw [List.foldl_cons]
        exact ⟨by rw [e2]; exact this.2.2.1, ih.pre v this.2.2.2, p, hp, this.1, this.2.1⟩
    · rcases List.mem_cons.1 hq with rfl | hq
      · obtain ⟨_, hn, _⟩ := link_next hp hlk
        have hln := hlen _ hn
        have h4 : 0 ≤ rd (vst w h b a d x q).1 (next w h a q) := by
          unfold vst
          split
          · simp only; rw [rd_set hn.1 hln hn.1, if_pos rfl]; exact hd
          · rename_i hc
            by_cases h5 : rd x.1 (next w h a q) < 0
            · exact absurd ⟨hlk, h5⟩ hc
            · omega
        rw [List.foldl_cons, ih.keep _ hn.1 h4]; exact h4
      · exact ih.all q hq hlk
structure Inv2 (w h : Int) (b : List Int) (root : Int) (s rest nx : List Int) : Prop where
  cl : ∀ v, isN w h v → 0 ≤ rd s v → v ∉ rest → v ∉ nx → ∀ p : Nat, p < 4 → link w h b (4 * v + p) → 0 ≤ rd s (next w h v p)
  pre : ∀ v, isN w h v → 0 < rd s v → ∃ u, isN w h u ∧ rd s u = rd s v - 1 ∧ ∃ q : Nat, q < 4 ∧ link w h b (4 * u + q) ∧ next w h u q = v
  zero : rd s root = 0 ∧ ∀ v, isN w h v → rd s v = 0 → v = root
theorem Run.inv2 {w h root : Int} {b s rest nx r : List Int} {d : Int} (hr : isN w h root) (R : Run w h b s rest nx d r) : Inv w h s rest nx d → Inv2 w h b root s rest nx → Inv2 w h b root r [] [] := by
  induction R with
  | done s d => exact fun _ j => j
  | level _ ih => exact fun i j => ih i.level ⟨fun v hv h0 h1 h2 => j.cl v hv h0 (by simp) h1, j.pre, j.zero⟩
  | @node s a rest nx d r _ ih =>
    intro i j
    have h1 := i.one
    obtain ⟨ha, hda⟩ := i.fr a (by simp)
    have O : VOut w h b a d (List.range 4) (s, nx) (vis w h b a d (s, nx)) := vst_out (by omega) _ _ (by simp) (fun v hv => by have := i.len; have := hv.2; simp only; omega)
    refine ih i.node ⟨fun v hv h0 hn1 hn2 p hp hlk => ?_, fun v hv h0 => ?_, ?_, fun v hv h0 => ?_⟩
    · have hnx := (link_next hp hlk).2.1
      by_cases h2 : 0 ≤ rd s v
      · by_cases hva : v = a
        · subst hva; exact O.all p (by simp; omega) hlk
        · have h3 := j.cl v hv h2 (by simp [hva, hn1]) (fun hh => hn2 (O.pre v hh)) p hp hlk
          rw [O.keep _ hnx.1 h3]; exact h3
      · exact absurd (O.new v hv (by simp only; omega) h0).2.1 hn2
    · by_cases h2 : 0 ≤ rd s v
      · have e := O.keep v hv.1 h2
        simp only at e
        rw [e] at h0 ⊢
        obtain ⟨u, hu, hu1, hq⟩ := j.pre v hv h0
        refine ⟨u, hu, ?_, hq⟩
        rw [O.keep u hu.1 (by simp only; omega)]; exact hu1
      · obtain ⟨e, _, hq⟩ := O.new v hv (by simp only; omega) (by omega)
        refine ⟨a, ha, ?_, hq⟩
        rw [O.keep a ha.1 (by simp only; omega), e]; exact hda
    · have := j.zero.1
      rw [O.keep root hr.1 (by simp only; omega)]; exact this
    · by_cases h2 : 0 ≤ rd s v
      · have e := O.keep v hv.1 h2
        simp only at e
        exact j.zero.2 v hv (by rw [← e]; exact h0)
      · obtain ⟨e, _⟩ := O.new v hv (by simp only; omega) (by omega)
        omega
theorem start_rd {w h root v : Int} (hr : isN w h root) (hv : isN w h v) : rd (start w h root) v = if v = root then 0 else -1 := by
  have hc := cnt_range w h
  have h1 := hr.2
  have h2 := hv.2
  unfold start
  rw [rd_set hr.1 (by simp; omega) hv.1]
  by_cases h3 : v = root
  · rw [if_pos h3, if_pos h3]
  · rw [if_neg h3, if_neg h3]
    have := rd_mem (s := List.replicate (cnt w h).toNat (-1 : Int)) hv.1 (by simp; omega)
    exact List.eq_of_mem_replicate this
theorem start_inv2 {w h root : Int} (b : List Int) (hr : isN w h root) : Inv2 w h b root (start w h root) [root] [] := by
  refine ⟨fun v hv h0 h1 => ?_, fun v hv h0 => ?_, by rw [start_rd hr hr, if_pos rfl], fun v hv h0 => ?_⟩
  · rw [start_rd hr hv] at h0
    split at h0
    · rename_i h2; simp [h2] at h1
    · omega
  · rw [start_rd hr hv] at h0; split at h0 <;> omega
  · rw [start_rd hr hv] at h0
    split at h0
    · assumption
    · omega
theorem depths_inv2 {w h root : Int} {b : List Int} (H : rootOk w h b root) : Inv2 w h b root (depths w h b root) [] [] :=
  (depths_run H).inv2 H.2 (start_inv H.2).1 (start_inv2 b H.2)
/-- In a connected mesh every node is reached from every root. -/
theorem conn_all {w h : Int} {b : List Int} (hc : conn w h b) {r : Int} (hr : isN w h r) : ∀ v, isN w h v → 0 ≤ rd (depths w h b r) v := by
  have h0 := okG_isN hc.1.2
  have H0 : rootOk w h b 0 := ⟨hc.1, h0⟩
  have Hr : rootOk w h b r := ⟨hc.1, hr⟩
  have i0 := depths_inv H0
  have j0 := depths_inv2 H0
  have j := depths_inv2 Hr
  have all0 : ∀ v, isN w h v → 0 ≤ rd (depths w h b 0) v := fun v hv => by
    have hm := rd_mem (s := depths w h b 0) hv.1 (by have := hv.2; omega)
    have := (i0.2 _ hm).1
    by_cases h1 : rd (depths w h b 0) v = -1
    · rw [h1] at hm; exact absurd hm hc.2
    · omega
  have down : ∀ (n : Nat) v, isN w h v → rd (depths w h b 0) v = n → 0 ≤ rd (depths w h b r) v → 0 ≤ rd (depths w h b r) 0 := by
    intro n
    induction n with
    | zero => intro v hv h1 h2
              have := j0.zero.2 v hv (by omega)
              rw [this] at h2; exact h2
    | succ n ih =>
      intro v hv h1 h2
      obtain ⟨u, hu, hu1, q, hq, hlk, hnx⟩ := j0.pre v hv (by omega)
      obtain ⟨q', hq', hlk', hnx'⟩ := link_symm hq hlk
      rw [hnx] at hlk' hnx'
      have h3 := j.cl v hv h2 (by simp) (by simp) q' hq' hlk'
      rw [hnx'] at h3
      exact ih u hu (by omega) h3
  have hr0 : 0 ≤ rd (depths w h b r) 0 := by
    have h1 := all0 r hr
    exact down _ r hr (Int.toNat_of_nonneg h1).symm (by have := j.zero.1; omega)
  have up : ∀ (n : Nat) v, isN w h v → rd (depths w h b 0) v = n → 0 ≤ rd (depths w h b r) v := by
    intro n
    induction n with
    | zero => intro v hv h1
              have := j0.zero.2 v hv (by omega)
              rw [this]; exact hr0
    | succ n ih =>
      intro v hv h1
      obtain ⟨u, hu, hu1, q, hq, hlk, hnx⟩ := j0.pre v hv (by omega)
      have h3 := j.cl u hu (ih u hu (by omega)) (by simp) (by simp) q hq hlk
      rw [hnx] at h3; exact h3
  exact fun v hv => up _ v hv (Int.toNat_of_nonneg (all0 v hv)).symm
/-- Who has a parent. -/
theorem par_some {w h root : Int} {b : List Int} (H : rootOk w h b root) {v : Int} (hv : isN w h v) (h0 : 0 < rd (depths w h b root) v) :
    ∃ p : Nat, p < 4 ∧ par w h b (depths w h b root) v = next w h v p ∧ link w h b (4 * v + p) ∧ rd (depths w h b root) (next w h v p) = rd (depths w h b root) v - 1 := by
  rcases par_cases w h b (depths w h b root) v with h1 | ⟨p, hp, h2, h3, _⟩
  · exfalso
    obtain ⟨u, hu, hu1, q, hq, hlk, hnx⟩ := (depths_inv2 H).pre v hv h0
    obtain ⟨q', hq', hlk', hnx'⟩ := link_symm hq hlk
    rw [hnx] at hlk' hnx'
    have ht : toRoot w h b (depths w h b root) v q' := ⟨hlk', by rw [hnx']; exact hu1⟩
    unfold par at h1
    rw [if_pos h0] at h1
    have nn : ∀ p : Nat, p < 4 → toRoot w h b (depths w h b root) v p → next w h v p ≠ -1 := fun p hp ht hh => by
      have := (link_next hp ht.1).2.1.1; omega
    by_cases t0 : toRoot w h b (depths w h b root) v 0
    · rw [if_pos t0] at h1; exact nn 0 (by omega) t0 h1
    rw [if_neg t0] at h1
    by_cases t1 : toRoot w h b (depths w h b root) v 1
    · rw [if_pos t1] at h1; exact nn 1 (by omega) t1 h1
    rw [if_neg t1] at h1
    by_cases t2 : toRoot w h b (depths w h b root) v 2
    · rw [if_pos t2] at h1; exact nn 2 (by omega) t2 h1
    rw [if_neg t2] at h1
    by_cases t3 : toRoot w h b (depths w h b root) v 3
    · rw [if_pos t3] at h1; exact nn 3 (by omega) t3 h1
    have : q' = 0 ∨ q' = 1 ∨ q' = 2 ∨ q' = 3 := by omega
    rcases this with rfl | rfl | rfl | rfl
    · exact t0 ht
    · exact t1 ht
    · exact t2 ht
    · exact t3 ht
  · exact ⟨p, hp, h2, h3.1, h3.2⟩
theorem parents_rd {w h root : Int} {b : List Int} {v : Int} (h0 : 0 ≤ v) (h1 : v < (depths w h b root).length) : rd (parents w h b root) v = par w h b (depths w h b root) v := by
  obtain ⟨i, rfl⟩ := Int.eq_ofNat_of_zero_le h0
  rw [rd_at (by rw [parents_length]; omega)]
  simp [parents, pars]
section
variable {w h r : Int} {b : List Int} (hc : conn w h b) (hr : isN w h r)
include hc hr
theorem tree_len : ((parents w h b r).length : Int) = cnt w h := by rw [parents_length]; exact (depths_inv ⟨hc.1, hr⟩).1
theorem tree_par {v : Int} (hv : isN w h v) : (v = r ∧ rd (parents w h b r) v = -1) ∨ ∃ p : Nat, p < 4 ∧ rd (parents w h b r) v = next w h v p ∧ link w h b (4 * v + p) ∧ isN w h (next w h v p) ∧ rd (depths w h b r) (next w h v p) = rd (depths w h b r) v - 1 := by
  have H : rootOk w h b r := ⟨hc.1, hr⟩
  have hl := (depths_inv H).1
  have hv2 := hv.2
  rw [parents_rd hv.1 (by omega)]
  have h0 := conn_all hc hr v hv
  by_cases h1 : rd (depths w h b r) v = 0
  · refine .inl ⟨(depths_inv2 H).zero.2 v hv h1, ?_⟩
    unfold par; rw [if_neg (by omega)]
  · obtain ⟨p, hp, h2, h3, h4⟩ := par_some H hv (by omega)
    exact .inr ⟨p, hp, h2, h3, (link_next hp h3).2.1, h4⟩
theorem anc_node {v : Int} (hv : isN w h v) : anc (parents w h b r) v = v :: (if rd (parents w h b r) v = -1 then [] else anc (parents w h b r) (rd (parents w h b r) v)) := by
  have := tree_len hc hr
  exact anc_cons (parents_tree ⟨hc.1, hr⟩) hv.1 (by have := hv.2; omega)
theorem root_anc : ∀ (n : Nat) {v : Int}, isN w h v → rd (depths w h b r) v = n → r ∈ anc (parents w h b r) v := by
  intro n
  induction n with
  | zero =>
    intro v hv h0
    rw [anc_node hc hr hv]
    have := (depths_inv2 ⟨hc.1, hr⟩).zero.2 v hv (by omega)
    simp [this]
  | succ n ih =>
    intro v hv h0
    rw [anc_node hc hr hv]
    rcases tree_par hc hr hv with ⟨h1, _⟩ | ⟨p, hp, h2, h3, h4, h5⟩
    · simp [h1]
    · rw [h2, if_neg (by have := h4.1; omega)]
      exact List.mem_cons_of_mem _ (ih h4 (by omega))
theorem anc_get : ∀ (n : Nat) {v : Int}, isN w h v → rd (depths w h b r) v = n → ∀ (j : Nat) (hj : j + 1 < (anc (parents w h b r) v).length), isN w h (anc (parents w h b r) v)[j] ∧ isN w h (anc (parents w h b r) v)[j + 1] ∧
    ∃ p : Nat, p < 4 ∧ next w h (anc (parents w h b r) v)[j] p = (anc (parents w h b r) v)[j + 1] ∧ link w h b (4 * (anc (parents w h b r) v)[j] + p) := by
  intro n
  induction n with
  | zero =>
    intro v hv h0 j hj
    have hroot := (depths_inv2 ⟨hc.1, hr⟩).zero.2 v hv (by omega)
    have e := anc_node hc hr hv
    rcases tree_par hc hr hv with ⟨_, h1⟩ | ⟨p, hp, h2, h3, h4, h5⟩
    · rw [h1, if_pos rfl] at e; rw [e] at hj; simp at hj
    · have := conn_all hc hr _ h4; omega
  | succ n ih =>
    intro v hv h0 j hj
    have e := anc_node hc hr hv
    rcases tree_par hc hr hv with ⟨_, h1⟩ | ⟨p, hp, h2, h3, h4, h5⟩
    · rw [h1, if_pos rfl] at e; rw [e] at hj; simp at hj
    · rw [h2, if_neg (by have := h4.1; omega)] at e
      have e2 := anc_node hc hr h4
      cases j with
      | zero =>
        simp only [e]
        simp only [List.getElem_cons_zero, List.getElem_cons_succ]
        have e3 : (anc (parents w h b r) (next w h v p))[0]'(by rw [e2]; simp) = next w h v p := by simp only [e2, List.getElem_cons_zero]
        rw [e3]
        exact ⟨hv, h4, p, hp, rfl, h3⟩
      | succ j =>
        simp only [e] at hj ⊢
        simp only [List.getElem_cons_succ]
        exact ih h4 (by omega) j (by simpa using hj)
/-- The way through the tree between two nodes has a first step, to a neighbour. -/
theorem tn_first {a c : Int} (ha : isN w h a) (hcn : isN w h c) (hne : a ≠ c) : ∃ p : Nat, p < 4 ∧ 1 < (treeNodes (parents w h b r) a c).length ∧ (treeNodes (parents w h b r) a c)[1]? = some (next w h a p) ∧ 0 ≤ next w h a p := by
  have dn := fun {v : Int} (hv : isN w h v) => (Int.toNat_of_nonneg (conn_all hc hr v hv)).symm
  have ra := root_anc hc hr _ ha (dn ha)
  have rc := root_anc hc hr _ hcn (dn hcn)
  have hcom : 0 ≤ common (parents w h b r) a c := by
    unfold common
    cases hf : (anc (parents w h b r) a).find? (fun x => decide (x ∈ anc (parents w h b r) c)) with
    | none => rw [List.find?_eq_none] at hf; exact absurd (by simpa using rc) (hf r ra)
    | some u =>
      have := anc_in (List.mem_of_find?_eq_some hf)
      simpa using this.1
  obtain ⟨ma, mc⟩ := common_mem hcom
  have ga := anc_get hc hr _ ha (dn ha)
  have gc := anc_get hc hr _ hcn (dn hcn)
  have ea := anc_node hc hr ha
  have ec := anc_node hc hr hcn
  unfold treeNodes
  rw [if_neg (by omega)]
  have ia := List.idxOf_lt_length_iff.2 ma
  have ic := List.idxOf_lt_length_iff.2 mc
  have va : (anc (parents w h b r) a)[(anc (parents w h b r) a).idxOf (common (parents w h b r) a c)] = common (parents w h b r) a c := by
    have := List.findIdx_getElem (p := (· == common (parents w h b r) a c)) (xs := anc (parents w h b r) a) (w := ia)
    simpa using this
  have vc : (anc (parents w h b r) c)[(anc (parents w h b r) c).idxOf (common (parents w h b r) a c)] = common (parents w h b r) a c := by
    have := List.findIdx_getElem (p := (· == common (parents w h b r) a c)) (xs := anc (parents w h b r) c) (w := ic)
    simpa using this
  generalize (anc (parents w h b r) a).idxOf (common (parents w h b r) a c) = ka at *
  generalize (anc (parents w h b r) c).idxOf (common (parents w h b r) a c) = kc at *
  have a0 : (anc (parents w h b r) a)[0]'(by omega) = a := by simp only [ea, List.getElem_cons_zero]
  have c0 : (anc (parents w h b r) c)[0]'(by omega) = c := by simp only [ec, List.getElem_cons_zero]
  by_cases hk : ka = 0
  · subst hk
    rw [a0] at va
    have hkc : kc ≠ 0 := fun hh => by subst hh; rw [c0] at vc; exact hne (va.trans vc.symm)
    obtain ⟨j, rfl⟩ : ∃ j, kc = j + 1 := ⟨kc - 1, by omega⟩
    obtain ⟨n1, n2, p, hp, hnx, hlk⟩ := gc j ic
    rw [vc, ← va] at hnx
    obtain ⟨g1, g2, g3, _⟩ := geo hp n1 (by rw [hnx]; exact ha.1)
    rw [hnx] at g1
    obtain ⟨q, hq⟩ := Int.eq_ofNat_of_zero_le g2
    rw [hq] at g1 g3
    refine ⟨q, by omega, by simp; omega, ?_, by rw [g1]; exact n1.1⟩
    rw [g1]
    have e1 : ((anc (parents w h b r) a).take (0 + 1)) = [a] := by rw [ea]; rfl
    have e2 : (anc (parents w h b r) c).take (j + 1) = (anc (parents w h b r) c).take j ++ [(anc (parents w h b r) c)[j]] := List.take_succ_eq_append_getElem (by omega)
    rw [e1, List.getElem?_append_right (by simp)]
    rw [e2, List.reverse_append]; rfl
  · obtain ⟨n1, n2, p, hp, hnx, hlk⟩ := ga 0 (by omega)
    rw [a0] at hnx
    refine ⟨p, hp, by simp; omega, ?_, by rw [hnx]; exact n2.1⟩
    rw [List.getElem?_append_left (by simp; omega), List.getElem?_take, if_pos (by omega), List.getElem?_eq_getElem (by omega), hnx]
end
end Go.Proofs.Ytcigpclbhfkgaaa.V
/-! Tables of trees. -/
set_option linter.all false
namespace Go.Proofs.Ytcigpclbhfkgaaa.V
open Go Go.VM Go.Proofs
set_option maxRecDepth 10000
variable {frz : Nat} {H : Heap}
def firstPort (w h a u : Int) : Int := if next w h a 0 = u then 0 else if next w h a 1 = u then 1 else if next w h a 2 = u then 2 else if next w h a 3 = u then 3 else 4
theorem firstPort_at {w h a u : Int} {p : Nat} (hp : p < 4) (h1 : next w h a p = u) (h2 : ∀ q < p, next w h a (q : Nat) ≠ u) : firstPort w h a u = p := by
  unfold firstPort
  have : p = 0 ∨ p = 1 ∨ p = 2 ∨ p = 3 := by omega
  have g : ∀ q : Nat, q < p → ∀ z : Int, z = q → ¬ next w h a z = u := fun q hq z hz => by rw [hz]; exact h2 q hq
  rcases this with rfl | rfl | rfl | rfl
  · rw [if_pos (by exact_mod_cast h1)]; rfl
  · rw [if_neg (g 0 (by omega) 0 rfl), if_pos (by exact_mod_cast h1)]; rfl
  · rw [if_neg (g 0 (by omega) 0 rfl), if_neg (g 1 (by omega) 1 rfl), if_pos (by exact_mod_cast h1)]; rfl
  · rw [if_neg (g 0 (by omega) 0 rfl), if_neg (g 1 (by omega) 1 rfl), if_neg (g 2 (by omega) 2 rfl), if_pos (by exact_mod_cast h1)]; rfl
theorem firstPort_range (w h a u : Int) : 0 ≤ firstPort w h a u ∧ firstPort w h a u ≤ 4 := by
  unfold firstPort; repeat' split
  all_goals omega
noncomputable def treePort (w h : Int) (P : List Int) (n i : Nat) : Int := if i / n = i % n then 4 else firstPort w h (i / n : Nat) ((treeNodes P (i / n : Nat) (i % n : Nat)).getD 1 0)
noncomputable def treeTab (w h : Int) (b : List Int) (r : Int) : List Int := (List.range ((cnt w h).toNat * (cnt w h).toNat)).map (treePort w h (parents w h b r) (cnt w h).toNat)
def treeOk (w h : Int) (b : List Int) (r : Int) : Prop := conn w h b ∧ isN w h r
noncomputable instance (w h : Int) (b : List Int) (r : Int) : Decidable (treeOk w h b r) := inferInstanceAs (Decidable (_ ∧ _))
noncomputable def treeTable (w h : Int) (b : List Int) (r : Int) : List Int := if treeOk w h b r then treeTab w h b r else []
theorem treeTab_len (w h : Int) (b : List Int) (r : Int) : (treeTab w h b r).length ≤ 256 := by
  have := cnt_range w h
  unfold treeTab
  rw [List.length_map, List.length_range]
  have : (cnt w h).toNat * (cnt w h).toNat ≤ 16 * 16 := Nat.mul_le_mul (by omega) (by omega)
  omega
theorem treeTable_len (w h : Int) (b : List Int) (r : Int) : (treeTable w h b r).length ≤ 256 := by
  unfold treeTable; split
  · exact treeTab_len w h b r
  · simp
end Go.Proofs.Ytcigpclbhfkgaaa.V
/-! Tables of the standard rules. -/
set_option linter.all false
namespace Go.Proofs.Ytcigpclbhfkgaaa.V
open Go Go.VM Go.Proofs
set_option maxRecDepth 10000
variable {frz : Nat} {H : Heap}
def alongP (x g : Int) : Int := if x < g then 1 else if g < x then 3 else -1
def acrossP (y g : Int) : Int := if y < g then 2 else if g < y then 0 else -1
/-- the port of a rule -/
def stdPort (w r a to : Int) : Int :=
  if a = to then 4 else
  if acrossP (a / w) (to / w) < 0 ∨ (0 ≤ alongP (a % w) (to % w) ∧ ((if r = 4 then 1 + to % 2 else r) = 1 ∨ ((if r = 4 then 1 + to % 2 else r) = 3 ∧ alongP (a % w) (to % w) = 3))) then alongP (a % w) (to % w) else acrossP (a / w) (to / w)
def stdTab (w r : Int) (n : Nat) : List Int := (List.range (n * n)).map fun i => stdPort w r (i / n : Nat) (i % n : Nat)
theorem stdTab_len (w r : Int) (n : Nat) : (stdTab w r n).length = n * n := by simp [stdTab]
theorem along_c (x g : Int) : vcall C frz 195 [.int .i64 x, .int .i64 g] H = some (.int .i64 (alongP x g), H) := by
  rw [vcall_go (fn := Try.f195) Try.func195 rfl (by kernel_rfl) rfl]
  simp
  refine br_dec _ ?_ ?_ <;> intro h1 <;> simp [h1, alongP]
  refine br_dec _ ?_ ?_ <;> intro h2 <;> simp [h2]
theorem across_c (x g : Int) : vcall C frz 196 [.int .i64 x, .int .i64 g] H = some (.int .i64 (acrossP x g), H) := by
  rw [vcall_go (fn := Try.f196) Try.func196 rfl (by kernel_rfl) rfl]
  simp
  refine br_dec _ ?_ ?_ <;> intro h1 <;> simp [h1, acrossP]
  refine br_dec _ ?_ ?_ <;> intro h2 <;> simp [h2]
theorem stdPort_c (w h r a to : Int) (hr : 1 ≤ r ∧ r ≤ 4) (ha : isN w h a) (hto : isN w h to) :
   vcall C frz 170 [.agg #[.int .i64 w, .int .i64 h], .int .i64 r, .int .i64 a, .int .i64 to] H = some (.int .i64 (stdPort w r a to), H) := by
  rw [vcall_go (fn := Try.f170) Try.func170 rfl (by kernel_rfl) rfl]
  obtain ⟨hg, a0, _, a1⟩ := isN_ok ha
  obtain ⟨_, t0, _, t1⟩ := isN_ok hto
  have hw := hg.1
  have hir : inR 1 r 4 := hr
  have wz : ¬ w = 0 := by omega
  have e1 : a.tmod w = a % w := Int.tmod_eq_emod_of_nonneg a0
  have e2 : to.tmod w = to % w := Int.tmod_eq_emod_of_nonneg t0
  have e3 : a.tdiv w = a / w := Int.tdiv_eq_ediv_of_nonneg a0
  have e4 : to.tdiv w = to / w := Int.tdiv_eq_ediv_of_nonneg t0
  have e5 : to.tmod 2 = to % 2 := Int.tmod_eq_emod_of_nonneg t0
  have d1 : 0 ≤ a / w ∧ a / w ≤ a := ⟨Int.ediv_nonneg a0 (by omega), Int.ediv_le_self _ a0⟩
  have d2 : 0 ≤ to / w ∧ to / w ≤ to := ⟨Int.ediv_nonneg t0 (by omega), Int.ediv_le_self _ t0⟩
  have f3 : ∀ [Inhabited Unit], IntKind.i64.wrap (a / w) = a / w := by intro _; exact w64 (by omega) (by omega)
  have f4 : ∀ [Inhabited Unit], IntKind.i64.wrap (to / w) = to / w := by intro _; exact w64 (by omega) (by omega)
  have f5 : ∀ [Inhabited Unit], IntKind.i64.wrap (1 + to % 2) = 1 + to % 2 := by intro _; exact w64 (by omega) (by omega)
  simp [isNode_c, ha, hto, inside_c, hir]
  refine br_dec _ ?_ ?_ <;> intro h4
  · subst h4
    simp [e5, f5]
    rw [go_draw (h := by kernel_rfl)]
    simp [VM.look, wz, e1, e2, e3, e4, f3, f4, along_c, across_c]
    refine br_dec _ ?_ ?_ <;> intro h5
    · simp [h5, stdPort]
    · have est : stdPort w 4 a to = if acrossP (a / w) (to / w) < 0 ∨ (0 ≤ alongP (a % w) (to % w) ∧ (1 + to % 2 = 1 ∨ (1 + to % 2 = 3 ∧ alongP (a % w) (to % w) = 3))) then alongP (a % w) (to % w) else acrossP (a / w) (to / w) := by simp [stdPort, h5]
      rw [est]
      generalize alongP (a % w) (to % w) = X
      generalize acrossP (a / w) (to / w) = Y
      generalize 1 + to % 2 = R
      simp
      by_cases q1 : Y < 0
      · simp [q1]
      · by_cases q2 : 0 ≤ X
        · by_cases q3 : R = 1
          · simp [q1, q2, q3]
          · by_cases q4 : R = 3
            · by_cases q5 : X = 3
              · simp [q1, q2, q3, q4, q5]
              · simp [q1, q2, q3, q4, q5]
            · simp [q1, q2, q3, q4]
        · simp [q1, q2]
  · simp [h4]
    rw [go_draw (h := by kernel_rfl)]
    simp [VM.look, wz, e1, e2, e3, e4, f3, f4, along_c, across_c]
    refine br_dec _ ?_ ?_ <;> intro h5
    · simp [h5, stdPort]
    · have est : stdPort w r a to = if acrossP (a / w) (to / w) < 0 ∨ (0 ≤ alongP (a % w) (to % w) ∧ (r = 1 ∨ (r = 3 ∧ alongP (a % w) (to % w) = 3))) then alongP (a % w) (to % w) else acrossP (a / w) (to / w) := by simp [stdPort, h4, h5]
      rw [est]
      generalize alongP (a % w) (to % w) = X
      generalize acrossP (a / w) (to / w) = Y
      simp
      by_cases q1 : Y < 0
      · simp [q1]
      · by_cases q2 : 0 ≤ X
        · by_cases q3 : r = 1
          · simp [q1, q2, q3]
          · by_cases q4 : r = 3
            · by_cases q5 : X = 3
              · simp [q1, q2, q3, q4, q5]
              · simp [q1, q2, q3, q4, q5]
            · simp [q1, q2, q3, q4]
        · simp [q1, q2]
theorem stdTable_w (w h r : Int) (n : Nat) (hr : 1 ≤ r ∧ r ≤ 4) (hg : okG w h) (hn : cnt w h = n) :
   wp (vcall C frz 126 [.agg #[.int .i64 w, .int .i64 h], .int .i64 r] H) (Made2 dTable H (stdTab w r n) true) := by
  rw [vcall_go (fn := Try.f126) Try.func126 rfl (by kernel_rfl) rfl]
  have hc := cnt_range w h
  have hir : inR 1 r 4 := hr
  have hn2 : n * n ≤ 256 := Nat.mul_le_mul (show n ≤ 16 by omega) (show n ≤ 16 by omega)
  simp [gridOk_c, hg, inside_c, hir, nodeCount_c, hn]
  refine wp_inv (fun m t H' => ∃ (i : Nat) (vo : Value) (o : List Int), m = n - i ∧ i ≤ n ∧ o = (List.range (i * n)).map (fun i => stdPort w r (i / n : Nat) (i % n : Nat)) ∧
      t 1 = .int .i64 r ∧ t 2 = .pointer (some ⟨H.length, 0, some 0⟩) ∧ t 4 = .pointer (some ⟨H.length + 1, 0, some 0⟩) ∧ t 6 = .pointer (some ⟨H.length + 2, 0, some 0⟩) ∧ t 20 = .int .i64 n ∧ t 21 = .int .i64 i ∧
      Chg H H' [] ∧ H'[H.length]? = some ⟨[.int .i64 w, .int .i64 h], 0, 36⟩ ∧ H'[H.length + 1]? = some ⟨[.slice none 0 0], 0, 40⟩ ∧ H'[H.length + 2]? = some ⟨[vo], 0, 40⟩ ∧
      Ow Fl.int 3 H' vo o ∧ (∀ i ∈ ids vo, H.length + 2 < i)) ?_ (n := n) ⟨0, .slice none 0 0, [], by simp, by omega, by simp, by simp, by simp, by simp, by simp, by simp, by simp, Chg.app _, by simp, by simp, by simp, .inl ⟨rfl, rfl⟩, by simp⟩
  rintro m t H' ⟨i, vo, o, rfl, hi, ho, h1, h2, h4, h6, h20, h21, c0, b2, b4, b6, oo, no⟩ ih
  simp [h1, h2, h4, h6, h20, h21]
  refine wp_dec ?_ ?_ <;> intro hin
  · have hin' : i < n := by omega
    simp [h1, h2, h4, h6, h20, h21, VM.look, b2, nodeCount_c, hn]
    refine wp_inv (fun m t H' => ∃ (j : Nat) (vo : Value) (o : List Int), m = n - j ∧ j ≤ n ∧ o = (List.range (i * n + j)).map (fun i => stdPort w r (i / n : Nat) (i % n : Nat)) ∧
      t 1 = .int .i64 r ∧ t 2 = .pointer (some ⟨H.length, 0, some 0⟩) ∧ t 4 = .pointer (some ⟨H.length + 1, 0, some 0⟩) ∧ t 6 = .pointer (some ⟨H.length + 2, 0, some 0⟩) ∧ t 20 = .int .i64 n ∧ t 21 = .int .i64 i ∧
      t 7 = .int .i64 i ∧ t 25 = .int .i64 n ∧ t 26 = .int .i64 j ∧
      Chg H H' [] ∧ H'[H.length]? = some ⟨[.int .i64 w, .int .i64 h], 0, 36⟩ ∧ H'[H.length + 1]? = some ⟨[.slice none 0 0], 0, 40⟩ ∧ H'[H.length + 2]? = some ⟨[vo], 0, 40⟩ ∧
      Ow Fl.int 3 H' vo o ∧ (∀ i ∈ ids vo, H.length + 2 < i)) ?_ (n := n) ⟨0, vo, o, by simp, by omega, by simpa using ho, by simp [h1], by simp [h2], by simp [h4], by simp [h6], by simp [h20], by simp [h21], by simp, by simp, by simp, c0, b2, b4, b6, oo, no⟩
    clear h1 h2 h4 h6 h20 h21 c0 b2 b4 b6 oo no ho
    rintro m t H' ⟨j, vo, o, rfl, hj, ho, h1, h2, h4, h6, h20, h21, h7, h25, h26, c0, b2, b4, b6, oo, no⟩ ih2
    simp [h1, h2, h4, h6, h20, h21, h7, h25, h26]
    refine wp_dec ?_ ?_ <;> intro hjn
    · have hjn' : j < n := by omega
      have hol : o.length = i * n + j := by rw [ho]; simp
      have hsm : i * n + j < n * n := by
        have := Nat.mul_le_mul_right n (show i + 1 ≤ n by omega)
        rw [Nat.succ_mul] at this; omega
      have hdv : (i * n + j) / n = i := by rw [Nat.mul_comm, Nat.mul_add_div (by omega), Nat.div_eq_of_lt hjn']; omega
      have hmd : (i * n + j) % n = j := by rw [Nat.mul_comm, Nat.mul_add_mod, Nat.mod_eq_of_lt hjn']
      have sp := fun F L => stdPort_c (frz := F) (H := L) w h r i j hr ⟨by omega, by omega⟩ ⟨by omega, by omega⟩
      have hx : stdPort w r ((i * n + j) / n : Nat) ((i * n + j) % n : Nat) = stdPort w r i j := by rw [hdv, hmd]
      simp [h1, h2, h4, h6, h20, h21, h7, h25, h26]
      rw [go_draw (h := by kernel_rfl)]
      obtain ⟨vo', H3, e3, oo3, c3, n3⟩ := oo.push (P := Try.prog) (frz := H.length) (ty := 24) (a := stdPort w r i j) (by simp) rfl (by omega) (fun i hi => by have := no i hi; omega)
      simp only [Fl.int_f] at e3
      have lc := box_lt b6
      have b2' := box_chg b2 c3 (fun hh => by have := no _ hh; omega)
      have b4' := box_chg b4 c3 (fun hh => by have := no _ hh; omega)
      have b6' := box_chg b6 c3 (fun hh => by have := no _ hh; omega)
      have no3 : ∀ i ∈ ids vo', H.length + 2 < i := fun i hi => by rcases n3 i hi with h | h; exact no i h; omega
      have one := And.intro oo.rd.one' oo.rd.cells
      have one3 := And.intro oo3.rd.one' oo3.rd.cells
      have hF : H.length ≤ H.length + 2 := by omega
      simp [VM.look, b2, b6, sp, one, e3, b6', one3, h1, h2, h4, h6, h20, h21, h7, h25, h26]
      refine ih2 (n - (j + 1)) _ _ ⟨j + 1, vo', o ++ [stdPort w r i j], rfl, by omega, ?_, by simp [h1], by simp [h2], by simp [h4], by simp [h6], by simp [h20], by simp [h21], by simp [h7], by simp [h25], ?_,
        (c0.trans' c3 (fun i hi => .inr (by have := no i hi; omega))).trans' (chg_set _ _) (fun i hi => .inr (by simp at hi; omega)), box_chg b2' (chg_set _ _) (by simp), box_chg b4' (chg_set _ _) (by simp), set_get b6',
        oo3.chg (chg_set _ _) (fun i hi hh => by have := no3 i hi; simp at hh; omega), no3⟩ (by omega)
      · rw [← Nat.add_assoc, List.range_succ, List.map_append, ← ho]; simp only [List.map_cons, List.map_nil, hdv, hmd]
      · simp; rw [w64 (by omega) (by omega)]
    · have : j = n := by omega
      subst this
      simp [h1, h2, h4, h6, h20, h21, h7, h25, h26]
      refine ih (j - (i + 1)) _ _ ⟨i + 1, vo, o, rfl, by omega, by rw [Nat.succ_mul]; exact ho, by simp [h1], by simp [h2], by simp [h4], by simp [h6], by simp [h20], ?_, c0, b2, b4, b6, oo, no⟩ (by omega)
      simp; rw [w64 (by omega) (by omega)]
  · have : i = n := by omega
    subst this
    have lc := box_lt b6
    have one := And.intro oo.rd.one' oo.rd.cells
    have g4 := set_get (r' := ⟨[vo], 0, 40⟩) b4
    have hol : o.length = i * i := by rw [ho]; simp
    have hF : H.length ≤ H.length + 1 := by omega
    simp [h1, h2, h4, h6, h20, h21, VM.look, b6, b4, one, g4, hF]
    exact ⟨.agg #[vo], rfl, vo, rfl, ⟨(by rw [show stdTab w r i = o from ho.symm]; exact oo.chg (chg_set _ _) (fun i hi hh => by have := no i hi; simp at hh; omega)), by rw [stdTab_len]; omega⟩, c0.trans' (chg_set _ _) (fun i hi => .inr (by simp at hi; omega)), fun i hi => by have := no i hi; omega, ids_nodup vo⟩
end Go.Proofs.Ytcigpclbhfkgaaa.V
/-! Tables of rules, as the reference makes them; both classes. -/
set_option linter.all false
namespace Go.Proofs.Ytcigpclbhfkgaaa.V
open Go Go.VM Go.Proofs
set_option maxRecDepth 10000
variable {frz : Nat} {H : Heap}
theorem std_law (w r a to : Int) (hw : 1 ≤ w) (ha : 0 ≤ a) (ht : 0 ≤ to) (hne : a ≠ to) (R : Int) (hR : R = if r = 4 then 1 + to % 2 else r) :
    stdPort w r a to = (if (if R = 2 then a / w = to / w else if R = 3 then to % w < a % w ∨ a / w = to / w else a % w ≠ to % w) then (if to % w < a % w then 3 else 1) else (if to / w < a / w then 0 else 2)) ∨ ¬ (1 ≤ R ∧ R ≤ 3) := by
  have h1 := Int.emod_add_mul_ediv a w
  have h2 := Int.emod_add_mul_ediv to w
  have h3 : ¬ (a % w = to % w ∧ a / w = to / w) := fun ⟨e1, e2⟩ => hne (by rw [← h1, ← h2, e1, e2])
  unfold stdPort
  rw [if_neg hne, ← hR]
  generalize a % w = X at *
  generalize to % w = U at *
  generalize a / w = Y at *
  generalize to / w = V at *
  by_cases hr : 1 ≤ R ∧ R ≤ 3
  rotate_left
  · exact .inr hr
  left
  unfold alongP acrossP
  obtain rfl | rfl | rfl : R = 1 ∨ R = 2 ∨ R = 3 := by omega
  all_goals simp
  all_goals (repeat' split) <;> first | rfl | omega
theorem l05Column_c (x g : Int) : vcall C frz 193 [.int .i64 x, .int .i64 g] H = some (.int .i64 (if g < x then 3 else 1), H) := by
  rw [vcall_go (fn := Try.f193) Try.func193 rfl (by kernel_rfl) rfl]
  simp
  refine br_dec _ ?_ ?_ <;> intro h1 <;> simp [h1]
theorem l05Row_c (x g : Int) : vcall C frz 194 [.int .i64 x, .int .i64 g] H = some (.int .i64 (if g < x then 0 else 2), H) := by
  rw [vcall_go (fn := Try.f194) Try.func194 rfl (by kernel_rfl) rfl]
  simp
  refine br_dec _ ?_ ?_ <;> intro h1 <;> simp [h1]
theorem l05Port_c (w h r a to : Int) (hr : 1 ≤ r ∧ r ≤ 4) (ha : isN w h a) (hto : isN w h to) :
   vcall C frz 168 [.agg #[.int .i64 w, .int .i64 h], .int .i64 r, .int .i64 a, .int .i64 to] H = some (.int .i64 (stdPort w r a to), H) := by
  rw [vcall_go (fn := Try.f168) Try.func168 rfl (by kernel_rfl) rfl]
  obtain ⟨hg, a0, _, a1⟩ := isN_ok ha
  obtain ⟨_, t0, _, t1⟩ := isN_ok hto
  have hw := hg.1
  have wz : ¬ w = 0 := by omega
  have e1 : a.tmod w = a % w := Int.tmod_eq_emod_of_nonneg a0
  have e2 : to.tmod w = to % w := Int.tmod_eq_emod_of_nonneg t0
  have e3 : a.tdiv w = a / w := Int.tdiv_eq_ediv_of_nonneg a0
  have e4 : to.tdiv w = to / w := Int.tdiv_eq_ediv_of_nonneg t0
  have e5 : to.tmod 2 = to % 2 := Int.tmod_eq_emod_of_nonneg t0
  have d1 : 0 ≤ a / w ∧ a / w ≤ a := ⟨Int.ediv_nonneg a0 (by omega), Int.ediv_le_self _ a0⟩
  have d2 : 0 ≤ to / w ∧ to / w ≤ to := ⟨Int.ediv_nonneg t0 (by omega), Int.ediv_le_self _ t0⟩
  have f3 : ∀ [Inhabited Unit], IntKind.i64.wrap (a / w) = a / w := by intro _; exact w64 (by omega) (by omega)
  have f4 : ∀ [Inhabited Unit], IntKind.i64.wrap (to / w) = to / w := by intro _; exact w64 (by omega) (by omega)
  have f5 : ∀ [Inhabited Unit], IntKind.i64.wrap (1 + to % 2) = 1 + to % 2 := by intro _; exact w64 (by omega) (by omega)
  have key : a ≠ to → ∀ R, (R = if r = 4 then 1 + to % 2 else r) → 1 ≤ R → R ≤ 3 → stdPort w r a to = if (if R = 2 then a / w = to / w else if R = 3 then to % w < a % w ∨ a / w = to / w else a % w ≠ to % w) then (if to % w < a % w then 3 else 1) else (if to / w < a / w then 0 else 2) := fun hne R hR r1 r2 => by
    rcases std_law w r a to hw.1 a0 t0 hne R hR with h | h
    · exact h
    · exact absurd ⟨r1, r2⟩ h
  simp [VM.look, wz, e1, e2, e3, e4, f3, f4]
  by_cases h4 : a = to
  · subst h4; simp [stdPort]
  have key := key h4
  clear e1 e2 e3 e4 f3 f4
  generalize a % w = X at *
  generalize to % w = U at *
  generalize a / w = Y at *
  generalize to / w = V at *
  generalize stdPort w r a to = Z at *
  simp [h4]
  have k1 : ∀ [Inhabited Unit], IntKind.i64.wrap 1 = 1 := by intro _; exact w64 (by omega) (by omega)
  have k2 : ∀ [Inhabited Unit], IntKind.i64.wrap 2 = 2 := by intro _; exact w64 (by omega) (by omega)
  by_cases r4 : r = 4
  · have key := key _ (if_pos r4).symm (by omega) (by omega)
    have m2 : to % 2 = 0 ∨ to % 2 = 1 := by omega
    rcases m2 with m2 | m2 <;> simp only [m2] at key f5
    · simp [r4, e5, m2, f5, l05Column_c, l05Row_c, k1, k2]
      by_cases h5 : X = U <;> simp [h5] at key <;> simp [h5, key, l05Column_c, l05Row_c, k1, k2]
    · simp [r4, e5, m2, f5, l05Column_c, l05Row_c, k1, k2]
      by_cases h5 : Y = V <;> simp [h5] at key <;> simp [h5, key, l05Column_c, l05Row_c, k1, k2]
  · have key := key _ (if_neg r4).symm (by omega) (by omega)
    obtain rfl | rfl | rfl : r = 1 ∨ r = 2 ∨ r = 3 := by omega
    · simp [l05Column_c, l05Row_c, k1, k2]
      by_cases h5 : X = U <;> simp [h5] at key <;> simp [h5, key, l05Column_c, l05Row_c, k1, k2]
    · simp [l05Column_c, l05Row_c, k1, k2]
      by_cases h5 : Y = V <;> simp [h5] at key <;> simp [h5, key, l05Column_c, l05Row_c, k1, k2]
    · simp [l05Column_c, l05Row_c, k1, k2]
      by_cases h5 : U < X
      · simp [h5] at key; simp [h5, key, l05Column_c, l05Row_c, k1, k2]
      · by_cases h6 : Y = V <;> simp [h5, h6] at key <;> simp [h5, h6, key, l05Column_c, l05Row_c, k1, k2]
end Go.Proofs.Ytcigpclbhfkgaaa.V
/-! Tables of rules are valid where no channel is broken. -/
set_option linter.all false
namespace Go.Proofs.Ytcigpclbhfkgaaa.V
open Go Go.VM Go.Proofs
set_option maxRecDepth 100000
abbrev rPort (r w a to : Int) : Int := stdPort w r a to
def walkR (r w h to : Int) : Nat → Int → List Int → List Int
  | 0, a, out => if rPort r w a to = 4 then (if a = to then out else []) else []
  | f + 1, a, out => if rPort r w a to = 4 then (if a = to then out else []) else
      if inR 0 (rPort r w a to) 3 ∧ leads w h (4 * a + rPort r w a to) then walkR r w h to f (next w h a (rPort r w a to)) (out ++ [4 * a + rPort r w a to]) else []
theorem portOf_r {r w h a to : Int} {n : Nat} (hn : cnt w h = n) (ha : isN w h a) (hto : isN w h to) : portOf w h (stdTab w r n) a to = rPort r w a to := by
  obtain ⟨i, rfl⟩ := Int.eq_ofNat_of_zero_le ha.1
  obtain ⟨j, rfl⟩ := Int.eq_ofNat_of_zero_le hto.1
  have h1 := ha.2
  have h2 := hto.2
  unfold portOf rd
  have hj : j < n := by omega
  have hi : i < n := by omega
  have hsm : i * n + j < n * n := by
    have := Nat.mul_le_mul_right n (show i + 1 ≤ n by omega)
    rw [Nat.succ_mul] at this; omega
  have hdv : (i * n + j) / n = i := by rw [Nat.mul_comm, Nat.mul_add_div (by omega), Nat.div_eq_of_lt hj]; omega
  have hmd : (i * n + j) % n = j := by rw [Nat.mul_comm, Nat.mul_add_mod, Nat.mod_eq_of_lt hj]
  rw [hn, show ((i : Int) * (n : Int) + (j : Int)).toNat = i * n + j by rw [← Int.natCast_mul, ← Int.natCast_add]; rfl]
  rw [stdTab, List.getD_eq_getElem?_getD, List.getElem?_map, List.getElem?_range hsm]
  simp only [Option.map_some, Option.getD_some, hdv, hmd]
theorem walkN_r {r w h to : Int} {n : Nat} (hn : cnt w h = n) (hg : okG w h) (hto : isN w h to) : ∀ f a out, isN w h a → walkN w h [] (stdTab w r n) to f a out = walkR r w h to f a out
  | 0, a, out, ha => by simp only [walkN, walkR, portOf_r hn ha hto]
  | f + 1, a, out, ha => by
    simp only [walkN, walkR, portOf_r hn ha hto, stepOk]
    have e : (inR 0 (rPort r w a to) 3 ∧ has w h [] (4 * a + rPort r w a to)) ↔ (inR 0 (rPort r w a to) 3 ∧ leads w h (4 * a + rPort r w a to)) := by simp [has]
    by_cases h1 : rPort r w a to = 4
    · simp [h1]
    · simp only [h1, if_false]
      by_cases h2 : inR 0 (rPort r w a to) 3 ∧ leads w h (4 * a + rPort r w a to)
      · rw [if_pos (e.2 h2), if_pos h2]
        obtain ⟨h3, h4⟩ := e.2 h2
        exact walkN_r hn hg hto f _ _ (step_next h3 h4).2.2
      · rw [if_neg (fun k => h2 (e.1 k)), if_neg h2]
/-- the walk of the rule xy -/
def wkR (r w h : Int) (n : Nat) (a to : Int) : List Int := walkR r w h to n a []
theorem walk_r {r w h a to : Int} {n : Nat} (hn : cnt w h = n) (hg : okG w h) (ha : isN w h a) (hto : isN w h to) : walk w h [] (stdTab w r n) a to = wkR r w h n a to := by
  unfold walk wkR
  rw [walkN_r hn hg hto _ _ _ ha, hn]; rfl
def chkR1 (r w h : Int) (n : Nat) (a to : Int) : Bool := decide (a = to) || !(wkR r w h n a to).isEmpty
def chkR (r w h n : Nat) : Bool := (List.range n).all fun a => (List.range n).all fun to => chkR1 r w h n a to
theorem chkR_all : ((List.range 4).all fun r => (List.range 4).all fun w => (List.range 4).all fun h => chkR (r + 1) (w + 1) (h + 1) ((w + 1) * (h + 1))) = true := by kernel_rfl
theorem chkR_ok {r w h a to : Int} {n : Nat} (hr : 1 ≤ r ∧ r ≤ 4) (hg : okG w h) (hn : cnt w h = n) (ha : isN w h a) (hto : isN w h to) : chkR1 r w h n a to = true := by
  obtain ⟨⟨w0, w1⟩, h0, h1⟩ := hg
  obtain ⟨i, hi⟩ : ∃ i : Nat, w = ((i + 1 : Nat) : Int) := ⟨(w - 1).toNat, by omega⟩
  obtain ⟨j, hj⟩ : ∃ j : Nat, h = ((j + 1 : Nat) : Int) := ⟨(h - 1).toNat, by omega⟩
  obtain ⟨q, hq⟩ : ∃ j : Nat, r = ((j + 1 : Nat) : Int) := ⟨(r - 1).toNat, by omega⟩
  obtain ⟨k, rfl⟩ := Int.eq_ofNat_of_zero_le ha.1
  obtain ⟨l, rfl⟩ := Int.eq_ofNat_of_zero_le hto.1
  have e9 := chkR_all
  rw [List.all_eq_true] at e9
  have e0 := e9 q (List.mem_range.2 (by omega))
  rw [List.all_eq_true] at e0
  have e1 := e0 i (List.mem_range.2 (by omega))
  rw [List.all_eq_true] at e1
  have e2 := e1 j (List.mem_range.2 (by omega))
  have hk := ha.2
  have hl := hto.2
  have hnn : n = (i + 1) * (j + 1) := by
    rw [cnt, if_pos ⟨⟨w0, w1⟩, h0, h1⟩, hi, hj, ← Int.natCast_mul] at hn; omega
  rw [chkR, List.all_eq_true] at e2
  have e3 := e2 k (List.mem_range.2 (by omega))
  rw [List.all_eq_true] at e3
  have e4 := e3 l (List.mem_range.2 (by omega))
  rw [hi, hj, hq, hnn]; exact e4
/-- the tables of the rules are valid where no channel is broken -/
theorem std_ok {r w h : Int} {n : Nat} (hr : 1 ≤ r ∧ r ≤ 4) (hg : okG w h) (hn : cnt w h = n) : tableOk w h [] (stdTab w r n) := by
  refine ⟨⟨⟨by simp, hg⟩, by rw [stdTab_len, hn, Int.natCast_mul]⟩, fun a ha c hc => ⟨fun e => ?_, fun e => ?_⟩⟩
  · subst e
    rw [portOf_r hn (isN_nat ha) (isN_nat ha)]; simp [stdPort]
  · rw [walk_r hn hg (isN_nat ha) (isN_nat hc)]
    have c := chkR_ok hr hg hn (isN_nat ha) (isN_nat hc)
    rw [chkR1] at c
    simp at c
    rcases c with c | c
    · omega
    · exact c
end Go.Proofs.Ytcigpclbhfkgaaa.V
/-! New chips. -/
set_option linter.all false
namespace Go.Proofs.Ytcigpclbhfkgaaa.V
open Go Go.VM Go.Proofs
set_option maxRecDepth 10000
variable {frz : Nat} {H : Heap}
theorem stdTableN_w (w h r : Int) (hg : ¬ okG w h) :
   wp (vcall C frz 126 [.agg #[.int .i64 w, .int .i64 h], .int .i64 r] H) (Made2 dTable H [] false) := by
  rw [vcall_go (fn := Try.f126) Try.func126 rfl (by kernel_rfl) rfl]
  simp [gridOk_c, hg]
  exact ⟨.agg #[.slice none 0 0], rfl, .slice none 0 0, rfl, ⟨.inl ⟨rfl, rfl⟩, by simp⟩, Chg.app _, by simp [dTable, dFlat, ids], by simp [dTable, dFlat, ids]⟩
theorem l05Make_w (w h r : Int) (n : Nat) (hr : 1 ≤ r ∧ r ≤ 4) (hg : okG w h) (hn : cnt w h = n) :
   wp (vcall C frz 123 [.agg #[.int .i64 w, .int .i64 h], .int .i64 r] H) (dTable.Made H (stdTab w r n)) := by
  rw [vcall_go (fn := Try.f123) Try.func123 rfl (by kernel_rfl) rfl]
  have hc := cnt_range w h
  have hn2 : n * n ≤ 256 := Nat.mul_le_mul (show n ≤ 16 by omega) (show n ≤ 16 by omega)
  have hn2' : (n : Int) * (n : Int) ≤ 256 := by have : ((n * n : Nat) : Int) ≤ 256 := by omega
                                                rwa [Int.natCast_mul] at this
  obtain ⟨M, hM⟩ : ∃ M : Nat, M = n * n := ⟨_, rfl⟩
  have eM : ∀ [Inhabited Unit], IntKind.i64.wrap ((n : Int) * n) = (M : Int) := by intro _; rw [hM, Int.natCast_mul]; exact w64 (by have := Int.natCast_nonneg (n * n); rw [Int.natCast_mul] at this; omega) (by omega)
  simp [sNodeCount_c, hn]
  refine wp_inv (fun m t H' => ∃ (i : Nat) (vo : Value) (o : List Int), m = M - i ∧ i ≤ M ∧ o = (List.range i).map (fun i => stdPort w r (i / n : Nat) (i % n : Nat)) ∧
      t 1 = .int .i64 r ∧ t 2 = .pointer (some ⟨H.length, 0, some 0⟩) ∧ t 4 = .pointer (some ⟨H.length + 1, 0, some 0⟩) ∧ t 5 = .pointer (some ⟨H.length + 2, 0, some 0⟩) ∧ t 6 = .int .i64 n ∧ t 7 = .int .i64 i ∧
      Chg H H' [] ∧ H'[H.length]? = some ⟨[.int .i64 w, .int .i64 h], 0, 36⟩ ∧ H'[H.length + 1]? = some ⟨[.slice none 0 0], 0, 40⟩ ∧ H'[H.length + 2]? = some ⟨[vo], 0, 40⟩ ∧
      Ow Fl.int 3 H' vo o ∧ (∀ i ∈ ids vo, H.length + 2 < i)) ?_ (n := M) ⟨0, .slice none 0 0, [], by simp, by omega, by simp, by simp, by simp, by simp, by simp, by simp, by simp, Chg.app _, by simp, by simp, by simp, .inl ⟨rfl, rfl⟩, by simp⟩
  rintro m t H' ⟨i, vo, o, rfl, hi, ho, h1, h2, h4, h5, h6, h7, c0, b2, b4, b6, oo, no⟩ ih
  simp [h1, h2, h4, h5, h6, h7, eM]
  refine wp_dec ?_ ?_ <;> intro hin
  · have hin' : i < M := by omega
    have hn0 : 0 < n := by
      rcases Nat.eq_zero_or_pos n with h0 | h0
      · rw [h0] at hM; omega
      · exact h0
    have hol : o.length = i := by rw [ho]; simp
    have q1 : i / n < n := by rw [Nat.div_lt_iff_lt_mul hn0]; omega
    have q2 : i % n < n := Nat.mod_lt _ hn0
    have d1 : ∀ [Inhabited Unit], IntKind.i64.wrap ((i : Int) / (n : Int)) = ((i / n : Nat) : Int) := by intro _; rw [← Int.natCast_ediv]; exact w64 (by have := Int.natCast_nonneg (i / n); omega) (by have := Int.ofNat_lt.2 q1; omega)
    have d2 : (i : Int).tmod n = ((i % n : Nat) : Int) := by rw [Int.tmod_eq_emod_of_nonneg (by omega)]; rfl
    have d3 : (i : Int).tdiv n = (i : Int) / n := Int.tdiv_eq_ediv_of_nonneg (by omega)
    have nz : ¬ (n : Int) = 0 := by omega
    have nz' : ¬ n = 0 := by omega
    have sp := fun F => l05Port_c (frz := F) (H := H') w h r ((i / n : Nat) : Int) ((i % n : Nat) : Int) hr ⟨Int.natCast_nonneg _, by rw [hn]; exact Int.ofNat_lt.2 q1⟩ ⟨Int.natCast_nonneg _, by rw [hn]; exact Int.ofNat_lt.2 q2⟩
    obtain ⟨X, hX⟩ : ∃ X, X = ((i / n : Nat) : Int) := ⟨_, rfl⟩
    obtain ⟨Y, hY⟩ : ∃ Y, Y = ((i % n : Nat) : Int) := ⟨_, rfl⟩
    rw [← hX] at d1
    rw [← hY] at d2
    rw [← hX, ← hY] at sp
    simp
    rw [go_draw (h := by kernel_rfl)]
    obtain ⟨vo', H3, e3, oo3, c3, n3⟩ := oo.push (P := Try.prog) (frz := H.length) (ty := 24) (a := stdPort w r X Y) (by simp) rfl (by omega) (fun i hi => by have := no i hi; omega)
    simp only [Fl.int_f] at e3
    have lc := box_lt b6
    have b2' := box_chg b2 c3 (fun hh => by have := no _ hh; omega)
    have b4' := box_chg b4 c3 (fun hh => by have := no _ hh; omega)
    have b6' := box_chg b6 c3 (fun hh => by have := no _ hh; omega)
    have no3 : ∀ i ∈ ids vo', H.length + 2 < i := fun i hi => by rcases n3 i hi with h | h; exact no i h; omega
    have one := And.intro oo.rd.one' oo.rd.cells
    have one3 := And.intro oo3.rd.one' oo3.rd.cells
    have hF : H.length ≤ H.length + 2 := by omega
    simp [-vappend_nil, -vappend_mk, VM.look, b2, b6, sp, one, e3, b6', one3, h1, h2, h4, h5, h6, h7, d1, d2, d3, nz, nz', hF]
    refine ih (M - (i + 1)) _ _ ⟨i + 1, vo', o ++ [stdPort w r X Y], rfl, by omega, ?_, by simp [h1], by simp [h2], by simp [h4], by simp [h5], by simp [h6], ?_,
      (c0.trans' c3 (fun i hi => .inr (by have := no i hi; omega))).trans' (chg_set _ _) (fun i hi => .inr (by simp at hi; omega)), box_chg b2' (chg_set _ _) (by simp), box_chg b4' (chg_set _ _) (by simp), set_get b6',
      oo3.chg (chg_set _ _) (fun i hi hh => by have := no3 i hi; simp at hh; omega), no3⟩ (by omega)
    · rw [List.range_succ, List.map_append, ← ho]; simp only [List.map_cons, List.map_nil, hX, hY]
    · simp [h7]; rw [w64 (by omega) (by omega)]
  · have : i = M := by omega
    subst this
    have lc := box_lt b6
    have one := And.intro oo.rd.one' oo.rd.cells
    have g4 := set_get (r' := ⟨[vo], 0, 40⟩) b4
    have hol : o.length = i := by rw [ho]; simp
    have hF : H.length ≤ H.length + 1 := by omega
    simp [h1, h2, h4, h5, h6, h7, VM.look, b6, b4, one, g4, hF]
    exact ⟨vo, rfl, ⟨(by rw [show stdTab w r n = o from by rw [ho, hM]; rfl]; exact oo.chg (chg_set _ _) (fun i hi hh => by have := no i hi; simp at hh; omega)), by rw [stdTab_len]; omega⟩, c0.trans' (chg_set _ _) (fun i hi => .inr (by simp at hi; omega)), fun i hi => by have := no i hi; omega, ids_nodup vo⟩
/-- the tables of two rules -/
def splitT (w h : Int) : ClassesD := if okG w h then (stdTab w 1 (cnt w h).toNat, stdTab w 2 (cnt w h).toNat) else ([], [])
theorem split_w (w h : Int) :
   wp (vcall C frz 72 [.agg #[.int .i64 w, .int .i64 h]] H) (Made2 dClasses H (splitT w h) (decide (okG w h))) := by
  rw [vcall_go (fn := Try.f72) Try.func72 rfl (by kernel_rfl) rfl]
  have st : ∀ K r, 1 ≤ r ∧ r ≤ 4 → wp (vcall C H.length 126 [.agg #[.int .i64 w, .int .i64 h], .int .i64 r] K) (Made2 dTable K (if okG w h then stdTab w r (cnt w h).toNat else []) (decide (okG w h))) := fun K r hr => by
    by_cases g : okG w h
    · simp only [g, if_true, decide_true]
      exact stdTable_w w h r _ hr g (by have := cnt_range w h; omega)
    · simp only [g, if_false, decide_false]
      exact stdTableN_w w h r g
  have e : splitT w h = (if okG w h then stdTab w 1 (cnt w h).toNat else [], if okG w h then stdTab w 2 (cnt w h).toNat else []) := by unfold splitT; split <;> rfl
  rw [e]
  have st1 := fun K => st K 1 (by omega)
  have st2 := fun K => st K 2 (by omega)
  clear st e
  generalize (if okG w h then stdTab w 1 (cnt w h).toNat else []) = T1 at *
  generalize (if okG w h then stdTab w 2 (cnt w h).toNat else []) = T2 at *
  generalize decide (okG w h) = ok at *
  simp
  refine wp_thn (st1 _) ?_
  rintro _ K1 ⟨_, rfl, v1, rfl, o1, c1, m1, d1⟩
  have cH : Chg H K1 [] := (Chg.app _).trans c1
  have bG : K1[H.length]? = some ⟨[.int .i64 w, .int .i64 h], 0, 36⟩ := box_chg (by simp) c1 (by simp)
  have bR : K1[H.length + 1]? = some ⟨[.slice none 0 0, .slice none 0 0], 0, 42⟩ := box_chg (by simp) c1 (by simp)
  have q1 := dTable_one o1
  have l1 := cH.1
  have lR := box_lt bR
  simp [dTable_val, q1, VM.look, l1]
  have bG2 := fun L => get_app' bG L
  simp [bG2]
  refine wp_thn (st2 _) ?_
  rintro _ K2 ⟨_, rfl, v2, rfl, o2, c2, m2, d2⟩
  have o1' := Dt.chg (T := dTable) (Dt.app (T := dTable) o1) c2 (by simp)
  have bG := box_chg (bG2 _) c2 (by simp)
  have bR := box_chg (get_app' bR _) c2 (by simp)
  have b4 : K2[K1.length]? = some ⟨[v1], 0, 40⟩ := box_chg (by simp) c2 (by simp)
  have cH2 : Chg H K2 [] := (cH.trans (Chg.app _)).trans c2
  have q2 := dTable_one o2
  have l2 := cH2.1
  have b42 := fun L => get_app' b4 L
  have bR2 := fun L => get_app' bR L
  have gR := set_get (r' := ⟨[v1, v2], 0, 42⟩) (bR2 [⟨[v2], 0, 40⟩])
  have hF : H.length ≤ H.length + 1 := by omega
  simp [dTable_val, q1, q2, VM.look, l2, b42, bR2, gR, hF]
  have eR : Chg (K2 ++ [⟨[v2], 0, 40⟩]) ((K2 ++ ([⟨[v2], 0, 40⟩] : List Row)).set (H.length + 1) ⟨[v1, v2], 0, 42⟩) [H.length + 1] := chg_set _ _
  have lt1 := dTable.lt o1
  have m1' : ∀ i ∈ dTable.ids v1, H.length + 2 ≤ i := fun i hi => by have := m1 i hi; simpa using this
  have oo1 := Dt.chg (T := dTable) (Dt.app (T := dTable) (L := [⟨[v2], 0, 40⟩]) o1') eR (fun i hi hh => by have := m1' i hi; simp at hh; omega)
  have oo2 := Dt.chg (T := dTable) (Dt.app (T := dTable) (L := [⟨[v2], 0, 40⟩]) o2) eR (fun i hi hh => by have := m2 i hi; simp at hh this; omega)
  refine ⟨_, rfl, (v1, v2), rfl, ⟨oo1, oo2⟩, (cH2.trans (Chg.app (L := [⟨[v2], 0, 40⟩]) [])).trans' eR (fun i hi => .inr (by simp at hi; omega)), fun i hi => ?_, ?_⟩
  · rcases List.mem_append.1 hi with hi | hi
    · have := m1' i hi; omega
    · have := m2 i hi; simp at this; omega
  · exact List.nodup_append.2 ⟨d1, d2, fun a ha b hb e => by have := lt1 a ha; have := m2 b hb; simp at this; omega⟩
theorem sSplit_w (w h : Int) :
   wp (vcall C frz 70 [.agg #[.int .i64 w, .int .i64 h]] H) (Made2 dClasses H (splitT w h) (decide (okG w h))) := by
  rw [vcall_go (fn := Try.f70) Try.func70 rfl (by kernel_rfl) rfl]
  simp [sGridOk_c]
  by_cases g : okG w h
  rotate_left
  · simp [g, splitT]
    exact ⟨_, rfl, (.slice none 0 0, .slice none 0 0), rfl, ⟨⟨.inl ⟨rfl, rfl⟩, by simp⟩, ⟨.inl ⟨rfl, rfl⟩, by simp⟩⟩, Chg.app _, by simp [dClasses, dAnd, dTable, dIntS, dFlat, ids], by simp [dClasses, dAnd, dTable, dIntS, dFlat, ids]⟩
  have st := fun K r hr => l05Make_w (frz := H.length) (H := K) w h r (cnt w h).toNat hr g (by have := cnt_range w h; omega)
  have e : splitT w h = (stdTab w 1 (cnt w h).toNat, stdTab w 2 (cnt w h).toNat) := if_pos g
  rw [e]
  simp only [g, decide_true]
  have st1 := fun K => st K 1 (by omega)
  have st2 := fun K => st K 2 (by omega)
  clear st e
  generalize stdTab w 1 (cnt w h).toNat = T1 at *
  generalize stdTab w 2 (cnt w h).toNat = T2 at *
  simp
  rw [go_draw (h := by kernel_rfl)]
  simp [VM.look]
  refine wp_thn (st1 _) ?_
  rintro _ K1 ⟨v1, rfl, o1, c1, m1, d1⟩
  have cH : Chg H K1 [] := (Chg.app _).trans c1
  have bG : K1[H.length]? = some ⟨[.int .i64 w, .int .i64 h], 0, 36⟩ := box_chg (by simp) c1 (by simp)
  have bR : K1[H.length + 1]? = some ⟨[.slice none 0 0, .slice none 0 0], 0, 42⟩ := box_chg (by simp) c1 (by simp)
  have q1 := dTable_one o1
  have l1 := cH.1
  have lR := box_lt bR
  simp [dTable_val, q1, VM.look, l1, bG]
  refine wp_thn (st2 _) ?_
  rintro _ K2 ⟨v2, rfl, o2, c2, m2, d2⟩
  have o1' := Dt.chg (T := dTable) o1 c2 (by simp)
  have bR := box_chg bR c2 (by simp)
  have cH2 : Chg H K2 [] := cH.trans c2
  have q2 := dTable_one o2
  have l2 := cH2.1
  have gR := set_get (r' := ⟨[v1, v2], 0, 42⟩) bR
  have hF : H.length ≤ H.length + 1 := by omega
  simp [dTable_val, q1, q2, VM.look, l2, bR, gR, hF]
  have eR : Chg K2 (K2.set (H.length + 1) ⟨[v1, v2], 0, 42⟩) [H.length + 1] := chg_set _ _
  have lt1 := dTable.lt o1
  have m1' : ∀ i ∈ dTable.ids v1, H.length + 2 ≤ i := fun i hi => by have := m1 i hi; simpa using this
  refine ⟨_, rfl, (v1, v2), rfl, ⟨Dt.chg (T := dTable) o1' eR (fun i hi hh => by have := m1' i hi; simp at hh; omega), Dt.chg (T := dTable) o2 eR (fun i hi hh => by have := m2 i hi; simp at hh this; omega)⟩, cH2.trans' eR (fun i hi => .inr (by simp at hi; omega)), fun i hi => ?_, ?_⟩
  · rcases List.mem_append.1 hi with hi | hi
    · have := m1' i hi; omega
    · have := m2 i hi; omega
  · exact List.nodup_append.2 ⟨d1, d2, fun a ha b hb e => by have := lt1 a ha; have := m2 b hb; omega⟩
end Go.Proofs.Ytcigpclbhfkgaaa.V
/-! New chips. -/
set_option linter.all false
namespace Go.Proofs.Ytcigpclbhfkgaaa.V
open Go Go.VM Go.Proofs
set_option maxRecDepth 10000
variable {frz : Nat} {H : Heap}
def chipNew (w h : Int) : ChipD := if okG w h then (netNew (w, h, []) (splitT w h), []) else (net0, [])
theorem split_ok {w h : Int} (g : okG w h) : classesOk w h [] (splitT w h).1 (splitT w h).2 := by
  have hn : cnt w h = ((cnt w h).toNat : Int) := by have := cnt_range w h; omega
  unfold splitT; rw [if_pos g]
  exact ⟨std_ok (by omega) g hn, std_ok (by omega) g hn⟩
theorem split_no {w h : Int} (g : ¬ okG w h) : ¬ classesOk w h [] (splitT w h).1 (splitT w h).2 := fun k => g k.1.1.1.2
theorem chip_of {K : Heap} {n : NetV} {x : NetD} (c : Chg H K []) (o : dNet.Ow K n x) (m : ∀ i ∈ dNet.ids n, H.length ≤ i) (d : (dNet.ids n).Nodup) : dChip.Made H (x, []) (dChip.val (n, .slice none 0 0) (x, [])) K := by
  refine ⟨(n, .slice none 0 0), rfl, ⟨o, ⟨.inl ⟨rfl, rfl⟩, by simp⟩⟩, c, fun i hi => ?_, ?_⟩
  · rcases List.mem_append.1 hi with hi | hi
    · exact m i hi
    · simp [dPk, dFlat, ids] at hi
  · show (dNet.ids n ++ []).Nodup
    rw [List.append_nil]; exact d
theorem chipNew_w (w h : Int) :
   wp (vcall C frz 32 [.agg #[.int .i64 w, .int .i64 h]] H) (Made2 dChip H (chipNew w h) (decide (okG w h))) := by
  rw [vcall_go (fn := Try.f32) Try.func32 rfl (by kernel_rfl) rfl]
  simp
  refine wp_thn (split_w w h) ?_
  rintro _ K1 ⟨_, rfl, vc, rfl, oc, c1, m1, d1⟩
  have cH : Chg H K1 [] := (Chg.app _).trans c1
  have bG : K1[H.length]? = some ⟨[.int .i64 w, .int .i64 h], 0, 36⟩ := box_chg (by simp) c1 (by simp)
  have bR : K1[H.length + 1]? = some ⟨[.int .i64 0, .int .i64 0, .slice none 0 0, .slice none 0 0, .slice none 0 0, .slice none 0 0, .slice none 0 0, .slice none 0 0, .slice none 0 0, .slice none 0 0, .int .i64 0, .slice none 0 0], 0, 62⟩ := box_chg (by simp) c1 (by simp)
  have onec := dClasses_one oc
  have l1 := cH.1
  have lR := box_lt bR
  have bG2 := fun L => get_app' bG L
  have bR2 := fun L => get_app' bR L
  have hF : H.length ≤ H.length + 1 := by omega
  have zero : ∀ K : Heap, Chg H K [] → K[H.length + 1]? = some ⟨[.int .i64 0, .int .i64 0, .slice none 0 0, .slice none 0 0, .slice none 0 0, .slice none 0 0, .slice none 0 0, .slice none 0 0, .slice none 0 0, .slice none 0 0, .int .i64 0, .slice none 0 0], 0, 62⟩ → ¬ okG w h → Made2 dChip H (chipNew w h) (decide (okG w h)) (.tuple #[.agg #[.int .i64 0, .int .i64 0, .slice none 0 0, .slice none 0 0, .slice none 0 0, .slice none 0 0, .slice none 0 0, .slice none 0 0, .slice none 0 0, .slice none 0 0, .int .i64 0, .slice none 0 0], .bool false]) (K.set (H.length + 1) ⟨[.int .i64 0, .int .i64 0, .slice none 0 0, .slice none 0 0, .slice none 0 0, .slice none 0 0, .slice none 0 0, .slice none 0 0, .slice none 0 0, .slice none 0 0, .int .i64 0, .slice none 0 0], 0, 62⟩) := fun K cK bK g => by
    have e : chipNew w h = (net0, []) := if_neg g
    rw [e, decide_eq_false g]
    have e2 : K.set (H.length + 1) ⟨[.int .i64 0, .int .i64 0, .slice none 0 0, .slice none 0 0, .slice none 0 0, .slice none 0 0, .slice none 0 0, .slice none 0 0, .slice none 0 0, .slice none 0 0, .int .i64 0, .slice none 0 0], 0, 62⟩ = K := by
      apply List.ext_getElem? ; intro j
      rw [List.getElem?_set]
      split
      · rename_i hj; subst hj; rw [bK]; simp [box_lt bK]
      · rfl
    rw [e2]
    exact ⟨_, rfl, chip_of cK (net0_ow K) (by rw [nV0_ids]; simp) (by rw [nV0_ids]; simp)⟩
  simp [dClasses_val, onec, VM.look, l1, bG2]
  have om : dMesh.Ow (K1 ++ [⟨[vc.1, vc.2], 0, 42⟩]) (.slice none 0 0) (w, h, []) := ⟨.inl ⟨rfl, rfl⟩, by simp⟩
  have nn := netNew_w (frz := H.length) om (Dt.app (T := dClasses) (L := [⟨[vc.1, vc.2], 0, 42⟩]) oc)
  simp only [dMesh_val, dClasses_val] at nn
  refine wp_thn nn ?_
  rintro _ K2 ⟨_, rfl, vn, rfl, on, c2, m2, d2⟩
  have bR := box_chg (bR2 [⟨[vc.1, vc.2], 0, 42⟩]) c2 (by simp)
  have cH2 : Chg H K2 [] := (cH.trans (Chg.app _)).trans c2
  have onen := dNet_one on
  have l2 := cH2.1
  by_cases g : okG w h
  rotate_left
  · have ek : ¬ classesOk w h [] (splitT w h).1 (splitT w h).2 := split_no g
    have bR2 := fun L => get_app' bR L
    have z := zero (K2 ++ [⟨[.int .i64 (netNew (w, h, []) (splitT w h)).1.1, .int .i64 (netNew (w, h, []) (splitT w h)).1.2.1, vn.1, vn.2.1.1, vn.2.1.2, vn.2.2.1.1, vn.2.2.2.1, vn.2.2.2.2.1, vn.2.2.2.2.2.1.1, vn.2.2.2.2.2.2.1.1, .int .i64 (netNew (w, h, []) (splitT w h)).2.2.2.2.2.2.2], 0, 59⟩]) (cH2.trans (Chg.app _)) (bR2 _) g
    generalize netNew (w, h, []) (splitT w h) = x at *
    have gR := set_get (r' := ⟨[.int .i64 0, .int .i64 0, .slice none 0 0, .slice none 0 0, .slice none 0 0, .slice none 0 0, .slice none 0 0, .slice none 0 0, .slice none 0 0, .slice none 0 0, .int .i64 0, .slice none 0 0], 0, 62⟩) (bR2 [⟨[.int .i64 x.1.1, .int .i64 x.1.2.1, vn.1, vn.2.1.1, vn.2.1.2, vn.2.2.1.1, vn.2.2.2.1, vn.2.2.2.2.1, vn.2.2.2.2.2.1.1, vn.2.2.2.2.2.2.1.1, .int .i64 x.2.2.2.2.2.2.2], 0, 59⟩])
    simp [dNet_val, onen, g, ek, VM.look, l2, bR2, gR, hF]
    rw [decide_eq_false g] at z
    exact z
  have ek : classesOk w h [] (splitT w h).1 (splitT w h).2 := split_ok g
  have e : chipNew w h = (netNew (w, h, []) (splitT w h), []) := if_pos g
  rw [e]
  generalize netNew (w, h, []) (splitT w h) = x at *
  have bR2 := fun L => get_app' bR L
  have gR := set_get (r' := ⟨[.int .i64 x.1.1, .int .i64 x.1.2.1, vn.1, vn.2.1.1, vn.2.1.2, vn.2.2.1.1, vn.2.2.2.1, vn.2.2.2.2.1, vn.2.2.2.2.2.1.1, vn.2.2.2.2.2.2.1.1, .int .i64 x.2.2.2.2.2.2.2, .slice none 0 0], 0, 62⟩) (bR2 [⟨[.int .i64 x.1.1, .int .i64 x.1.2.1, vn.1, vn.2.1.1, vn.2.1.2, vn.2.2.1.1, vn.2.2.2.1, vn.2.2.2.2.1, vn.2.2.2.2.2.1.1, vn.2.2.2.2.2.2.1.1, .int .i64 x.2.2.2.2.2.2.2], 0, 59⟩])
  simp [dNet_val, onen, g, ek, VM.look, l2, bR2, gR, hF]
  have eR : Chg (K2 ++ [⟨[.int .i64 x.1.1, .int .i64 x.1.2.1, vn.1, vn.2.1.1, vn.2.1.2, vn.2.2.1.1, vn.2.2.2.1, vn.2.2.2.2.1, vn.2.2.2.2.2.1.1, vn.2.2.2.2.2.2.1.1, .int .i64 x.2.2.2.2.2.2.2], 0, 59⟩]) ((K2 ++ ([⟨[.int .i64 x.1.1, .int .i64 x.1.2.1, vn.1, vn.2.1.1, vn.2.1.2, vn.2.2.1.1, vn.2.2.2.1, vn.2.2.2.2.1, vn.2.2.2.2.2.1.1, vn.2.2.2.2.2.2.1.1, .int .i64 x.2.2.2.2.2.2.2], 0, 59⟩] : List Row)).set (H.length + 1) ⟨[.int .i64 x.1.1, .int .i64 x.1.2.1, vn.1, vn.2.1.1, vn.2.1.2, vn.2.2.1.1, vn.2.2.2.1, vn.2.2.2.2.1, vn.2.2.2.2.2.1.1, vn.2.2.2.2.2.2.1.1, .int .i64 x.2.2.2.2.2.2.2, .slice none 0 0], 0, 62⟩) [H.length + 1] := chg_set _ _
  have m2' : ∀ i ∈ dNet.ids vn, K1.length < i := fun i hi => by have := m2 i hi; simp at this; omega
  have on2 := Dt.chg (T := dNet) (Dt.app (T := dNet) (L := [⟨[.int .i64 x.1.1, .int .i64 x.1.2.1, vn.1, vn.2.1.1, vn.2.1.2, vn.2.2.1.1, vn.2.2.2.1, vn.2.2.2.2.1, vn.2.2.2.2.2.1.1, vn.2.2.2.2.2.2.1.1, .int .i64 x.2.2.2.2.2.2.2], 0, 59⟩]) on) eR (fun i hi hh => by have := m2' i hi; simp at hh; omega)
  exact ⟨_, rfl, chip_of ((cH2.trans (Chg.app (L := [⟨[.int .i64 x.1.1, .int .i64 x.1.2.1, vn.1, vn.2.1.1, vn.2.1.2, vn.2.2.1.1, vn.2.2.2.1, vn.2.2.2.2.1, vn.2.2.2.2.2.1.1, vn.2.2.2.2.2.2.1.1, .int .i64 x.2.2.2.2.2.2.2], 0, 59⟩]) [])).trans' eR (fun i hi => .inr (by simp at hi; omega))) on2 (fun i hi => by have := m2' i hi; omega) d2⟩
theorem sChipNew_w (w h : Int) :
   wp (vcall C frz 30 [.agg #[.int .i64 w, .int .i64 h]] H) (Made2 dChip H (chipNew w h) (decide (okG w h))) := by
  rw [vcall_go (fn := Try.f30) Try.func30 rfl (by kernel_rfl) rfl]
  simp
  refine wp_thn (sSplit_w w h) ?_
  rintro _ K1 ⟨_, rfl, vc, rfl, oc, c1, m1, d1⟩
  have cH : Chg H K1 [] := (Chg.app _).trans c1
  have bG : K1[H.length]? = some ⟨[.int .i64 w, .int .i64 h], 0, 36⟩ := box_chg (by simp) c1 (by simp)
  have bR : K1[H.length + 1]? = some ⟨[.int .i64 0, .int .i64 0, .slice none 0 0, .slice none 0 0, .slice none 0 0, .slice none 0 0, .slice none 0 0, .slice none 0 0, .slice none 0 0, .slice none 0 0, .int .i64 0, .slice none 0 0], 0, 62⟩ := box_chg (by simp) c1 (by simp)
  have onec := dClasses_one oc
  have l1 := cH.1
  have lR := box_lt bR
  have bG2 := fun L => get_app' bG L
  have bR2 := fun L => get_app' bR L
  have hF : H.length ≤ H.length + 1 := by omega
  have zero : ∀ K : Heap, Chg H K [] → K[H.length + 1]? = some ⟨[.int .i64 0, .int .i64 0, .slice none 0 0, .slice none 0 0, .slice none 0 0, .slice none 0 0, .slice none 0 0, .slice none 0 0, .slice none 0 0, .slice none 0 0, .int .i64 0, .slice none 0 0], 0, 62⟩ → ¬ okG w h → Made2 dChip H (chipNew w h) (decide (okG w h)) (.tuple #[.agg #[.int .i64 0, .int .i64 0, .slice none 0 0, .slice none 0 0, .slice none 0 0, .slice none 0 0, .slice none 0 0, .slice none 0 0, .slice none 0 0, .slice none 0 0, .int .i64 0, .slice none 0 0], .bool false]) (K.set (H.length + 1) ⟨[.int .i64 0, .int .i64 0, .slice none 0 0, .slice none 0 0, .slice none 0 0, .slice none 0 0, .slice none 0 0, .slice none 0 0, .slice none 0 0, .slice none 0 0, .int .i64 0, .slice none 0 0], 0, 62⟩) := fun K cK bK g => by
    have e : chipNew w h = (net0, []) := if_neg g
    rw [e, decide_eq_false g]
    have e2 : K.set (H.length + 1) ⟨[.int .i64 0, .int .i64 0, .slice none 0 0, .slice none 0 0, .slice none 0 0, .slice none 0 0, .slice none 0 0, .slice none 0 0, .slice none 0 0, .slice none 0 0, .int .i64 0, .slice none 0 0], 0, 62⟩ = K := by
      apply List.ext_getElem? ; intro j
      rw [List.getElem?_set]
      split
      · rename_i hj; subst hj; rw [bK]; simp [box_lt bK]
      · rfl
    rw [e2]
    exact ⟨_, rfl, chip_of cK (net0_ow K) (by rw [nV0_ids]; simp) (by rw [nV0_ids]; simp)⟩
  by_cases g : okG w h
  rotate_left
  · have z := zero (K1 ++ [⟨[vc.1, vc.2], 0, 42⟩]) (cH.trans (Chg.app _)) (bR2 _) g
    have gR := set_get (r' := ⟨[.int .i64 0, .int .i64 0, .slice none 0 0, .slice none 0 0, .slice none 0 0, .slice none 0 0, .slice none 0 0, .slice none 0 0, .slice none 0 0, .slice none 0 0, .int .i64 0, .slice none 0 0], 0, 62⟩) (bR2 [⟨[vc.1, vc.2], 0, 42⟩])
    simp [dClasses_val, onec, g, VM.look, l1, bR2, gR, hF]
    rw [decide_eq_false g] at z
    exact z
  simp [dClasses_val, onec, g, VM.look, l1, bG2]
  have om : dMesh.Ow (K1 ++ [⟨[vc.1, vc.2], 0, 42⟩]) (.slice none 0 0) (w, h, []) := ⟨.inl ⟨rfl, rfl⟩, by simp⟩
  have nn := sNetNew_w (frz := H.length) om (Dt.app (T := dClasses) (L := [⟨[vc.1, vc.2], 0, 42⟩]) oc)
  simp only [dMesh_val, dClasses_val] at nn
  refine wp_thn nn ?_
  rintro _ K2 ⟨_, rfl, vn, rfl, on, c2, m2, d2⟩
  have bR := box_chg (bR2 [⟨[vc.1, vc.2], 0, 42⟩]) c2 (by simp)
  have cH2 : Chg H K2 [] := (cH.trans (Chg.app _)).trans c2
  have onen := dNet_one on
  have l2 := cH2.1
  have ek : classesOk w h [] (splitT w h).1 (splitT w h).2 := split_ok g
  have e : chipNew w h = (netNew (w, h, []) (splitT w h), []) := if_pos g
  rw [e]
  generalize netNew (w, h, []) (splitT w h) = x at *
  have bR2 := fun L => get_app' bR L
  have gR := set_get (r' := ⟨[.int .i64 x.1.1, .int .i64 x.1.2.1, vn.1, vn.2.1.1, vn.2.1.2, vn.2.2.1.1, vn.2.2.2.1, vn.2.2.2.2.1, vn.2.2.2.2.2.1.1, vn.2.2.2.2.2.2.1.1, .int .i64 x.2.2.2.2.2.2.2, .slice none 0 0], 0, 62⟩) (bR2 [⟨[.int .i64 x.1.1, .int .i64 x.1.2.1, vn.1, vn.2.1.1, vn.2.1.2, vn.2.2.1.1, vn.2.2.2.1, vn.2.2.2.2.1, vn.2.2.2.2.2.1.1, vn.2.2.2.2.2.2.1.1, .int .i64 x.2.2.2.2.2.2.2], 0, 59⟩])
  simp [dNet_val, onen, g, ek, VM.look, l2, bR2, gR, hF]
  have eR : Chg (K2 ++ [⟨[.int .i64 x.1.1, .int .i64 x.1.2.1, vn.1, vn.2.1.1, vn.2.1.2, vn.2.2.1.1, vn.2.2.2.1, vn.2.2.2.2.1, vn.2.2.2.2.2.1.1, vn.2.2.2.2.2.2.1.1, .int .i64 x.2.2.2.2.2.2.2], 0, 59⟩]) ((K2 ++ ([⟨[.int .i64 x.1.1, .int .i64 x.1.2.1, vn.1, vn.2.1.1, vn.2.1.2, vn.2.2.1.1, vn.2.2.2.1, vn.2.2.2.2.1, vn.2.2.2.2.2.1.1, vn.2.2.2.2.2.2.1.1, .int .i64 x.2.2.2.2.2.2.2], 0, 59⟩] : List Row)).set (H.length + 1) ⟨[.int .i64 x.1.1, .int .i64 x.1.2.1, vn.1, vn.2.1.1, vn.2.1.2, vn.2.2.1.1, vn.2.2.2.1, vn.2.2.2.2.1, vn.2.2.2.2.2.1.1, vn.2.2.2.2.2.2.1.1, .int .i64 x.2.2.2.2.2.2.2, .slice none 0 0], 0, 62⟩) [H.length + 1] := chg_set _ _
  have m2' : ∀ i ∈ dNet.ids vn, K1.length < i := fun i hi => by have := m2 i hi; simp at this; omega
  have on2 := Dt.chg (T := dNet) (Dt.app (T := dNet) (L := [⟨[.int .i64 x.1.1, .int .i64 x.1.2.1, vn.1, vn.2.1.1, vn.2.1.2, vn.2.2.1.1, vn.2.2.2.1, vn.2.2.2.2.1, vn.2.2.2.2.2.1.1, vn.2.2.2.2.2.2.1.1, .int .i64 x.2.2.2.2.2.2.2], 0, 59⟩]) on) eR (fun i hi hh => by have := m2' i hi; simp at hh; omega)
  exact ⟨_, rfl, chip_of ((cH2.trans (Chg.app (L := [⟨[.int .i64 x.1.1, .int .i64 x.1.2.1, vn.1, vn.2.1.1, vn.2.1.2, vn.2.2.1.1, vn.2.2.2.1, vn.2.2.2.2.1, vn.2.2.2.2.2.1.1, vn.2.2.2.2.2.2.1.1, .int .i64 x.2.2.2.2.2.2.2], 0, 59⟩]) [])).trans' eR (fun i hi => .inr (by simp at hi; omega))) on2 (fun i hi => by have := m2' i hi; omega) d2⟩
end Go.Proofs.Ytcigpclbhfkgaaa.V
