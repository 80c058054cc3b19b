/- Texts of a proof, joined. -/
import Derived.Test.YtcigpclbhfkgaaaKM0
import Derived.Test.YtcigpclbhfkgaaaKM1
import Derived.Test.YtcigpclbhfkgaaaKFnExactReplaceClasses0
/-! Copies of networks. -/
set_option linter.all false
namespace Go.Proofs.Ytcigpclbhfkgaaa.V
open Go Go.VM Go.Proofs
set_option maxRecDepth 10000
variable {frz : Nat} {H : Heap}
/-- append([]T{}, xs...) in one region -/
theorem copy_ints (v : Value) (xs : List Int) (hI : Rd Fl.int H v xs) (hl : xs.length ≤ 1073741824) : ∃ r L, vappend Try.prog frz H 24 24 (.slice none 0 0) v = some (r, H ++ L) ∧ dIntS.Ow (H ++ L) r xs ∧ (∀ i ∈ ids r, H.length ≤ i) := by
  have hs := hI.src
  simp only [Fl.int_n] at hs
  by_cases h0 : xs = []
  · subst h0
    refine ⟨.slice none 0 0, [], ?_, ⟨.inl ⟨rfl, rfl⟩, by simp⟩, by simp⟩
    simp [hs]
  · refine ⟨.slice (some ⟨H.length, 0, some 0⟩) xs.length 0, [⟨cellsOf Fl.int xs, 0, 3⟩], ?_, ⟨Ow.new0 rfl rfl (ones_ints xs) rfl, hl⟩, by simp⟩
    have : xs.length ≠ 0 := fun hh => h0 (List.length_eq_zero_iff.1 hh)
    simp [hs, h0, hl, ones_ints]
theorem copy_flits (v : Value) (xs : List FlitD) (hI : Rd flF H v xs) (hl : xs.length ≤ 1073741824) : ∃ r L, vappend Try.prog frz H 123 123 (.slice none 0 0) v = some (r, H ++ L) ∧ Ow flF 134 (H ++ L) r xs ∧ (∀ i ∈ ids r, H.length ≤ i) := by
  have hs := hI.src
  simp only [flF_n] at hs
  by_cases h0 : xs = []
  · subst h0
    refine ⟨.slice none 0 0, [], ?_, .inl ⟨rfl, rfl⟩, by simp⟩
    simp [hs]
  · refine ⟨.slice (some ⟨H.length, 0, some 0⟩) xs.length 0, [⟨cellsOf flF xs, 0, 134⟩], ?_, Ow.new0 rfl rfl (ones_flF xs) rfl, by simp⟩
    have : xs.length ≠ 0 := fun hh => h0 (List.length_eq_zero_iff.1 hh)
    simp [hs, h0, hl, ones_flF]
theorem copyLists_w (v : Value) (hs : List Value) (xss : SSD) (hI : RdL flF H v hs xss) (hb : xss.length ≤ 2097152) (hb2 : ∀ xs ∈ xss, xs.length ≤ 67108864) :
   wp (vcall C frz 133 [v] H) (dSS.Made H xss) := by
  rw [vcall_go (fn := Try.f133) Try.func133 rfl (by kernel_rfl) rfl]
  have hl := hI.2.1
  simp [(hI.app).1.len (P := Try.prog) (ty := 57) (by simp), hl]
  refine wp_inv (fun n t H' => ∃ (i : Nat) (out : Value) (gs : List Value), n = xss.length - i ∧ i ≤ xss.length ∧ t 7 = v ∧ t 8 = .int .i64 xss.length ∧ t 9 = .int .i64 i ∧ t 3 = out ∧ gs.length = i ∧ Ow Fl.val 123 H' out gs ∧ Chg H H' [] ∧
    (∀ (j : Nat) (a : Value) (xs : List FlitD), gs[j]? = some a → xss[j]? = some xs → Ow flF 134 H' a xs) ∧ (∀ x ∈ idsL out gs, H.length ≤ x ∧ x < H'.length) ∧ (idsL out gs).Nodup) ?_ (n := xss.length)
    ⟨0, .slice (some ⟨H.length, 0, some 0⟩) 0 0, [], rfl, by omega, by simp, by simp, by simp, by simp, rfl, Ow.new0 (D := Fl.val) (xs := []) rfl rfl rfl rfl, Chg.app _, by simp, by simp [idsL], by simp [idsL]⟩
  rintro n t H' ⟨i, out, gs, rfl, hi, t7, t8, t9, t3, hgl, o, c, hin, hids, hnd⟩ ih
  have rd := hI.chg c (by simp)
  have l0 := c.1
  simp [t7, t8, t9, t3, rd.1.len (P := Try.prog) (ty := 57) (by simp), hl]
  refine wp_dec ?_ ?_ <;> intro h
  · have h' : i < xss.length := by omega
    obtain ⟨u, a1, a2, a3, a4⟩ := RdL_at rd (ty := 57) (e := 123) (by simp) (by simp) h'
    have hm := hb2 _ (List.getElem_mem h')
    have a2' : vindexAddr Try.prog (H' ++ [⟨[], 0, 134⟩]) 57 v (.int .i64 i) = some (elp v i) := by
      obtain ⟨_, _, q, _, _⟩ := RdL_at (rd.app (L := [⟨[], 0, 134⟩])) (ty := 57) (e := 123) (by simp) (by simp) h'; exact q
    have a3' : vload Try.prog (H' ++ [⟨[], 0, 134⟩]) 123 (elp v i) = some u := by
      obtain ⟨u', q1, _, q, _⟩ := RdL_at (rd.app (L := [⟨[], 0, 134⟩])) (ty := 57) (e := 123) (by simp) (by simp) h'
      rw [a1] at q1; cases q1; exact q
    have o0 : Ow flF 134 (H' ++ [⟨[], 0, 134⟩]) (.slice (some ⟨H'.length, 0, some 0⟩) 0 0) [] := Ow.new0 (D := flF) (xs := []) rfl rfl rfl rfl
    obtain ⟨r, H2, hap, or_, c1, n1⟩ := o0.append (P := Try.prog) (frz := H.length) (ty := 123) (a4.app (L := [⟨[], 0, 134⟩])) (by simp) (ones_flF _) (by simp; omega) (by simp; omega)
    rw [List.nil_append] at or_
    have l1 := c1.1
    simp at l1
    have cc1 : Chg H' H2 [] := (Chg.app []).trans' c1 (fun x hx => .inr (by simp at hx; omega))
    have nr : ∀ x ∈ ids r, H'.length ≤ x := fun x hx => by
      rcases n1 x hx with h1 | h1
      · simp at h1; omega
      · simp at h1; omega
    have oo := o.chg cc1 (by simp)
    have hout : ∀ x ∈ ids out, H.length ≤ x ∧ x < H'.length := fun x hx => hids x (List.mem_append.2 (.inl hx))
    obtain ⟨out', H4, hap2, o4, c4, n4⟩ := oo.push (P := Try.prog) (frz := H.length) (ty := 57) (a := r) (by simp) (by simp [or_.rd.one']) (by omega) (fun x hx => (hout x hx).1)
    simp only [Fl.val_f] at hap2
    have l4 := c4.1
    have one := And.intro or_.rd.one' or_.rd.cells
    have rlt := or_.lt
    have o4lt := o4.lt
    simp [-vappend_mk, t7, t8, t9, t3, a2, a3, a2', a3', hap, hap2, one]
    refine ih (xss.length - (i + 1)) _ _ ⟨i + 1, out', gs ++ [r], rfl, by omega, by simp [t7], by simp [t8], ?_, by simp, by simp [hgl], o4, (c.trans cc1).trans' c4 (fun x hx => .inr (hout x hx).1), fun j a xs ha hx => ?_, fun x hx => ?_, ?_⟩ (by omega)
    · simp; rw [w64 (by omega) (by omega)]
    · by_cases hj : j < gs.length
      · rw [List.getElem?_append_left hj] at ha
        refine ((hin j a xs ha hx).chg cc1 (by simp)).chg c4 (fun y hy hh => ?_)
        exact (List.nodup_append.1 hnd).2.2 y hh y (List.mem_flatMap.2 ⟨a, List.mem_of_getElem? ha, hy⟩) rfl
      · rw [List.getElem?_append_right (by omega)] at ha
        have hj2 := (List.getElem?_eq_some_iff.1 ha).1
        simp at hj2
        have : j = i := by omega
        subst this
        rw [show j - gs.length = 0 by omega] at ha
        simp at ha
        subst ha
        rw [List.getElem?_eq_getElem h'] at hx
        cases hx
        exact or_.chg c4 (fun y hy hh => by have := nr y hy; have := (hout y hh).2; omega)
    · rcases List.mem_append.1 hx with hx | hx
      · have h2 := o4lt x hx
        rcases n4 x hx with h1 | h1
        · exact ⟨(hout x h1).1, h2⟩
        · exact ⟨by omega, h2⟩
      · rw [List.flatMap_append] at hx
        rcases List.mem_append.1 hx with hx | hx
        · have := hids x (List.mem_append.2 (.inr hx)); omega
        · simp at hx
          have := nr x hx; have := rlt x hx; omega
    · obtain ⟨d1, d2, d3⟩ := List.nodup_append.1 hnd
      have hgl2 : ∀ x ∈ gs.flatMap ids, x < H'.length := fun x hx => (hids x (List.mem_append.2 (.inr hx))).2
      refine List.nodup_append.2 ⟨ids_nodup _, ?_, fun a ha b hb e => ?_⟩
      · rw [List.flatMap_append]
        exact nd_app d2 (by simpa using ids_nodup r) (n := H'.length) hgl2 (fun x hx => by simp at hx; exact nr x hx)
      · subst e
        rw [List.flatMap_append] at hb
        rcases n4 a ha with h1 | h1
        · rcases List.mem_append.1 hb with hb | hb
          · exact d3 a h1 a hb rfl
          · simp at hb
            have := nr a hb; have := (hout a h1).2; omega
        · rcases List.mem_append.1 hb with hb | hb
          · have := hgl2 a hb; omega
          · simp at hb
            have := rlt a hb; omega
  · have : i = xss.length := by omega
    subst this
    simp [t7, t8, t9, t3]
    exact ⟨(out, gs), rfl, ⟨⟨o, hgl, hin⟩, hb, hb2⟩, c, fun x hx => (hids x hx).1, hnd⟩
theorem l15Lists_w (v : Value) (hs : List Value) (xss : SSD) (hI : RdL flF H v hs xss) (hb : xss.length ≤ 2097152) (hb2 : ∀ xs ∈ xss, xs.length ≤ 67108864) :
   wp (vcall C frz 131 [v] H) (dSS.Made H xss) := by
  rw [vcall_go (fn := Try.f131) Try.func131 rfl (by kernel_rfl) rfl]
  have hl := hI.2.1
  simp [(hI.app).1.len (P := Try.prog) (ty := 57) (by simp), hl]
  refine wp_inv (fun n t H' => ∃ (i : Nat) (out : Value) (gs : List Value), n = xss.length - i ∧ i ≤ xss.length ∧ t 0 = v ∧ t 4 = .int .i64 i ∧ t 3 = out ∧ gs.length = i ∧ Ow Fl.val 123 H' out gs ∧ Chg H H' [] ∧
    (∀ (j : Nat) (a : Value) (xs : List FlitD), gs[j]? = some a → xss[j]? = some xs → Ow flF 134 H' a xs) ∧ (∀ x ∈ idsL out gs, H.length ≤ x ∧ x < H'.length) ∧ (idsL out gs).Nodup) ?_ (n := xss.length)
    ⟨0, .slice (some ⟨H.length, 0, some 0⟩) 0 0, [], rfl, by omega, by simp, by simp, by simp, rfl, Ow.new0 (D := Fl.val) (xs := []) rfl rfl rfl rfl, Chg.app _, by simp, by simp [idsL], by simp [idsL]⟩
  rintro n t H' ⟨i, out, gs, rfl, hi, t0, t4, t3, hgl, o, c, hin, hids, hnd⟩ ih
  have rd := hI.chg c (by simp)
  have l0 := c.1
  simp [t0, t4, t3, rd.1.len (P := Try.prog) (ty := 57) (by simp), hl]
  refine wp_dec ?_ ?_ <;> intro h
  · have h' : i < xss.length := by omega
    obtain ⟨u, a1, a2, a3, a4⟩ := RdL_at rd (ty := 57) (e := 123) (by simp) (by simp) h'
    have hm := hb2 _ (List.getElem_mem h')
    have a2' : vindexAddr Try.prog (H' ++ [⟨[], 0, 134⟩]) 57 v (.int .i64 i) = some (elp v i) := by
      obtain ⟨_, _, q, _, _⟩ := RdL_at (rd.app (L := [⟨[], 0, 134⟩])) (ty := 57) (e := 123) (by simp) (by simp) h'; exact q
    have a3' : vload Try.prog (H' ++ [⟨[], 0, 134⟩]) 123 (elp v i) = some u := by
      obtain ⟨u', q1, _, q, _⟩ := RdL_at (rd.app (L := [⟨[], 0, 134⟩])) (ty := 57) (e := 123) (by simp) (by simp) h'
      rw [a1] at q1; cases q1; exact q
    have o0 : Ow flF 134 (H' ++ [⟨[], 0, 134⟩]) (.slice (some ⟨H'.length, 0, some 0⟩) 0 0) [] := Ow.new0 (D := flF) (xs := []) rfl rfl rfl rfl
    obtain ⟨r, H2, hap, or_, c1, n1⟩ := o0.append (P := Try.prog) (frz := H.length) (ty := 123) (a4.app (L := [⟨[], 0, 134⟩])) (by simp) (ones_flF _) (by simp; omega) (by simp; omega)
    rw [List.nil_append] at or_
    have l1 := c1.1
    simp at l1
    have cc1 : Chg H' H2 [] := (Chg.app []).trans' c1 (fun x hx => .inr (by simp at hx; omega))
    have nr : ∀ x ∈ ids r, H'.length ≤ x := fun x hx => by
      rcases n1 x hx with h1 | h1
      · simp at h1; omega
      · simp at h1; omega
    have oo := o.chg cc1 (by simp)
    have hout : ∀ x ∈ ids out, H.length ≤ x ∧ x < H'.length := fun x hx => hids x (List.mem_append.2 (.inl hx))
    obtain ⟨out', H4, hap2, o4, c4, n4⟩ := oo.push (P := Try.prog) (frz := H.length) (ty := 57) (a := r) (by simp) (by simp [or_.rd.one']) (by omega) (fun x hx => (hout x hx).1)
    simp only [Fl.val_f] at hap2
    have l4 := c4.1
    have one := And.intro or_.rd.one' or_.rd.cells
    have rlt := or_.lt
    have o4lt := o4.lt
    simp [-vappend_mk, t0, t4, t3, a2, a3, a2', a3', hap, hap2, one]
    refine ih (xss.length - (i + 1)) _ _ ⟨i + 1, out', gs ++ [r], rfl, by omega, by simp [t0], ?_, by simp, by simp [hgl], o4, (c.trans cc1).trans' c4 (fun x hx => .inr (hout x hx).1), fun j a xs ha hx => ?_, fun x hx => ?_, ?_⟩ (by omega)
    · simp; rw [w64 (by omega) (by omega)]
    · by_cases hj : j < gs.length
      · rw [List.getElem?_append_left hj] at ha
        refine ((hin j a xs ha hx).chg cc1 (by simp)).chg c4 (fun y hy hh => ?_)
        exact (List.nodup_append.1 hnd).2.2 y hh y (List.mem_flatMap.2 ⟨a, List.mem_of_getElem? ha, hy⟩) rfl
      · rw [List.getElem?_append_right (by omega)] at ha
        have hj2 := (List.getElem?_eq_some_iff.1 ha).1
        simp at hj2
        have : j = i := by omega
        subst this
        rw [show j - gs.length = 0 by omega] at ha
        simp at ha
        subst ha
        rw [List.getElem?_eq_getElem h'] at hx
        cases hx
        exact or_.chg c4 (fun y hy hh => by have := nr y hy; have := (hout y hh).2; omega)
    · rcases List.mem_append.1 hx with hx | hx
      · have h2 := o4lt x hx
        rcases n4 x hx with h1 | h1
        · exact ⟨(hout x h1).1, h2⟩
        · exact ⟨by omega, h2⟩
      · rw [List.flatMap_append] at hx
        rcases List.mem_append.1 hx with hx | hx
        · have := hids x (List.mem_append.2 (.inr hx)); omega
        · simp at hx
          have := nr x hx; have := rlt x hx; omega
    · obtain ⟨d1, d2, d3⟩ := List.nodup_append.1 hnd
      have hgl2 : ∀ x ∈ gs.flatMap ids, x < H'.length := fun x hx => (hids x (List.mem_append.2 (.inr hx))).2
      refine List.nodup_append.2 ⟨ids_nodup _, ?_, fun a ha b hb e => ?_⟩
      · rw [List.flatMap_append]
        exact nd_app d2 (by simpa using ids_nodup r) (n := H'.length) hgl2 (fun x hx => by simp at hx; exact nr x hx)
      · subst e
        rw [List.flatMap_append] at hb
        rcases n4 a ha with h1 | h1
        · rcases List.mem_append.1 hb with hb | hb
          · exact d3 a h1 a hb rfl
          · simp at hb
            have := nr a hb; have := (hout a h1).2; omega
        · rcases List.mem_append.1 hb with hb | hb
          · have := hgl2 a hb; omega
          · simp at hb
            have := rlt a hb; omega
  · have : i = xss.length := by omega
    subst this
    simp [t0, t4, t3]
    exact ⟨(out, gs), rfl, ⟨⟨o, hgl, hin⟩, hb, hb2⟩, c, fun x hx => (hids x hx).1, hnd⟩
end Go.Proofs.Ytcigpclbhfkgaaa.V
/-! Copies of networks: the whole. -/
set_option linter.all false
namespace Go.Proofs.Ytcigpclbhfkgaaa.V
open Go Go.VM Go.Proofs
set_option maxRecDepth 10000
variable {frz : Nat} {H : Heap}
theorem copyClasses_w (v1 v2 : Value) (A B : List Int) (h1 : IsI H v1 A) (h2 : IsI H v2 B) (l1 : A.length ≤ 1073741824) (l2 : B.length ≤ 1073741824) :
   wp (vcall C frz 128 [.agg #[v1, v2]] H) (dClasses.Made H (A, B)) := by
  rw [vcall_go (fn := Try.f128) Try.func128 rfl (by kernel_rfl) rfl]
  have one := And.intro (And.intro h1.one' h1.cells) (And.intro h2.one' h2.cells)
  simp [one]
  try rw [go_draw (h := by kernel_rfl)]
  simp [one]
  refine wp_thn (copyTable_w v1 A (h1.app _) l1) ?_
  rintro _ H1 ⟨u1, rfl, o1, c1, n1, d1⟩
  have b0 : H1[H.length]? = some ⟨[v1, v2], 0, 42⟩ := box_chg (by simp) c1 (by simp)
  have bR : H1[H.length + 1]? = some ⟨[.slice none 0 0, .slice none 0 0], 0, 42⟩ := box_chg (by simp) c1 (by simp)
  have cH1 : Chg H H1 [] := (Chg.app []).trans c1
  have lc := c1.1
  simp at n1 lc
  have onu := dTable_one o1
  have lt1 := dTable.lt o1
  simp [dTable_val, VM.look, b0, one]
  refine wp_thn (copyTable_w v2 B (Rd.isI (h2.rd.chg cH1 (by simp))) l2) ?_
  rintro _ H2 ⟨u2, rfl, o2, c2, n2, d2⟩
  have bR := box_chg bR c2 (by simp)
  have o1 := Dt.chg0 (T := dTable) o1 c2
  have onu2 := dTable_one o2
  have gR := set_get (r' := ⟨[u1, u2], 0, 42⟩) bR
  have hF : H.length ≤ H.length + 1 := by omega
  have eR : Chg H2 (H2.set (H.length + 1) ⟨[u1, u2], 0, 42⟩) [H.length + 1] := chg_set _ _
  simp [dTable_val, VM.look, bR, onu, onu2, gR, hF]
  refine ⟨(u1, u2), rfl, ⟨Dt.chg (T := dTable) o1 eR (fun i hi hh => by have := n1 i hi; simp at hh; omega), Dt.chg (T := dTable) o2 eR (fun i hi hh => by have := n2 i hi; simp at hh; omega)⟩, (cH1.trans c2).trans' eR (fun i hi => .inr (by simp at hi; omega)), fun i hi => ?_, ?_⟩
  · rcases List.mem_append.1 hi with hi | hi
    · have := n1 i hi; omega
    · have := n2 i hi; omega
  · exact List.nodup_append.2 ⟨d1, d2, fun a ha b hb e => by have := lt1 a ha; have := n2 b hb; omega⟩
theorem l15Classes_w (v1 v2 : Value) (A B : List Int) (h1 : IsI H v1 A) (h2 : IsI H v2 B) (l1 : A.length ≤ 1073741824) (l2 : B.length ≤ 1073741824) :
   wp (vcall C frz 125 [.agg #[v1, v2]] H) (dClasses.Made H (A, B)) := by
  rw [vcall_go (fn := Try.f125) Try.func125 rfl (by kernel_rfl) rfl]
  have one := And.intro (And.intro h1.one' h1.cells) (And.intro h2.one' h2.cells)
  simp [one]
  try rw [go_draw (h := by kernel_rfl)]
  simp [one]
  refine wp_thn (l12Copy_w v1 A (h1.app _) l1) ?_
  rintro _ H1 ⟨u1, rfl, o1, c1, n1, d1⟩
  have b0 : H1[H.length]? = some ⟨[v1, v2], 0, 42⟩ := box_chg (by simp) c1 (by simp)
  have bR : H1[H.length + 1]? = some ⟨[.slice none 0 0, .slice none 0 0], 0, 42⟩ := box_chg (by simp) c1 (by simp)
  have cH1 : Chg H H1 [] := (Chg.app []).trans c1
  have lc := c1.1
  simp at n1 lc
  have onu := dTable_one o1
  have lt1 := dTable.lt o1
  simp [dTable_val, VM.look, b0, one]
  refine wp_thn (l12Copy_w v2 B (Rd.isI (h2.rd.chg cH1 (by simp))) l2) ?_
  rintro _ H2 ⟨u2, rfl, o2, c2, n2, d2⟩
  have bR := box_chg bR c2 (by simp)
  have o1 := Dt.chg0 (T := dTable) o1 c2
  have onu2 := dTable_one o2
  have gR := set_get (r' := ⟨[u1, u2], 0, 42⟩) bR
  have hF : H.length ≤ H.length + 1 := by omega
  have eR : Chg H2 (H2.set (H.length + 1) ⟨[u1, u2], 0, 42⟩) [H.length + 1] := chg_set _ _
  simp [dTable_val, VM.look, bR, onu, onu2, gR, hF]
  refine ⟨(u1, u2), rfl, ⟨Dt.chg (T := dTable) o1 eR (fun i hi hh => by have := n1 i hi; simp at hh; omega), Dt.chg (T := dTable) o2 eR (fun i hi hh => by have := n2 i hi; simp at hh; omega)⟩, (cH1.trans c2).trans' eR (fun i hi => .inr (by simp at hi; omega)), fun i hi => ?_, ?_⟩
  · rcases List.mem_append.1 hi with hi | hi
    · have := n1 i hi; omega
    · have := n2 i hi; omega
  · exact List.nodup_append.2 ⟨d1, d2, fun a ha b hb e => by have := lt1 a ha; have := n2 b hb; omega⟩
theorem copyNet_d {v : NetV} {x : NetD} (o : dNet.Ow H v x) : wp (vcall C frz 81 [dNet.val v x] H) (dNet.Made H x) := by
  have ones := dNet_one o
  obtain ⟨u2, ⟨u3, u4⟩, ⟨u5, h5⟩, u6, u7, ⟨u8, h8⟩, ⟨u9, h9⟩, _⟩ := v
  obtain ⟨⟨w, h, b⟩, ⟨A, B⟩, buf, own, turn, src, arr, tm⟩ := x
  obtain ⟨y1, y2, y3, y4, y5, y6, y7, _⟩ := o
  simp only at y1 y2 y3 y4 y5 y6 y7 ones
  rw [dNet_val]
  rw [vcall_go (fn := Try.f81) Try.func81 rfl (by kernel_rfl) rfl]
  have hF : H.length ≤ H.length + 1 := by omega
  simp [ones]
  rw [go_drawE (h := ⟨by kernel_rfl, by kernel_rfl⟩)]
  obtain ⟨G0, hG0⟩ : ∃ G, G = H ++ [⟨[.int .i64 w, .int .i64 h, u2, u3, u4, u5, u6, u7, u8, u9, .int .i64 tm], 0, 59⟩, ⟨[.int .i64 0, .int .i64 0, .slice none 0 0, .slice none 0 0, .slice none 0 0, .slice none 0 0, .slice none 0 0, .slice none 0 0, .slice none 0 0, .slice none 0 0, .int .i64 0], 0, 59⟩] := ⟨_, rfl⟩
  have b0 : G0[H.length]? = some ⟨[.int .i64 w, .int .i64 h, u2, u3, u4, u5, u6, u7, u8, u9, .int .i64 tm], 0, 59⟩ := by rw [hG0]; simp
  have bR : G0[H.length + 1]? = some ⟨[.int .i64 0, .int .i64 0, .slice none 0 0, .slice none 0 0, .slice none 0 0, .slice none 0 0, .slice none 0 0, .slice none 0 0, .slice none 0 0, .slice none 0 0, .int .i64 0], 0, 59⟩ := by rw [hG0]; simp
  have cH : Chg H G0 [] := by rw [hG0]; exact Chg.app []
  have lH : H.length + 2 ≤ G0.length := by rw [hG0]; simp
  rw [← hG0]
  clear hG0
  have z1 : dMesh.Ow G0 u2 (w, h, b) := Dt.chg0 y1 cH
  have z2 : dClasses.Ow G0 (u3, u4) (A, B) := Dt.chg0 y2 cH
  have z3 : dSS.Ow G0 (u5, h5) buf := Dt.chg0 y3 cH
  have z4 : dIntS.Ow G0 u6 own := Dt.chg0 y4 cH
  have z5 : dIntS.Ow G0 u7 turn := Dt.chg0 y5 cH
  have z6 : dSS.Ow G0 (u8, h8) src := Dt.chg0 y6 cH
  have z7 : dSS.Ow G0 (u9, h9) arr := Dt.chg0 y7 cH
  clear y1 y2 y3 y4 y5 y6 y7
  simp [emps, empOp, empB, VM.look, b0, ones]
  refine wp_thn (copyMesh_w w h u2 b z1.1.rd.isI z1.2) ?_
  rintro _ G1 ⟨n1, rfl, o1, c1, m1, d1⟩
  have q1 := dMesh_one o1
  have lt1 := dMesh.lt o1
  have lc1 := c1.1
  have b0 := box_chg b0 c1 (by simp)
  have bR := box_chg bR c1 (by simp)
  have cH := cH.trans c1
  have z2 := Dt.chg0 (T := dClasses) z2 c1
  have z3 := Dt.chg0 (T := dSS) z3 c1
  have z4 := Dt.chg0 (T := dIntS) z4 c1
  have z5 := Dt.chg0 (T := dIntS) z5 c1
  have z6 := Dt.chg0 (T := dSS) z6 c1
  have z7 := Dt.chg0 (T := dSS) z7 c1
  try simp [-vappend_nil, dMesh_val, VM.look, b0, ones]
  refine wp_thn (copyClasses_w u3 u4 A B z2.1.1.rd.isI z2.2.1.rd.isI z2.1.2 z2.2.2) ?_
  rintro _ G2 ⟨n2, rfl, o2, c2, m2, d2⟩
  have q2 := dClasses_one o2
  have lt2 := dClasses.lt o2
  have lc2 := c2.1
  have b0 := box_chg b0 c2 (by simp)
  have bR := box_chg bR c2 (by simp)
  have cH := cH.trans c2
  have z3 := Dt.chg0 (T := dSS) z3 c2
  have z4 := Dt.chg0 (T := dIntS) z4 c2
  have z5 := Dt.chg0 (T := dIntS) z5 c2
  have z6 := Dt.chg0 (T := dSS) z6 c2
  have z7 := Dt.chg0 (T := dSS) z7 c2
  have o1 := Dt.chg0 (T := dMesh) o1 c2
  try simp [-vappend_nil, dClasses_val, VM.look, b0, ones]
  refine wp_thn (copyLists_w u5 h5 buf z3.1.rd z3.2.1 z3.2.2) ?_
  rintro _ G3 ⟨n3, rfl, o3, c3, m3, d3⟩
  have q3 := dSS_one o3
  have lt3 := dSS.lt o3
  have lc3 := c3.1
  have b0 := box_chg b0 c3 (by simp)
  have bR := box_chg bR c3 (by simp)
  have cH := cH.trans c3
  have z4 := Dt.chg0 (T := dIntS) z4 c3
  have z5 := Dt.chg0 (T := dIntS) z5 c3
  have z6 := Dt.chg0 (T := dSS) z6 c3
  have z7 := Dt.chg0 (T := dSS) z7 c3
  have o1 := Dt.chg0 (T := dMesh) o1 c3
  have o2 := Dt.chg0 (T := dClasses) o2 c3
  try simp [-vappend_nil, show dSS.val n3 buf = n3.1 from rfl, VM.look, b0, ones]
  obtain ⟨n4, L4, hap4, o4, m4⟩ := copy_ints (frz := H.length) u6 own z4.1.rd z4.2
  have c4 : Chg G3 (G3 ++ L4) [] := Chg.app _
  have d4 := ids_nodup n4
  have q4 := dIntS_one o4
  simp [-vappend_nil, hap4, VM.look]
  generalize G3 ++ L4 = G4 at *
  have lt4 := dIntS.lt o4
  have lc4 := c4.1
  have b0 := box_chg b0 c4 (by simp)
  have bR := box_chg bR c4 (by simp)
  have cH := cH.trans c4
  have z5 := Dt.chg0 (T := dIntS) z5 c4
  have z6 := Dt.chg0 (T := dSS) z6 c4
  have z7 := Dt.chg0 (T := dSS) z7 c4
  have o1 := Dt.chg0 (T := dMesh) o1 c4
  have o2 := Dt.chg0 (T := dClasses) o2 c4
  have o3 := Dt.chg0 (T := dSS) o3 c4
  try simp [-vappend_nil, VM.look, b0, ones]
  obtain ⟨n5, L5, hap5, o5, m5⟩ := copy_ints (frz := H.length) u7 turn z5.1.rd z5.2
  have c5 : Chg G4 (G4 ++ L5) [] := Chg.app _
  have d5 := ids_nodup n5
  have q5 := dIntS_one o5
  simp [-vappend_nil, hap5, VM.look]
  generalize G4 ++ L5 = G5 at *
  have lt5 := dIntS.lt o5
  have lc5 := c5.1
  have b0 := box_chg b0 c5 (by simp)
  have bR := box_chg bR c5 (by simp)
  have cH := cH.trans c5
  have z6 := Dt.chg0 (T := dSS) z6 c5
  have z7 := Dt.chg0 (T := dSS) z7 c5
  have o1 := Dt.chg0 (T := dMesh) o1 c5
  have o2 := Dt.chg0 (T := dClasses) o2 c5
  have o3 := Dt.chg0 (T := dSS) o3 c5
  have o4 := Dt.chg0 (T := dIntS) o4 c5
  try simp [-vappend_nil, VM.look, b0, ones]
  refine wp_thn (copyLists_w u8 h8 src z6.1.rd z6.2.1 z6.2.2) ?_
  rintro _ G6 ⟨n6, rfl, o6, c6, m6, d6⟩
  have q6 := dSS_one o6
  have lt6 := dSS.lt o6
  have lc6 := c6.1
  have b0 := box_chg b0 c6 (by simp)
  have bR := box_chg bR c6 (by simp)
  have cH := cH.trans c6
  have z7 := Dt.chg0 (T := dSS) z7 c6
  have o1 := Dt.chg0 (T := dMesh) o1 c6
  have o2 := Dt.chg0 (T := dClasses) o2 c6
  have o3 := Dt.chg0 (T := dSS) o3 c6
  have o4 := Dt.chg0 (T := dIntS) o4 c6
  have o5 := Dt.chg0 (T := dIntS) o5 c6
  try simp [-vappend_nil, show dSS.val n6 src = n6.1 from rfl, VM.look, b0, ones]
  refine wp_thn (copyLists_w u9 h9 arr z7.1.rd z7.2.1 z7.2.2) ?_
  rintro _ G7 ⟨n7, rfl, o7, c7, m7, d7⟩
  have q7 := dSS_one o7
  have lt7 := dSS.lt o7
  have lc7 := c7.1
  have b0 := box_chg b0 c7 (by simp)
  have bR := box_chg bR c7 (by simp)
  have cH := cH.trans c7
  have o1 := Dt.chg0 (T := dMesh) o1 c7
  have o2 := Dt.chg0 (T := dClasses) o2 c7
  have o3 := Dt.chg0 (T := dSS) o3 c7
  have o4 := Dt.chg0 (T := dIntS) o4 c7
  have o5 := Dt.chg0 (T := dIntS) o5 c7
  have o6 := Dt.chg0 (T := dSS) o6 c7

  have gR := set_get (r' := ⟨[.int .i64 w, .int .i64 h, n1, n2.1, n2.2, n3.1, n4, n5, n6.1, n7.1, .int .i64 tm], 0, 59⟩) bR
  have eR : Chg G7 (G7.set (H.length + 1) ⟨[.int .i64 w, .int .i64 h, n1, n2.1, n2.2, n3.1, n4, n5, n6.1, n7.1, .int .i64 tm], 0, 59⟩) [H.length + 1] := chg_set _ _
  have o1 := Dt.chg (T := dMesh) o1 eR (fun i hi hh => by have := m1 i hi; simp at hh; omega)
  have o2 := Dt.chg (T := dClasses) o2 eR (fun i hi hh => by have := m2 i hi; simp at hh; omega)
  have o3 := Dt.chg (T := dSS) o3 eR (fun i hi hh => by have := m3 i hi; simp at hh; omega)
  have o4 := Dt.chg (T := dIntS) o4 eR (fun i hi hh => by have := m4 i hi; simp at hh; omega)
  have o5 := Dt.chg (T := dIntS) o5 eR (fun i hi hh => by have := m5 i hi; simp at hh; omega)
  have o6 := Dt.chg (T := dSS) o6 eR (fun i hi hh => by have := m6 i hi; simp at hh; omega)
  have o7 := Dt.chg (T := dSS) o7 eR (fun i hi hh => by have := m7 i hi; simp at hh; omega)
  have cH := cH.trans' eR (fun i hi => .inr (by simp at hi; omega))
  simp [show dSS.val n7 arr = n7.1 from rfl, VM.look, b0, bR, gR, hF, q1, q2, q3, q4, q5, q6, q7]
  refine ⟨(n1, n2, n3, n4, n5, n6, n7, ()), rfl, ⟨o1, o2, o3, o4, o5, o6, o7, trivial⟩, cH, fun i hi => ?_, ?_⟩
  · rcases List.mem_append.1 hi with hi | hi
    · have := m1 i hi; omega
    rcases List.mem_append.1 hi with hi | hi
    · have := m2 i hi; omega
    rcases List.mem_append.1 hi with hi | hi
    · have := m3 i hi; omega
    rcases List.mem_append.1 hi with hi | hi
    · have := m4 i hi; omega
    rcases List.mem_append.1 hi with hi | hi
    · have := m5 i hi; omega
    rcases List.mem_append.1 hi with hi | hi
    · have := m6 i hi; omega
    rcases List.mem_append.1 hi with hi | hi
    · have := m7 i hi; omega
    · simp [dNone] at hi
  · have z7 : (dSS.ids n7 ++ []).Nodup ∧ ∀ i ∈ dSS.ids n7 ++ [], G6.length ≤ i := ⟨by simpa using d7, fun i hi => by simp at hi; have := m7 i hi; omega⟩
    have z6 : (dSS.ids n6 ++ (dSS.ids n7 ++ [])).Nodup ∧ ∀ i ∈ dSS.ids n6 ++ (dSS.ids n7 ++ []), G5.length ≤ i := ⟨nd_app d6 z7.1 lt6 z7.2, fun i hi => by rcases List.mem_append.1 hi with hi | hi; (have := m6 i hi; omega); (have := z7.2 i hi; omega)⟩
    have z5 : (dIntS.ids n5 ++ (dSS.ids n6 ++ (dSS.ids n7 ++ []))).Nodup ∧ ∀ i ∈ dIntS.ids n5 ++ (dSS.ids n6 ++ (dSS.ids n7 ++ [])), G4.length ≤ i := ⟨nd_app d5 z6.1 lt5 z6.2, fun i hi => by rcases List.mem_append.1 hi with hi | hi; (have := m5 i hi; omega); (have := z6.2 i hi; omega)⟩
    have z4 : (dIntS.ids n4 ++ (dIntS.ids n5 ++ (dSS.ids n6 ++ (dSS.ids n7 ++ [])))).Nodup ∧ ∀ i ∈ dIntS.ids n4 ++ (dIntS.ids n5 ++ (dSS.ids n6 ++ (dSS.ids n7 ++ []))), G3.length ≤ i := ⟨nd_app d4 z5.1 lt4 z5.2, fun i hi => by rcases List.mem_append.1 hi with hi | hi; (have := m4 i hi; omega); (have := z5.2 i hi; omega)⟩
    have z3 : (dSS.ids n3 ++ (dIntS.ids n4 ++ (dIntS.ids n5 ++ (dSS.ids n6 ++ (dSS.ids n7 ++ []))))).Nodup ∧ ∀ i ∈ dSS.ids n3 ++ (dIntS.ids n4 ++ (dIntS.ids n5 ++ (dSS.ids n6 ++ (dSS.ids n7 ++ [])))), G2.length ≤ i := ⟨nd_app d3 z4.1 lt3 z4.2, fun i hi => by rcases List.mem_append.1 hi with hi | hi; (have := m3 i hi; omega); (have := z4.2 i hi; omega)⟩
    have z2 : (dClasses.ids n2 ++ (dSS.ids n3 ++ (dIntS.ids n4 ++ (dIntS.ids n5 ++ (dSS.ids n6 ++ (dSS.ids n7 ++ [])))))).Nodup ∧ ∀ i ∈ dClasses.ids n2 ++ (dSS.ids n3 ++ (dIntS.ids n4 ++ (dIntS.ids n5 ++ (dSS.ids n6 ++ (dSS.ids n7 ++ []))))), G1.length ≤ i := ⟨nd_app d2 z3.1 lt2 z3.2, fun i hi => by rcases List.mem_append.1 hi with hi | hi; (have := m2 i hi; omega); (have := z3.2 i hi; omega)⟩
    exact nd_app d1 z2.1 lt1 z2.2
theorem l15Copy_d {v : NetV} {x : NetD} (o : dNet.Ow H v x) : wp (vcall C frz 78 [dNet.val v x] H) (dNet.Made H x) := by
  have ones := dNet_one o
  obtain ⟨u2, ⟨u3, u4⟩, ⟨u5, h5⟩, u6, u7, ⟨u8, h8⟩, ⟨u9, h9⟩, _⟩ := v
  obtain ⟨⟨w, h, b⟩, ⟨A, B⟩, buf, own, turn, src, arr, tm⟩ := x
  obtain ⟨y1, y2, y3, y4, y5, y6, y7, _⟩ := o
  simp only at y1 y2 y3 y4 y5 y6 y7 ones
  rw [dNet_val]
  rw [vcall_go (fn := Try.f78) Try.func78 rfl (by kernel_rfl) rfl]
  have hF : H.length ≤ H.length + 1 := by omega
  simp [ones]
  rw [go_drawE (h := ⟨by kernel_rfl, by kernel_rfl⟩)]
  obtain ⟨G0, hG0⟩ : ∃ G, G = H ++ [⟨[.int .i64 w, .int .i64 h, u2, u3, u4, u5, u6, u7, u8, u9, .int .i64 tm], 0, 59⟩, ⟨[.int .i64 0, .int .i64 0, .slice none 0 0, .slice none 0 0, .slice none 0 0, .slice none 0 0, .slice none 0 0, .slice none 0 0, .slice none 0 0, .slice none 0 0, .int .i64 0], 0, 59⟩] := ⟨_, rfl⟩
  have b0 : G0[H.length]? = some ⟨[.int .i64 w, .int .i64 h, u2, u3, u4, u5, u6, u7, u8, u9, .int .i64 tm], 0, 59⟩ := by rw [hG0]; simp
  have bR : G0[H.length + 1]? = some ⟨[.int .i64 0, .int .i64 0, .slice none 0 0, .slice none 0 0, .slice none 0 0, .slice none 0 0, .slice none 0 0, .slice none 0 0, .slice none 0 0, .slice none 0 0, .int .i64 0], 0, 59⟩ := by rw [hG0]; simp
  have cH : Chg H G0 [] := by rw [hG0]; exact Chg.app []
  have lH : H.length + 2 ≤ G0.length := by rw [hG0]; simp
  rw [← hG0]
  clear hG0
  have z1 : dMesh.Ow G0 u2 (w, h, b) := Dt.chg0 y1 cH
  have z2 : dClasses.Ow G0 (u3, u4) (A, B) := Dt.chg0 y2 cH
  have z3 : dSS.Ow G0 (u5, h5) buf := Dt.chg0 y3 cH
  have z4 : dIntS.Ow G0 u6 own := Dt.chg0 y4 cH
  have z5 : dIntS.Ow G0 u7 turn := Dt.chg0 y5 cH
  have z6 : dSS.Ow G0 (u8, h8) src := Dt.chg0 y6 cH
  have z7 : dSS.Ow G0 (u9, h9) arr := Dt.chg0 y7 cH
  clear y1 y2 y3 y4 y5 y6 y7
  simp [emps, empOp, empB, VM.look, b0, ones]
  refine wp_thn (l15Mesh_w w h u2 b z1.1.rd.isI z1.2) ?_
  rintro _ G1 ⟨n1, rfl, o1, c1, m1, d1⟩
  have q1 := dMesh_one o1
  have lt1 := dMesh.lt o1
  have lc1 := c1.1
  have b0 := box_chg b0 c1 (by simp)
  have bR := box_chg bR c1 (by simp)
  have cH := cH.trans c1
  have z2 := Dt.chg0 (T := dClasses) z2 c1
  have z3 := Dt.chg0 (T := dSS) z3 c1
  have z4 := Dt.chg0 (T := dIntS) z4 c1
  have z5 := Dt.chg0 (T := dIntS) z5 c1
  have z6 := Dt.chg0 (T := dSS) z6 c1
  have z7 := Dt.chg0 (T := dSS) z7 c1
  try simp [-vappend_nil, dMesh_val, VM.look, b0, ones]
  refine wp_thn (l15Classes_w u3 u4 A B z2.1.1.rd.isI z2.2.1.rd.isI z2.1.2 z2.2.2) ?_
  rintro _ G2 ⟨n2, rfl, o2, c2, m2, d2⟩
  have q2 := dClasses_one o2
  have lt2 := dClasses.lt o2
  have lc2 := c2.1
  have b0 := box_chg b0 c2 (by simp)
  have bR := box_chg bR c2 (by simp)
  have cH := cH.trans c2
  have z3 := Dt.chg0 (T := dSS) z3 c2
  have z4 := Dt.chg0 (T := dIntS) z4 c2
  have z5 := Dt.chg0 (T := dIntS) z5 c2
  have z6 := Dt.chg0 (T := dSS) z6 c2
  have z7 := Dt.chg0 (T := dSS) z7 c2
  have o1 := Dt.chg0 (T := dMesh) o1 c2
  try simp [-vappend_nil, dClasses_val, VM.look, b0, ones]
  refine wp_thn (l15Lists_w u5 h5 buf z3.1.rd z3.2.1 z3.2.2) ?_
  rintro _ G3 ⟨n3, rfl, o3, c3, m3, d3⟩
  have q3 := dSS_one o3
  have lt3 := dSS.lt o3
  have lc3 := c3.1
  have b0 := box_chg b0 c3 (by simp)
  have bR := box_chg bR c3 (by simp)
  have cH := cH.trans c3
  have z4 := Dt.chg0 (T := dIntS) z4 c3
  have z5 := Dt.chg0 (T := dIntS) z5 c3
  have z6 := Dt.chg0 (T := dSS) z6 c3
  have z7 := Dt.chg0 (T := dSS) z7 c3
  have o1 := Dt.chg0 (T := dMesh) o1 c3
  have o2 := Dt.chg0 (T := dClasses) o2 c3
  try simp [-vappend_nil, show dSS.val n3 buf = n3.1 from rfl, VM.look, b0, ones]
  obtain ⟨n4, L4, hap4, o4, m4⟩ := copy_ints (frz := H.length) u6 own z4.1.rd z4.2
  have c4 : Chg G3 (G3 ++ L4) [] := Chg.app _
  have d4 := ids_nodup n4
  have q4 := dIntS_one o4
  simp [-vappend_nil, hap4, VM.look]
  generalize G3 ++ L4 = G4 at *
  have lt4 := dIntS.lt o4
  have lc4 := c4.1
  have b0 := box_chg b0 c4 (by simp)
  have bR := box_chg bR c4 (by simp)
  have cH := cH.trans c4
  have z5 := Dt.chg0 (T := dIntS) z5 c4
  have z6 := Dt.chg0 (T := dSS) z6 c4
  have z7 := Dt.chg0 (T := dSS) z7 c4
  have o1 := Dt.chg0 (T := dMesh) o1 c4
  have o2 := Dt.chg0 (T := dClasses) o2 c4
  have o3 := Dt.chg0 (T := dSS) o3 c4
  try simp [-vappend_nil, VM.look, b0, ones]
  obtain ⟨n5, L5, hap5, o5, m5⟩ := copy_ints (frz := H.length) u7 turn z5.1.rd z5.2
  have c5 : Chg G4 (G4 ++ L5) [] := Chg.app _
  have d5 := ids_nodup n5
  have q5 := dIntS_one o5
  simp [-vappend_nil, hap5, VM.look]
  generalize G4 ++ L5 = G5 at *
  have lt5 := dIntS.lt o5
  have lc5 := c5.1
  have b0 := box_chg b0 c5 (by simp)
  have bR := box_chg bR c5 (by simp)
  have cH := cH.trans c5
  have z6 := Dt.chg0 (T := dSS) z6 c5
  have z7 := Dt.chg0 (T := dSS) z7 c5
  have o1 := Dt.chg0 (T := dMesh) o1 c5
  have o2 := Dt.chg0 (T := dClasses) o2 c5
  have o3 := Dt.chg0 (T := dSS) o3 c5
  have o4 := Dt.chg0 (T := dIntS) o4 c5
  try simp [-vappend_nil, VM.look, b0, ones]
  refine wp_thn (l15Lists_w u8 h8 src z6.1.rd z6.2.1 z6.2.2) ?_
  rintro _ G6 ⟨n6, rfl, o6, c6, m6, d6⟩
  have q6 := dSS_one o6
  have lt6 := dSS.lt o6
  have lc6 := c6.1
  have b0 := box_chg b0 c6 (by simp)
  have bR := box_chg bR c6 (by simp)
  have cH := cH.trans c6
  have z7 := Dt.chg0 (T := dSS) z7 c6
  have o1 := Dt.chg0 (T := dMesh) o1 c6
  have o2 := Dt.chg0 (T := dClasses) o2 c6
  have o3 := Dt.chg0 (T := dSS) o3 c6
  have o4 := Dt.chg0 (T := dIntS) o4 c6
  have o5 := Dt.chg0 (T := dIntS) o5 c6
  try simp [-vappend_nil, show dSS.val n6 src = n6.1 from rfl, VM.look, b0, ones]
  refine wp_thn (l15Lists_w u9 h9 arr z7.1.rd z7.2.1 z7.2.2) ?_
  rintro _ G7 ⟨n7, rfl, o7, c7, m7, d7⟩
  have q7 := dSS_one o7
  have lt7 := dSS.lt o7
  have lc7 := c7.1
  have b0 := box_chg b0 c7 (by simp)
  have bR := box_chg bR c7 (by simp)
  have cH := cH.trans c7
  have o1 := Dt.chg0 (T := dMesh) o1 c7
  have o2 := Dt.chg0 (T := dClasses) o2 c7
  have o3 := Dt.chg0 (T := dSS) o3 c7
  have o4 := Dt.chg0 (T := dIntS) o4 c7
  have o5 := Dt.chg0 (T := dIntS) o5 c7
  have o6 := Dt.chg0 (T := dSS) o6 c7

  have gR := set_get (r' := ⟨[.int .i64 w, .int .i64 h, n1, n2.1, n2.2, n3.1, n4, n5, n6.1, n7.1, .int .i64 tm], 0, 59⟩) bR
  have eR : Chg G7 (G7.set (H.length + 1) ⟨[.int .i64 w, .int .i64 h, n1, n2.1, n2.2, n3.1, n4, n5, n6.1, n7.1, .int .i64 tm], 0, 59⟩) [H.length + 1] := chg_set _ _
  have o1 := Dt.chg (T := dMesh) o1 eR (fun i hi hh => by have := m1 i hi; simp at hh; omega)
  have o2 := Dt.chg (T := dClasses) o2 eR (fun i hi hh => by have := m2 i hi; simp at hh; omega)
  have o3 := Dt.chg (T := dSS) o3 eR (fun i hi hh => by have := m3 i hi; simp at hh; omega)
  have o4 := Dt.chg (T := dIntS) o4 eR (fun i hi hh => by have := m4 i hi; simp at hh; omega)
  have o5 := Dt.chg (T := dIntS) o5 eR (fun i hi hh => by have := m5 i hi; simp at hh; omega)
  have o6 := Dt.chg (T := dSS) o6 eR (fun i hi hh => by have := m6 i hi; simp at hh; omega)
  have o7 := Dt.chg (T := dSS) o7 eR (fun i hi hh => by have := m7 i hi; simp at hh; omega)
  have cH := cH.trans' eR (fun i hi => .inr (by simp at hi; omega))
  simp [show dSS.val n7 arr = n7.1 from rfl, VM.look, b0, bR, gR, hF, q1, q2, q3, q4, q5, q6, q7]
  refine ⟨(n1, n2, n3, n4, n5, n6, n7, ()), rfl, ⟨o1, o2, o3, o4, o5, o6, o7, trivial⟩, cH, fun i hi => ?_, ?_⟩
  · rcases List.mem_append.1 hi with hi | hi
    · have := m1 i hi; omega
    rcases List.mem_append.1 hi with hi | hi
    · have := m2 i hi; omega
    rcases List.mem_append.1 hi with hi | hi
    · have := m3 i hi; omega
    rcases List.mem_append.1 hi with hi | hi
    · have := m4 i hi; omega
    rcases List.mem_append.1 hi with hi | hi
    · have := m5 i hi; omega
    rcases List.mem_append.1 hi with hi | hi
    · have := m6 i hi; omega
    rcases List.mem_append.1 hi with hi | hi
    · have := m7 i hi; omega
    · simp [dNone] at hi
  · have z7 : (dSS.ids n7 ++ []).Nodup ∧ ∀ i ∈ dSS.ids n7 ++ [], G6.length ≤ i := ⟨by simpa using d7, fun i hi => by simp at hi; have := m7 i hi; omega⟩
    have z6 : (dSS.ids n6 ++ (dSS.ids n7 ++ [])).Nodup ∧ ∀ i ∈ dSS.ids n6 ++ (dSS.ids n7 ++ []), G5.length ≤ i := ⟨nd_app d6 z7.1 lt6 z7.2, fun i hi => by rcases List.mem_append.1 hi with hi | hi; (have := m6 i hi; omega); (have := z7.2 i hi; omega)⟩
    have z5 : (dIntS.ids n5 ++ (dSS.ids n6 ++ (dSS.ids n7 ++ []))).Nodup ∧ ∀ i ∈ dIntS.ids n5 ++ (dSS.ids n6 ++ (dSS.ids n7 ++ [])), G4.length ≤ i := ⟨nd_app d5 z6.1 lt5 z6.2, fun i hi => by rcases List.mem_append.1 hi with hi | hi; (have := m5 i hi; omega); (have := z6.2 i hi; omega)⟩
    have z4 : (dIntS.ids n4 ++ (dIntS.ids n5 ++ (dSS.ids n6 ++ (dSS.ids n7 ++ [])))).Nodup ∧ ∀ i ∈ dIntS.ids n4 ++ (dIntS.ids n5 ++ (dSS.ids n6 ++ (dSS.ids n7 ++ []))), G3.length ≤ i := ⟨nd_app d4 z5.1 lt4 z5.2, fun i hi => by rcases List.mem_append.1 hi with hi | hi; (have := m4 i hi; omega); (have := z5.2 i hi; omega)⟩
    have z3 : (dSS.ids n3 ++ (dIntS.ids n4 ++ (dIntS.ids n5 ++ (dSS.ids n6 ++ (dSS.ids n7 ++ []))))).Nodup ∧ ∀ i ∈ dSS.ids n3 ++ (dIntS.ids n4 ++ (dIntS.ids n5 ++ (dSS.ids n6 ++ (dSS.ids n7 ++ [])))), G2.length ≤ i := ⟨nd_app d3 z4.1 lt3 z4.2, fun i hi => by rcases List.mem_append.1 hi with hi | hi; (have := m3 i hi; omega); (have := z4.2 i hi; omega)⟩
    have z2 : (dClasses.ids n2 ++ (dSS.ids n3 ++ (dIntS.ids n4 ++ (dIntS.ids n5 ++ (dSS.ids n6 ++ (dSS.ids n7 ++ [])))))).Nodup ∧ ∀ i ∈ dClasses.ids n2 ++ (dSS.ids n3 ++ (dIntS.ids n4 ++ (dIntS.ids n5 ++ (dSS.ids n6 ++ (dSS.ids n7 ++ []))))), G1.length ≤ i := ⟨nd_app d2 z3.1 lt2 z3.2, fun i hi => by rcases List.mem_append.1 hi with hi | hi; (have := m2 i hi; omega); (have := z3.2 i hi; omega)⟩
    exact nd_app d1 z2.1 lt1 z2.2
end Go.Proofs.Ytcigpclbhfkgaaa.V
/-! Tables: the walks. -/
set_option linter.all false
namespace Go.Proofs.Ytcigpclbhfkgaaa.V
open Go Go.VM Go.Proofs
set_option maxRecDepth 10000
variable {frz : Nat} {H : Heap}
theorem sWalk_c (w h : Int) (v u : Value) (b T : List Int) (a to : Int) (hI : IsI H v b) (hT : IsI H u T) (hl : b.length ≤ 1073741824) (hz : tsized w h b T) (ha : isN w h a) (hto : isN w h to) :
   vcall C frz 160 [.agg #[.int .i64 w, .int .i64 h, v], .agg #[u], .int .i64 a, .int .i64 to] H =
    some (.slice (some ⟨H.length, 0, some 0⟩) (walk w h b T a to).length 0, H ++ [⟨(walk w h b T a to).map (.int .i64), 0, 3⟩]) := by
  rw [vcall_go (fn := Try.f160) Try.func160 rfl (by kernel_rfl) rfl]
  simp [hI.one', hI.cells, hT.one', hT.cells, sNodeCount_c]
  have hc := cnt_range w h
  refine go_inv (fun n t H' => ∃ (o : List Int) (g : Nat) (x : Int) (G : Heap), n = (cnt w h).toNat + 1 - o.length ∧ t 3 = .int .i64 to ∧ t 4 = .pointer (some ⟨H.length, 0, some 0⟩) ∧ t 5 = .pointer (some ⟨H.length + 1, 0, some 0⟩) ∧
    t 9 = .slice (some ⟨H.length + 2, 0, some g⟩) o.length 0 ∧ t 10 = .int .i64 (cnt w h) ∧ t 11 = .int .i64 x ∧
    H' = H ++ ⟨[.int .i64 w, .int .i64 h, v], 0, 38⟩ :: ⟨[u], 0, 40⟩ :: ⟨o.map (.int .i64), g, 3⟩ :: G ∧
    ((o.length ≤ (cnt w h).toNat ∧ isN w h x ∧ walkN w h b T to ((cnt w h).toNat - o.length) x o = walk w h b T a to) ∨ (o.length = (cnt w h).toNat + 1 ∧ walk w h b T a to = []))) ?_
    (n := (cnt w h).toNat + 1) ⟨[], 0, a, [], by simp [ha, walk]⟩
  rintro n t H' ⟨o, g, x, G, rfl, h3, h4, h5, h9, h10, h11, rfl, ho⟩ ih
  simp [h3, h4, h5, h9, h10, h11]
  refine br_dec _ ?_ ?_ <;> intro hn
  · obtain ⟨ho1, hx, hw⟩ : o.length ≤ (cnt w h).toNat ∧ isN w h x ∧ walkN w h b T to ((cnt w h).toNat - o.length) x o = walk w h b T a to := by
      rcases ho with ho | ho
      · exact ho
      · omega
    obtain ⟨k0, k1, k2, k3⟩ := at_small hx hto
    have hTl := hz.2
    have e1 : IntKind.i64.wrap (x * cnt w h) = x * cnt w h := w64 (by omega) (by omega)
    have e2 : IntKind.i64.wrap (x * cnt w h + to) = x * cnt w h + to := w64 (by omega) (by have := hto.2; omega)
    have q1 : ∀ L, vindexAddr Try.prog (H ++ L) 24 u (.int .i64 (x * cnt w h + to)) = some (elp u (x * cnt w h + to).toNat) := fun L => hT.idxA (e := 3) (by simp) k0 (by omega)
    have q2 : ∀ L, vload Try.prog (H ++ L) 3 (elp u (x * cnt w h + to).toNat) = some (.int .i64 (portOf w h T x to)) := fun L => hT.loadA (by simp) (by omega)
    simp [h3, h4, h5, h9, h10, h11, e1, e2, q1, q2]
    refine br_dec _ ?_ ?_ <;> intro hp
    · have hw' : walk w h b T a to = if x = to then o else [] := by
        rw [← hw]; cases (cnt w h).toNat - o.length <;> simp [walkN, hp]
      simp [h3, h4, h5, h9, h10, h11, hp]
      refine br_dec _ ?_ ?_ <;> intro hq
      · simp [h3, h4, h5, h9, h10, h11, hq] at hw' ⊢
        simp [hw']
      · simp [h3, h4, h5, h9, h10, h11, hq] at hw' ⊢
        simp [hw']
    · simp [h3, h4, h5, h9, h10, h11, hp]
      have hw0 : ¬ stepOk w h b T x to → walk w h b T a to = [] := fun hh => by
        rw [← hw]; cases (cnt w h).toNat - o.length <;> simp [walkN, hp, hh]
      have e3 : IntKind.i64.wrap (4 * x) = 4 * x := w64 (by have := hx.1; omega) (by have := hx.2; omega)
      simp [l01In_c]
      refine gd_dec _ _ ?_ ?_ <;> intro hr
      · have e4 : IntKind.i64.wrap (4 * x + portOf w h T x to) = 4 * x + portOf w h T x to := w64 (by have := hx.1; have := hr.1; omega) (by have := hx.2; have := hr.2; omega)
        simp [h3, h4, h5, h9, h10, h11, hp, hr, e3, e4, l03Has_c _ _ _ _ _ (hI.app _) hl, hI.one', hI.cells]
        refine br_dec _ ?_ ?_ <;> intro hh
        · simp [h3, h4, h5, h9, h10, h11, hp, hr, hh, e3, e4, sNextNode_c, hI.one', hI.cells]
          obtain ⟨s1, s2, s3⟩ := step_next hr hh
          refine vneed_eq (by omega) ?_
          refine ih ((cnt w h).toNat + 1 - (o.length + 1)) _ _ ⟨o ++ [4 * x + portOf w h T x to], g + 1, next w h x (portOf w h T x to), _, by simp, by simp [h3], by simp [h4], by simp [h5], by simp, by simp [h10], by simp, by simp; rfl, ?_⟩ (by omega)
          by_cases hlt : o.length < (cnt w h).toNat
          · refine .inl ⟨by simp; omega, s3, ?_⟩
            rw [show (cnt w h).toNat - o.length = ((cnt w h).toNat - (o ++ [4 * x + portOf w h T x to]).length) + 1 by simp; omega] at hw
            rw [← hw, walkN, if_neg hp, if_pos ⟨hr, hh⟩]
          · refine .inr ⟨by simp; omega, ?_⟩
            rw [show (cnt w h).toNat - o.length = 0 by omega] at hw
            rw [← hw, walkN, if_neg hp]
        · have hw2 := hw0 (fun k => hh k.2)
          simp [h3, h4, h5, h9, h10, h11, hp, hr, hh, e3, e4, hw2]
      · have hw2 := hw0 (fun k => hr k.1)
        simp [h3, h4, h5, h9, h10, h11, hp, hr, hw2]
  · have hw2 : walk w h b T a to = [] := by
      rcases ho with ho | ho
      · omega
      · exact ho.2
    simp [h3, h4, h5, h9, h10, h11, hn, hw2]
end Go.Proofs.Ytcigpclbhfkgaaa.V
/-! Tables: the program's own walk. -/
set_option linter.all false
namespace Go.Proofs.Ytcigpclbhfkgaaa.V
open Go Go.VM Go.Proofs
set_option maxRecDepth 10000
variable {frz : Nat} {H : Heap}
theorem portAt_c (w h : Int) (v u : Value) (b T : List Int) (a to : Int) (hI : IsI H v b) (hT : IsI H u T) (hl : b.length ≤ 1073741824) (hz : tsized w h b T) (ha : isN w h a) (hto : isN w h to) :
   vcall C frz 162 [.agg #[.int .i64 w, .int .i64 h, v], .agg #[u], .int .i64 a, .int .i64 to] H =
    some (.int .i64 (if inR 0 (portOf w h T a to) 4 then portOf w h T a to else -1), H) := by
  rw [vcall_go (fn := Try.f162) Try.func162 rfl (by kernel_rfl) rfl]
  have hc := cnt_range w h
  obtain ⟨k0, k1, k2, k3⟩ := at_small ha hto
  have hTl := hz.2
  have hc2 : cnt w h * cnt w h ≤ 16 * 16 := Int.mul_le_mul hc.2 hc.2 hc.1 (by omega)
  have hc3 : 0 * 0 ≤ cnt w h * cnt w h := Int.mul_le_mul hc.1 hc.1 (by omega) hc.1
  have e0 : IntKind.i64.wrap (cnt w h * cnt w h) = cnt w h * cnt w h := w64 (by omega) (by omega)
  have e1 : IntKind.i64.wrap (a * cnt w h) = a * cnt w h := w64 (by omega) (by omega)
  have e2 : IntKind.i64.wrap (a * cnt w h + to) = a * cnt w h + to := w64 (by omega) (by have := hto.2; omega)
  have q1 : ∀ L, vindexAddr Try.prog (H ++ L) 24 u (.int .i64 (a * cnt w h + to)) = some (elp u (a * cnt w h + to).toNat) := fun L => hT.idxA (e := 3) (by simp) k0 (by omega)
  have q2 : ∀ L, vload Try.prog (H ++ L) 3 (elp u (a * cnt w h + to).toNat) = some (.int .i64 (portOf w h T a to)) := fun L => hT.loadA (by simp) (by omega)
  simp [hI.one', hI.cells, hT.one', hT.cells, nodeCount_c, meshOk_c _ _ _ _ (hI.app _) hl, hz.1, inside_c, isN_inR, ha, hto, e0, e1, e2, q1, q2, hT.lenA, hTl]
  try refine br_dec _ ?_ ?_ <;> intro hr <;> simp [hr, q1, q2, e1, e2]
/-- what the program's walk gives back -/
def ret (H : Heap) (xs : List Int) : Value × Heap := if xs = [] then (.slice none 0 0, H) else (.slice (some ⟨H.length, 0, some 0⟩) xs.length 0, H ++ [⟨xs.map (.int .i64), 0, 3⟩])
theorem walk_c (w h : Int) (v u : Value) (b T : List Int) (a to : Int) (hI : IsI H v b) (hT : IsI H u T) (hl : b.length ≤ 1073741824) (hz : tsized w h b T) (ha : isN w h a) (hto : isN w h to) (hne : a ≠ to) :
   vcall C frz 111 [.agg #[.int .i64 w, .int .i64 h, v], .agg #[u], .int .i64 a, .int .i64 to] H = some (ret H (walk w h b T a to)) := by
  rw [vcall_go (fn := Try.f111) Try.func111 rfl (by kernel_rfl) rfl]
  have hc := cnt_range w h
  simp [hI.one', hI.cells, hT.one', hT.cells, nodeCount_c, meshOk_c _ _ _ _ (hI.app _) hl, hz.1, isNode_c, ha, hto, hne]
  refine go_inv (fun n t H' => ∃ (o : List Int) (g : Nat) (x : Int) (G : Heap), n = (cnt w h).toNat + 1 - o.length ∧ t 3 = .int .i64 to ∧ t 4 = .pointer (some ⟨H.length, 0, some 0⟩) ∧ t 5 = .pointer (some ⟨H.length + 1, 0, some 0⟩) ∧
    t 9 = .slice (some ⟨H.length + 2, 0, some g⟩) o.length 0 ∧ t 10 = .int .i64 x ∧
    H' = H ++ ⟨[.int .i64 w, .int .i64 h, v], 0, 38⟩ :: ⟨[u], 0, 40⟩ :: ⟨o.map (.int .i64), g, 3⟩ :: G ∧
    o.length ≤ (cnt w h).toNat ∧ isN w h x ∧ walkN w h b T to ((cnt w h).toNat - o.length) x o = walk w h b T a to ∧ (o = [] → x ≠ to)) ?_
    (n := (cnt w h).toNat + 1) ⟨[], 0, a, [], by simp [ha, walk, hne]⟩
  rintro n t H' ⟨o, g, x, G, rfl, h3, h4, h5, h9, h10, rfl, ho1, hx, hw, hox⟩ ih
  have hpa := fun F L => portAt_c (frz := F) (H := H ++ L) w h v u b T x to (hI.app _) (hT.app _) hl hz hx hto
  have hw0 : portOf w h T x to ≠ 4 → ¬ stepOk w h b T x to → walk w h b T a to = [] := fun hp hh => by
    rw [← hw]; cases (cnt w h).toNat - o.length <;> simp [walkN, hp, hh]
  simp [h3, h4, h5, h9, h10, hI.one', hI.cells, hT.one', hT.cells, hpa]
  have hnil : walk w h b T a to = [] → (Value.slice none 0 0, H) = ret H (walk w h b T a to) := fun hh => by rw [hh]; rfl
  by_cases hr : inR 0 (portOf w h T x to) 4
  · have hlt : ¬ portOf w h T x to < 0 := by have := hr.1; omega
    simp [hr, hlt]
    refine br_dec _ ?_ ?_ <;> intro hp
    · have hw' : walk w h b T a to = if x = to then o else [] := by
        rw [← hw]; cases (cnt w h).toNat - o.length <;> simp [walkN, hp]
      simp [h3, h4, h5, h9, h10, hp]
      refine br_dec _ ?_ ?_ <;> intro hq
      · have hon : o ≠ [] := fun hh => hox hh hq
        rw [if_pos hq] at hw'
        simp [h3, h4, h5, h9, h10, hq, hw', ret, hon]
      · rw [if_neg hq] at hw'
        simp [h3, h4, h5, h9, h10, hq, hw', ret]
    · have hr3 : inR 0 (portOf w h T x to) 3 := ⟨hr.1, by have := hr.2; omega⟩
      have e3 : IntKind.i64.wrap (4 * x) = 4 * x := w64 (by have := hx.1; omega) (by have := hx.2; omega)
      have e4 : IntKind.i64.wrap (4 * x + portOf w h T x to) = 4 * x + portOf w h T x to := w64 (by have := hx.1; have := hr.1; omega) (by have := hx.2; have := hr.2; omega)
      simp [h3, h4, h5, h9, h10, hp, hI.one', hI.cells, e3, e4, hasChannel_c _ _ _ _ _ (hI.app _) hl, hz.1]
      refine gd_dec _ _ ?_ ?_ <;> intro hh
      · obtain ⟨s1, s2, s3⟩ := step_next hr3 hh
        have he := fun F L => endOf_c (frz := F) (H := H ++ L) w h v b (4 * x + portOf w h T x to) (hI.app _) hh.1
        rw [s1, s2] at he
        simp [h3, h4, h5, h9, h10, hp, hh, hI.one', hI.cells, e3, e4, nodeCount_c]
        refine br_dec _ ?_ ?_ <;> intro hf
        · have hwz : walk w h b T a to = [] := by
            rw [show (cnt w h).toNat - o.length = 0 by omega] at hw
            rw [← hw, walkN, if_neg hp]
          simp [h3, h4, h5, h9, h10, hp, hh, hf, hnil hwz]
        · simp [h3, h4, h5, h9, h10, hp, hh, hf, hI.one', hI.cells, e3, e4]
          refine vneed_eq (by omega) ?_
          simp [h3, h4, h5, h9, h10, hp, hh, hf, hI.one', hI.cells, e3, e4, he]
          refine ih ((cnt w h).toNat + 1 - (o.length + 1)) _ _ ⟨o ++ [4 * x + portOf w h T x to], g + 1, next w h x (portOf w h T x to), _, by simp, by simp [h3], by simp [h4], by simp [h5], by simp, by simp, by simp; rfl, by simp; omega, s3, ?_, by simp⟩ (by omega)
          rw [show (cnt w h).toNat - o.length = ((cnt w h).toNat - (o ++ [4 * x + portOf w h T x to]).length) + 1 by simp; omega] at hw
          rw [← hw, walkN, if_neg hp, if_pos ⟨hr3, hh⟩]
      · simp [h3, h4, h5, h9, h10, hp, hh]
        exact hnil (hw0 hp (fun hs => hh hs.2))
  · simp [hr]
    refine hnil (hw0 (fun hp => hr ?_) fun hs => hr ⟨hs.1.1, by have := hs.1.2; omega⟩)
    rw [hp]; exact ⟨by omega, by omega⟩
end Go.Proofs.Ytcigpclbhfkgaaa.V
/-! Tables that are valid. -/
set_option linter.all false
namespace Go.Proofs.Ytcigpclbhfkgaaa.V
open Go Go.VM Go.Proofs
set_option maxRecDepth 10000
variable {frz : Nat} {H : Heap}
theorem sq_small (w h : Int) : IntKind.i64.wrap (cnt w h * cnt w h) = cnt w h * cnt w h := by
  have hc := cnt_range w h
  have hc2 : cnt w h * cnt w h ≤ 16 * 16 := Int.mul_le_mul hc.2 hc.2 hc.1 (by omega)
  have hc3 : 0 * 0 ≤ cnt w h * cnt w h := Int.mul_le_mul hc.1 hc.1 (by omega) hc.1
  exact w64 (by omega) (by omega)
theorem sized_c (w h : Int) (v u : Value) (b T : List Int) (hI : IsI H v b) (hT : IsI H u T) (hl : b.length ≤ 1073741824) :
   vcall C frz 173 [.agg #[.int .i64 w, .int .i64 h, v], .agg #[u]] H = some (.bool (decide (tsized w h b T)), H) := by
  rw [vcall_go (fn := Try.f173) Try.func173 rfl (by kernel_rfl) rfl]
  simp [hI.one', hI.cells, hT.one', hT.cells, sNodeCount_c, sMeshOk_c _ _ _ _ (hI.app _) hl]
  refine gd_dec _ _ ?_ ?_ <;> intro h1 <;> simp [h1, tsized, hT.lenA, sq_small, hI.one', hI.cells, hT.one', hT.cells, sNodeCount_c, -Bool.decide_and]
def good (w h : Int) (b T : List Int) (a c : Nat) : Prop := ((a : Int) = c → portOf w h T a a = 4) ∧ ((a : Int) ≠ c → walk w h b T a c ≠ [])
theorem tableOk_iff (w h : Int) (b T : List Int) : tableOk w h b T ↔ tsized w h b T ∧ ∀ a, a < (cnt w h).toNat → ∀ c, c < (cnt w h).toNat → good w h b T a c := by
  unfold tableOk good
  refine and_congr Iff.rfl ⟨fun k a ha c hc => ?_, fun k a ha c hc => ?_⟩
  · exact ⟨fun e => (k a ha c hc).1 (by omega), fun e => (k a ha c hc).2 (by omega)⟩
  · exact ⟨fun e => (k a ha c hc).1 (by omega), fun e => (k a ha c hc).2 (by omega)⟩
theorem isN_nat {w h : Int} {a : Nat} (k : a < (cnt w h).toNat) : isN w h a := ⟨by omega, by omega⟩
theorem sTableOk_c (w h : Int) (v u : Value) (b T : List Int) (hI : IsI H v b) (hT : IsI H u T) (hl : b.length ≤ 1073741824) :
   vcall C frz 130 [.agg #[.int .i64 w, .int .i64 h, v], .agg #[u]] H = some (.bool (decide (tableOk w h b T)), H) := by
  rw [vcall_go (fn := Try.f130) Try.func130 rfl (by kernel_rfl) rfl]
  simp [hI.one', hI.cells, hT.one', hT.cells, sNodeCount_c, sized_c _ _ _ _ _ _ (hI.app _) (hT.app _) hl]
  refine br_dec _ ?_ ?_ <;> intro h1
  · simp [h1, hI.one', hI.cells, hT.one', hT.cells, sNodeCount_c]
    have hc := cnt_range w h
    have no : ∀ i j : Nat, i < (cnt w h).toNat → j < (cnt w h).toNat → ¬ good w h b T i j → ¬ tableOk w h b T := fun i j hi hj hg hh => hg (((tableOk_iff w h b T).1 hh).2 i hi j hj)
    refine go_inv (fun n t H' => ∃ (i : Nat) (G : Heap), n = (cnt w h).toNat - i ∧ i ≤ (cnt w h).toNat ∧ t 2 = .pointer (some ⟨H.length, 0, some 0⟩) ∧ t 3 = .pointer (some ⟨H.length + 1, 0, some 0⟩) ∧
      t 5 = .int .i64 (cnt w h) ∧ t 6 = .int .i64 i ∧ H' = H ++ ⟨[.int .i64 w, .int .i64 h, v], 0, 38⟩ :: ⟨[u], 0, 40⟩ :: G ∧ ∀ a, a < i → ∀ c, c < (cnt w h).toNat → good w h b T a c) ?_
      (n := (cnt w h).toNat) ⟨0, [], by simp⟩
    rintro n t H' ⟨i, G, rfl, hi, h2, h3, h5, h6, rfl, hk⟩ ih
    simp [h2, h3, h5, h6]
    refine br_dec _ ?_ ?_ <;> intro hlt
    · simp [h2, h3, h5, h6, hlt]
      refine go_inv (fun n t H' => ∃ (j : Nat) (G : Heap), n = (cnt w h).toNat - j ∧ j ≤ (cnt w h).toNat ∧ t 2 = .pointer (some ⟨H.length, 0, some 0⟩) ∧ t 3 = .pointer (some ⟨H.length + 1, 0, some 0⟩) ∧
        t 5 = .int .i64 (cnt w h) ∧ t 6 = .int .i64 i ∧ t 7 = .int .i64 j ∧ H' = H ++ ⟨[.int .i64 w, .int .i64 h, v], 0, 38⟩ :: ⟨[u], 0, 40⟩ :: G ∧ ∀ c, c < j → good w h b T i c) ?_
        (n := (cnt w h).toNat) ⟨0, G, by simp [h2, h3, h5, h6]⟩
      clear h2 h3 h5 h6
      rintro n t H' ⟨j, G, rfl, hj, h2, h3, h5, h6, h7, rfl, hkj⟩ ih2
      simp [h2, h3, h5, h6, h7]
      refine br_dec _ ?_ ?_ <;> intro hlj
      · have ni : i < (cnt w h).toNat := by omega
        have nj : j < (cnt w h).toNat := by omega
        obtain ⟨k0, k1, k2, k3⟩ := at_small (isN_nat ni) (isN_nat ni)
        have hTl := h1.2
        have e1 : IntKind.i64.wrap (i * cnt w h) = i * cnt w h := w64 (by omega) (by omega)
        have e2 : IntKind.i64.wrap (i * cnt w h + i) = i * cnt w h + i := w64 (by omega) (by omega)
        have q1 : ∀ L, vindexAddr Try.prog (H ++ L) 24 u (.int .i64 (i * cnt w h + i)) = some (elp u (i * cnt w h + i : Int).toNat) := fun L => hT.idxA (e := 3) (by simp) k0 (by omega)
        have q2 : ∀ L, vload Try.prog (H ++ L) 3 (elp u (i * cnt w h + i : Int).toNat) = some (.int .i64 (portOf w h T i i)) := fun L => hT.loadA (by simp) (by omega)
        have sw := fun F L => sWalk_c (frz := F) (H := H ++ L) w h v u b T i j (hI.app _) (hT.app _) hl h1 (isN_nat ni) (isN_nat nj)
        have yes := fun (t' : Env) (G' : Heap) (x2 : t' 2 = .pointer (some ⟨H.length, 0, some 0⟩)) (x3 : t' 3 = .pointer (some ⟨H.length + 1, 0, some 0⟩)) (x5 : t' 5 = .int .i64 (cnt w h)) (x6 : t' 6 = .int .i64 i) (x7 : t' 7 = .int .i64 (j + 1 : Nat)) (hg : good w h b T i j) =>
          ih2 ((cnt w h).toNat - (j + 1)) t' _ ⟨j + 1, G', rfl, by omega, x2, x3, x5, x6, x7, rfl, fun c hc' => by
            by_cases hcj : c < j
            · exact hkj c hcj
            · have : c = j := by omega
              subst this; exact hg⟩ (by omega)
        simp [h2, h3, h5, h6, h7, hlj]
        refine gd_dec _ _ ?_ ?_ <;> intro hij
        · obtain rfl : i = j := by omega
          simp [h2, h3, h5, h6, h7, hlj, e1, e2, q1, q2]
          refine gd_dec _ _ ?_ ?_ <;> intro hp
          · simp [h2, h3, h5, h6, h7, hlj, hp]
            refine yes _ _ (by simp [h2]) (by simp [h3]) (by simp [h5]) (by simp [h6]) ?_ ⟨fun _ => hp, fun hh => absurd rfl hh⟩
            simp; rw [w64 (by omega) (by omega)]
          · simp [h2, h3, h5, h6, h7, hlj, hp]
            exact no i i ni ni (fun hg => hp (hg.1 rfl))
        · simp [h2, h3, h5, h6, h7, hlj, hij, hI.one', hI.cells, hT.one', hT.cells, sw]
          refine br_dec _ ?_ ?_ <;> intro hp
          · simp [h2, h3, h5, h6, h7, hlj, hp]
            exact no i j ni nj (fun hg => hg.2 hij hp)
          · simp [h2, h3, h5, h6, h7, hlj, hp]
            refine yes _ _ (by simp [h2]) (by simp [h3]) (by simp [h5]) (by simp [h6]) ?_ ⟨fun hh => absurd hh hij, fun _ => hp⟩
            simp; rw [w64 (by omega) (by omega)]
      · have : j = (cnt w h).toNat := by omega
        subst this
        simp [h2, h3, h5, h6, h7, hlj]
        refine ih ((cnt w h).toNat - (i + 1)) _ _ ⟨i + 1, G, rfl, by omega, by simp [h2], by simp [h3], by simp [h5], ?_, rfl, fun a ha c hc' => ?_⟩ (by omega)
        · simp; rw [w64 (by omega) (by omega)]
        · by_cases hai : a < i
          · exact hk a hai c hc'
          · have : a = i := by omega
            subst this; exact hkj c hc'
    · simp [h2, h3, h5, h6, hlt]
      have : i = (cnt w h).toNat := by omega
      subst this
      exact (tableOk_iff w h b T).2 ⟨h1, hk⟩
  · simp [h1]
    exact fun k => h1 k.1
theorem areInside_c (v : Value) (xs : List Int) (lo hi : Int) (hI : IsI H v xs) (hl : xs.length ≤ 1073741824) :
   vcall C frz 68 [v, .int .i64 lo, .int .i64 hi] H = some (.bool (decide (∀ x ∈ xs, inR lo x hi)), H) := by
  rw [vcall_go (fn := Try.f68) Try.func68 rfl (by kernel_rfl) rfl]
  simp [hI.len]
  refine go_inv (fun n t H' => ∃ i : Nat, n = xs.length - i ∧ i ≤ xs.length ∧ t 1 = .int .i64 lo ∧ t 2 = .int .i64 hi ∧ t 9 = v ∧ t 10 = .int .i64 xs.length ∧ t 11 = .int .i64 i ∧ H' = H ∧ ∀ x ∈ xs.take i, inR lo x hi) ?_ (n := xs.length) ⟨0, by simp⟩
  rintro n t H' ⟨i, rfl, hi', h1, h2, h3, h4, h5, rfl, hj⟩ ih
  simp [h1, h2, h3, h4, h5]
  refine br_dec _ ?_ ?_ <;> intro h6
  · simp [h1, h2, h3, h4, h5, h6, hI.idx, hI.load, getD_get, inside_c]
    refine br_dec _ ?_ ?_ <;> intro h7 <;> simp [h1, h2, h3, h4, h5, h6, h7]
    · refine ih (xs.length - (i + 1)) _ _ ⟨i + 1, rfl, by omega, by simp [h1], by simp [h2], by simp [h3], by simp [h4], ?_, rfl, fun x hx => ?_⟩ (by omega)
      · simp; rw [w64 (by omega) (by omega)]
      · rw [List.take_succ_eq_append_getElem h6] at hx
        rcases List.mem_append.1 hx with hx | hx
        · exact hj x hx
        · rw [List.mem_singleton.1 hx]; exact h7
    · exact ⟨_, List.getElem_mem h6, h7⟩
  · have : i = xs.length := by omega
    subst this
    simp [h1, h2, h3, h4, h5]
    rwa [List.take_length] at hj
def rowPairs (n a m : Nat) : List (Nat × Nat) := ((List.range m).filter (fun c => a ≠ c)).map fun c => (a, c)
/-- the pairs in the order of the visits -/
def allPairs (n m : Nat) : List (Nat × Nat) := (List.range m).flatMap fun a => rowPairs n a n
theorem rowPairs_eq (n a m : Nat) (h : a = m) : rowPairs n a (m + 1) = rowPairs n a m := by
  simp [rowPairs, List.range_succ, h]
theorem rowPairs_ne (n a m : Nat) (h : a ≠ m) : rowPairs n a (m + 1) = rowPairs n a m ++ [(a, m)] := by
  simp [rowPairs, List.range_succ, h]
theorem allPairs_succ (n m : Nat) : allPairs n (m + 1) = allPairs n m ++ rowPairs n m n := by
  simp [allPairs, List.range_succ]
theorem mem_allPairs {n a c : Nat} : (a, c) ∈ allPairs n n ↔ a < n ∧ c < n ∧ a ≠ c := by
  simp [allPairs, rowPairs]
theorem pairs_w (w h : Int) (f : Value) {Q : Value → Heap → Prop} (Inv : List (Nat × Nat) → Heap → Prop)
    (h0 : Inv [] (H ++ [⟨[.int .i64 w, .int .i64 h], 0, 36⟩]))
    (hs : ∀ (done : List (Nat × Nat)) (a c : Nat) (H' : Heap), a < (cnt w h).toNat → c < (cnt w h).toNat → a ≠ c → Inv done H' → wp (vclos (vcall C frz) f [.int .i64 a, .int .i64 c] H') fun r H'' => (r = .bool true ∧ Inv (done ++ [(a, c)]) H'') ∨ (r = .bool false ∧ Q (.bool false) H''))
    (he : ∀ H', Inv (allPairs (cnt w h).toNat (cnt w h).toNat) H' → Q (.bool true) H') :
    wp (vcall C frz 174 [.agg #[.int .i64 w, .int .i64 h], f] H) Q := by
  rw [vcall_go (fn := Try.f174) Try.func174 rfl (by kernel_rfl) rfl]
  have hc := cnt_range w h
  simp [nodeCount_c]
  refine wp_inv (fun n t H' => ∃ (i : Nat), n = (cnt w h).toNat - i ∧ i ≤ (cnt w h).toNat ∧ t 1 = f ∧ t 5 = .int .i64 (cnt w h) ∧ t 10 = .int .i64 (cnt w h) ∧ t 11 = .int .i64 i ∧
    Inv (allPairs (cnt w h).toNat i) H') ?_ (n := (cnt w h).toNat) ⟨0, by simp [allPairs, h0]⟩
  rintro n t H' ⟨i, rfl, hi, h1, h5, h10, h11, hk⟩ ih
  simp [h1, h5, h10, h11]
  refine wp_dec ?_ ?_ <;> intro hlt
  · simp [h1, h5, h10, h11, hlt]
    refine wp_inv (fun n t H' => ∃ (j : Nat), n = (cnt w h).toNat - j ∧ j ≤ (cnt w h).toNat ∧ t 1 = f ∧ t 5 = .int .i64 (cnt w h) ∧ t 10 = .int .i64 (cnt w h) ∧ t 11 = .int .i64 i ∧ t 6 = .int .i64 i ∧ t 14 = .int .i64 (cnt w h) ∧ t 15 = .int .i64 j ∧
      Inv (allPairs (cnt w h).toNat i ++ rowPairs (cnt w h).toNat i j) H') ?_ (n := (cnt w h).toNat) ⟨0, by simp [h1, h5, h10, h11, rowPairs, hk]⟩
    clear h1 h5 h10 h11 hk
    rintro n t H' ⟨j, rfl, hj, h1, h5, h10, h11, h6, h14, h15, hk⟩ ih2
    simp [h1, h5, h10, h11, h6, h14, h15]
    refine wp_dec ?_ ?_ <;> intro hlj
    · have ni : i < (cnt w h).toNat := by omega
      have nj : j < (cnt w h).toNat := by omega
      have yes := fun (t' : Env) (H' : Heap) (x1 : t' 1 = f) (x5 : t' 5 = .int .i64 (cnt w h)) (x10 : t' 10 = .int .i64 (cnt w h)) (x11 : t' 11 = .int .i64 i) (x6 : t' 6 = .int .i64 i) (x14 : t' 14 = .int .i64 (cnt w h)) (x15 : t' 15 = .int .i64 (j + 1 : Nat)) (hg : Inv (allPairs (cnt w h).toNat i ++ rowPairs (cnt w h).toNat i (j + 1)) H') =>
        ih2 ((cnt w h).toNat - (j + 1)) t' H' ⟨j + 1, rfl, by omega, x1, x5, x10, x11, x6, x14, x15, hg⟩ (by omega)
      simp [h1, h5, h10, h11, h6, h14, h15, hlj]
      refine wpg_dec ?_ ?_ <;> intro hij
      · simp [h1, h5, h10, h11, h6, h14, h15, hlj, hij]
        refine yes _ _ (by simp [h1]) (by simp [h5]) (by simp [h10]) (by simp [h11]) (by simp [h6]) (by simp [h14]) ?_ (by rw [rowPairs_eq _ _ _ (by omega)]; exact hk)
        simp; rw [w64 (by omega) (by omega)]
      · simp [h1, h5, h10, h11, h6, h14, h15, hlj, hij]
        refine wp_thn (hs _ i j H' ni nj (by omega) hk) ?_
        rintro r H'' (⟨rfl, hq⟩ | ⟨rfl, hq⟩)
        · simp [h1, h5, h10, h11, h6, h14, h15, hlj, hij]
          refine yes _ _ (by simp [h1]) (by simp [h5]) (by simp [h10]) (by simp [h11]) (by simp [h6]) (by simp [h14]) ?_ (by rw [rowPairs_ne _ _ _ (by omega), ← List.append_assoc]; exact hq)
          simp; rw [w64 (by omega) (by omega)]
        · simp [h1, h5, h10, h11, h6, h14, h15, hlj, hij]
          exact hq
    · have : j = (cnt w h).toNat := by omega
      subst this
      simp [h1, h5, h10, h11, h6, h14, h15, hlj]
      refine ih ((cnt w h).toNat - (i + 1)) _ _ ⟨i + 1, rfl, by omega, by simp [h1], by simp [h5], by simp [h10], ?_, by rw [allPairs_succ]; exact hk⟩ (by omega)
      · simp; rw [w64 (by omega) (by omega)]
  · simp [h1, h5, h10, h11, hlt]
    have : i = (cnt w h).toNat := by omega
    subst this
    exact he _ hk
theorem tableOk1_c (w h : Int) (v u : Value) (b T : List Int) (a c : Int) (r1 r2 : Nat) (hI : IsI H v b) (hT : IsI H u T) (hl : b.length ≤ 1073741824) (hz : tsized w h b T) (ha : isN w h a) (hto : isN w h c) (hne : a ≠ c)
    (g1 : H[r1]? = some ⟨[.int .i64 w, .int .i64 h, v], 0, 38⟩) (g2 : H[r2]? = some ⟨[u], 0, 40⟩) :
   vcall C frz 175 [.int .i64 a, .int .i64 c, .pointer (some ⟨r1, 0, some 0⟩), .pointer (some ⟨r2, 0, some 0⟩)] H = some (.bool (!decide (walk w h b T a c = [])), H) := by
  rw [vcall_go (fn := Try.f175) Try.func175 rfl (by kernel_rfl) rfl]
  simp [VM.look, g1, g2, hI.one', hI.cells, hT.one', hT.cells, walk_c _ _ _ _ _ _ _ _ hI hT hl hz ha hto hne]
  by_cases hw : walk w h b T a c = []
  · simp [ret, hw]
  · have : 0 < (walk w h b T a c).length := List.length_pos_iff.2 hw
    simp [ret, hw, this]
theorem tableOk_w (w h : Int) (v u : Value) (b T : List Int) (hI : IsI H v b) (hT : IsI H u T) (hl : b.length ≤ 1073741824) :
   wp (vcall C frz 132 [.agg #[.int .i64 w, .int .i64 h, v], .agg #[u]] H) (fun r _ => r = .bool (decide (tableOk w h b T))) := by
  rw [vcall_go (fn := Try.f132) Try.func132 rfl (by kernel_rfl) rfl]
  simp [hI.one', hI.cells, hT.one', hT.cells, nodeCount_c, meshOk_c _ _ _ _ (hI.app _) hl]
  refine wpg_dec ?_ ?_ <;> intro hm
  · simp [hm, hT.lenA, sq_small]
    refine wp_dec ?_ ?_ <;> intro hz
    · simp [hz]
      have hs : tsized w h b T := ⟨hm, hz⟩
      have hc := cnt_range w h
      refine wp_inv (fun n t H' => ∃ (i : Nat), n = (cnt w h).toNat - i ∧ i ≤ (cnt w h).toNat ∧ t 2 = .pointer (some ⟨H.length, 0, some 0⟩) ∧ t 3 = .pointer (some ⟨H.length + 1, 0, some 0⟩) ∧ t 5 = .int .i64 (cnt w h) ∧ t 22 = .int .i64 (cnt w h) ∧ t 23 = .int .i64 i ∧
        H' = H ++ [⟨[.int .i64 w, .int .i64 h, v], 0, 38⟩, ⟨[u], 0, 40⟩] ∧ ∀ a, a < i → portOf w h T a a = 4) ?_ (n := (cnt w h).toNat) ⟨0, by simp⟩
      rintro n t H' ⟨i, rfl, hi, h2, h3, h5, h22, h23, rfl, hk⟩ ih
      simp [h2, h3, h5, h22, h23]
      refine wp_dec ?_ ?_ <;> intro hlt
      · have ni : i < (cnt w h).toNat := by omega
        obtain ⟨k0, k1, k2, k3⟩ := at_small (isN_nat ni) (isN_nat ni)
        have e1 : IntKind.i64.wrap (i * cnt w h) = i * cnt w h := w64 (by omega) (by omega)
        have e2 : IntKind.i64.wrap (i * cnt w h + i) = i * cnt w h + i := w64 (by omega) (by omega)
        have q1 : ∀ L, vindexAddr Try.prog (H ++ L) 24 u (.int .i64 (i * cnt w h + i)) = some (elp u (i * cnt w h + i : Int).toNat) := fun L => hT.idxA (e := 3) (by simp) k0 (by omega)
        have q2 : ∀ L, vload Try.prog (H ++ L) 3 (elp u (i * cnt w h + i : Int).toNat) = some (.int .i64 (portOf w h T i i)) := fun L => hT.loadA (by simp) (by omega)
        simp [h2, h3, h5, h22, h23, hlt, e1, e2, q1, q2]
        refine wp_dec ?_ ?_ <;> intro hp
        · simp [h2, h3, h5, h22, h23, hlt, hp]
          refine ih ((cnt w h).toNat - (i + 1)) _ _ ⟨i + 1, rfl, by omega, by simp [h2], by simp [h3], by simp [h5], by simp [h22], ?_, rfl, fun a ha => ?_⟩ (by omega)
          · simp; rw [w64 (by omega) (by omega)]
          · by_cases hai : a < i
            · exact hk a hai
            · have : a = i := by omega
              subst this; exact hp
        · simp [h2, h3, h5, h22, h23, hlt, hp]
          exact fun hh => hp ((hh.2 i ni i ni).1 rfl)
      · simp [h2, h3, h5, h22, h23, hlt]
        have : i = (cnt w h).toNat := by omega
        subst this
        refine wp_thn (pairs_w w h _ (Q := fun r _ => r = .bool (decide (tableOk w h b T))) (fun done H' => ∃ L, H' = H ++ [⟨[.int .i64 w, .int .i64 h, v], 0, 38⟩, ⟨[u], 0, 40⟩] ++ L ∧ ∀ p ∈ done, walk w h b T p.1 p.2 ≠ []) ⟨_, rfl, by simp⟩ ?_ ?_) ?_
        · rintro done a c _ ha hc' hne ⟨L, rfl, hd⟩
          simp
          rw [tableOk1_c w h v u b T a c _ _ (hI.app _) (hT.app _) hl hs (isN_nat ha) (isN_nat hc') (by omega) (by simp) (by simp)]
          simp
          by_cases hw : walk w h b T a c = []
          · refine .inr ⟨hw, ?_⟩
            exact fun hh => (hh.2 a (by omega) c (by omega)).2 (by omega) hw
          · refine .inl ⟨hw, fun p q hp => ?_⟩
            rcases hp with hp | ⟨rfl, rfl⟩
            · exact hd (p, q) hp
            · exact hw
        · rintro _ ⟨L, rfl, hd⟩
          simp
          exact ⟨hs, fun a ha c hc' => ⟨fun _ => hk a ha, fun hne => hd (a, c) (mem_allPairs.2 ⟨ha, hc', hne⟩)⟩⟩
        · rintro _ H' rfl
          simp
    · simp [hz]
      exact fun hh => hz hh.1.2
  · simp [hm]
    exact fun hh => hm hh.1.1
theorem tableOk_c (w h : Int) (v u : Value) (b T : List Int) (hI : IsI H v b) (hT : IsI H u T) (hl : b.length ≤ 1073741824) :
   vcall C frz 132 [.agg #[.int .i64 w, .int .i64 h, v], .agg #[u]] H = some (.bool (decide (tableOk w h b T)), H) :=
  (tableOk_w w h v u b T hI hT hl).exact (by simp) rfl
end Go.Proofs.Ytcigpclbhfkgaaa.V
/-! What unicasts cost. -/
set_option linter.all false
namespace Go.Proofs.Ytcigpclbhfkgaaa.V
open Go Go.VM Go.Proofs
set_option maxRecDepth 10000
variable {frz : Nat} {H : Heap}
def castOk (w h : Int) (b T : List Int) (a : Int) (ts : List Int) : Prop := tableOk w h b T ∧ isN w h a ∧ ∀ x ∈ ts, isN w h x
instance (w h : Int) (b T : List Int) (a : Int) (ts : List Int) : Decidable (castOk w h b T a ts) := inferInstanceAs (Decidable (_ ∧ _))
/-- what single packets to all targets cost -/
def cost (w h : Int) (b T : List Int) (a : Int) (ts : List Int) : Nat := (ts.map fun x => (walk w h b T a x).length).sum
theorem walk_len (w h : Int) (b T : List Int) (a to : Int) : (walk w h b T a to).length ≤ 16 := by
  have := walkN_len w h b T to (cnt w h).toNat a []
  have hc := cnt_range w h
  simp only [walk] at *
  simp at this; omega
theorem cost_succ {w h : Int} {b T : List Int} {a : Int} {ts : List Int} {i : Nat} (hi : i < ts.length) : cost w h b T a (ts.take (i + 1)) = cost w h b T a (ts.take i) + (walk w h b T a ts[i]).length := by
  unfold cost
  rw [List.take_succ_eq_append_getElem hi, List.map_append, List.sum_append]; simp
theorem cost_le (w h : Int) (b T : List Int) (a : Int) (ts : List Int) : cost w h b T a ts ≤ 16 * ts.length := by
  unfold cost
  induction ts with
  | nil => simp
  | cons x ts ih =>
    have := walk_len w h b T a x
    simp only [List.map_cons, List.sum_cons, List.length_cons]; omega
theorem walk_selfT {w h : Int} {b T : List Int} {a : Int} (ht : tableOk w h b T) (ha : isN w h a) : walk w h b T a a = [] := by
  obtain ⟨a0, a1⟩ := ha
  have := (ht.2 a.toNat (by omega) a.toNat (by omega)).1 rfl
  rw [show ((a.toNat : Nat) : Int) = a by omega] at this
  unfold walk
  cases (cnt w h).toNat <;> simp [walkN, this]
theorem walkT_c (w h : Int) (v u : Value) (b T : List Int) (a to : Int) (hI : IsI H v b) (hT : IsI H u T) (hl : b.length ≤ 1073741824) (hz : tableOk w h b T) (ha : isN w h a) (hto : isN w h to) :
   vcall C frz 111 [.agg #[.int .i64 w, .int .i64 h, v], .agg #[u], .int .i64 a, .int .i64 to] H = some (ret H (walk w h b T a to)) := by
  by_cases hne : a = to
  · subst hne
    rw [walk_selfT hz ha, vcall_go (fn := Try.f111) Try.func111 rfl (by kernel_rfl) rfl]
    simp [hI.one', hI.cells, hT.one', hT.cells, ret]
  · exact walk_c w h v u b T a to hI hT hl hz.1 ha hto hne
end Go.Proofs.Ytcigpclbhfkgaaa.V
/-! Latency without load; requests and replies. -/
set_option linter.all false
namespace Go.Proofs.Ytcigpclbhfkgaaa.V
open Go Go.VM Go.Proofs
set_option maxRecDepth 10000
variable {frz : Nat} {H : Heap}
def classesOk (w h : Int) (b A B : List Int) : Prop := tableOk w h b A ∧ tableOk w h b B
instance (w h : Int) (b A B : List Int) : Decidable (classesOk w h b A B) := inferInstanceAs (Decidable (_ ∧ _))
/-- a packet: its number, whence, whither, class, length -/
abbrev PkD := Int × Int × Int × Int × Int
def packetOk (w h : Int) (p : PkD) : Prop := inR 1 p.1 9999 ∧ isN w h p.2.1 ∧ isN w h p.2.2.1 ∧ p.2.1 ≠ p.2.2.1 ∧ inR 0 p.2.2.2.1 1 ∧ inR 1 p.2.2.2.2 5
instance (w h : Int) (p : PkD) : Decidable (packetOk w h p) := inferInstanceAs (Decidable (_ ∧ _))
def pkV (p : PkD) : Value := .agg #[.int .i64 p.1, .int .i64 p.2.1, .int .i64 p.2.2.1, .int .i64 p.2.2.2.1, .int .i64 p.2.2.2.2]
theorem classesOk_c (w h : Int) (v u1 u2 : Value) (b A B : List Int) (hI : IsI H v b) (h1 : IsI H u1 A) (h2 : IsI H u2 B) (hl : b.length ≤ 1073741824) :
   vcall C frz 80 [.agg #[.int .i64 w, .int .i64 h, v], .agg #[u1, u2]] H = some (.bool (decide (classesOk w h b A B)), H) := by
  rw [vcall_go (fn := Try.f80) Try.func80 rfl (by kernel_rfl) rfl]
  have one := And.intro (And.intro h1.one' h1.cells) (And.intro h2.one' h2.cells)
  simp [hI.one', hI.cells, one, tableOk_c _ _ _ _ _ _ (hI.app _) (h1.app _) hl]
  refine gd_dec _ _ ?_ ?_ <;> intro g <;> simp [g, classesOk, hI.one', hI.cells, one, tableOk_c _ _ _ _ _ _ (hI.app _) (h2.app _) hl]
theorem sClassesOk_c (w h : Int) (v u1 u2 : Value) (b A B : List Int) (hI : IsI H v b) (h1 : IsI H u1 A) (h2 : IsI H u2 B) (hl : b.length ≤ 1073741824) :
   vcall C frz 77 [.agg #[.int .i64 w, .int .i64 h, v], .agg #[u1, u2]] H = some (.bool (decide (classesOk w h b A B)), H) := by
  rw [vcall_go (fn := Try.f77) Try.func77 rfl (by kernel_rfl) rfl]
  have one := And.intro (And.intro h1.one' h1.cells) (And.intro h2.one' h2.cells)
  simp [hI.one', hI.cells, one, sTableOk_c _ _ _ _ _ _ (hI.app _) (h1.app _) hl]
  refine gd_dec _ _ ?_ ?_ <;> intro g <;> simp [g, classesOk, hI.one', hI.cells, one, sTableOk_c _ _ _ _ _ _ (hI.app _) (h2.app _) hl]
theorem packetOk_c (w h : Int) (p : PkD) : vcall C frz 93 [.agg #[.int .i64 w, .int .i64 h], pkV p] H = some (.bool (decide (packetOk w h p)), H) := by
  obtain ⟨i, a, b, c, l⟩ := p
  rw [vcall_go (fn := Try.f93) Try.func93 rfl (by kernel_rfl) rfl]
  by_cases g1 : inR 1 i 9999
  · by_cases g2 : isN w h a
    · by_cases g3 : isN w h b
      · by_cases g4 : a = b
        · simp [pkV, inside_c, isNode_c, g1, g2, g3, g4, packetOk]
        · by_cases g5 : inR 0 c 1
          · by_cases g6 : inR 1 l 5 <;> simp [pkV, inside_c, isNode_c, g1, g2, g3, g4, g5, g6, packetOk]
          · simp [pkV, inside_c, isNode_c, g1, g2, g3, g4, g5, packetOk]
      · simp [pkV, inside_c, isNode_c, g1, g2, g3, packetOk]
    · simp [pkV, inside_c, isNode_c, g1, g2, packetOk]
  · simp [pkV, inside_c, isNode_c, g1, packetOk]
theorem sPacketOk_c (w h : Int) (p : PkD) : vcall C frz 91 [.agg #[.int .i64 w, .int .i64 h], pkV p] H = some (.bool (decide (packetOk w h p)), H) := by
  obtain ⟨i, a, b, c, l⟩ := p
  rw [vcall_go (fn := Try.f91) Try.func91 rfl (by kernel_rfl) rfl]
  by_cases g1 : inR 1 i 9999
  · by_cases g2 : isN w h a
    · by_cases g3 : isN w h b
      · by_cases g4 : a = b
        · simp [pkV, l01In_c, l02Has_c, g1, g2, g3, g4, packetOk]
        · by_cases g5 : inR 0 c 1
          · by_cases g6 : inR 1 l 5 <;> simp [pkV, l01In_c, l02Has_c, g1, g2, g3, g4, g5, g6, packetOk]
          · simp [pkV, l01In_c, l02Has_c, g1, g2, g3, g4, g5, packetOk]
      · simp [pkV, l01In_c, l02Has_c, g1, g2, g3, packetOk]
    · simp [pkV, l01In_c, l02Has_c, g1, g2, packetOk]
  · simp [pkV, l01In_c, l02Has_c, g1, packetOk]
def zeroLoad (w h : Int) (b A B : List Int) (p : PkD) : Int :=
  if classesOk w h b A B ∧ packetOk w h p then ((walk w h b (if p.2.2.2.1 = 1 then B else A) p.2.1 p.2.2.1).length : Int) + p.2.2.2.2 + 1 else -1
theorem zeroLoad_range (w h : Int) (b A B : List Int) (p : PkD) : -1 ≤ zeroLoad w h b A B p ∧ zeroLoad w h b A B p ≤ 100 := by
  unfold zeroLoad; split
  · rename_i g
    have h1 := g.2.2.2.2.2.2
    have := walk_len w h b (if p.2.2.2.1 = 1 then B else A) p.2.1 p.2.2.1
    unfold inR at h1; omega
  · omega
theorem tableFor_w (u1 u2 : Value) (A B : List Int) (c : Int) (h1 : IsI H u1 A) (h2 : IsI H u2 B) :
   wp (vcall C frz 112 [.agg #[u1, u2], .int .i64 c] H) (fun r H' => r = .agg #[if c = 1 then u2 else u1] ∧ ∃ L, H' = H ++ L) := by
  rw [vcall_go (fn := Try.f112) Try.func112 rfl (by kernel_rfl) rfl]
  have one := And.intro (And.intro h1.one' h1.cells) (And.intro h2.one' h2.cells)
  simp [one]
  refine wp_dec ?_ ?_ <;> intro g <;> simp [g, one]
theorem zeroLoad_c (w h : Int) (v u1 u2 : Value) (b A B : List Int) (p : PkD) (hI : IsI H v b) (h1 : IsI H u1 A) (h2 : IsI H u2 B) (hl : b.length ≤ 1073741824) :
   vcall C frz 56 [.agg #[.int .i64 w, .int .i64 h, v], .agg #[u1, u2], pkV p] H = some (.int .i64 (zeroLoad w h b A B p), H) := by
  refine wp.exact (by simp) ?_ rfl
  rw [vcall_go (fn := Try.f56) Try.func56 rfl (by kernel_rfl) rfl]
  have one := And.intro (And.intro h1.one' h1.cells) (And.intro h2.one' h2.cells)
  have onev := And.intro hI.one' hI.cells
  have pk := fun F L => packetOk_c (frz := F) (H := L) w h p
  have hz : zeroLoad w h b A B p = if classesOk w h b A B ∧ packetOk w h p then ((walk w h b (if p.2.2.2.1 = 1 then B else A) p.2.1 p.2.2.1).length : Int) + p.2.2.2.2 + 1 else -1 := rfl
  obtain ⟨i, a, c, k, l⟩ := p
  simp only [pkV] at pk ⊢
  simp [onev, one, classesOk_c _ _ _ _ _ _ _ _ (hI.app _) (h1.app _) (h2.app _) hl]
  by_cases g1 : classesOk w h b A B
  · by_cases g2 : packetOk w h (i, a, c, k, l)
    · simp [g1, g2, pk, onev, one]
      rw [if_pos ⟨g1, g2⟩] at hz
      obtain ⟨k1, k2, k3, k4, k5, k6⟩ := g2
      simp only at k1 k2 k3 k4 k5 k6 hz
      rw [go_draw (h := by kernel_rfl)]
      simp [onev, one]
      refine wp_thn (tableFor_w u1 u2 A B k (h1.app _) (h2.app _)) ?_
      rintro _ H1 ⟨rfl, L, rfl⟩
      have hT : IsI H (if k = 1 then u2 else u1) (if k = 1 then B else A) := by split <;> assumption
      have hok : tableOk w h b (if k = 1 then B else A) := by split; exact g1.2; exact g1.1
      have hwl := walk_len w h b (if k = 1 then B else A) a c
      generalize (if k = 1 then u2 else u1) = uT at *
      generalize (if k = 1 then B else A) = T at *
      have wt := fun F L => walkT_c (frz := F) (H := H ++ L) w h v uT b T a c (hI.app _) (hT.app _) hl hok k2 k3
      simp only [List.append_assoc]
      unfold inR at k6
      have f0 : ∀ [Inhabited Unit], IntKind.i64.wrap l = l := by intro _; exact w64 (by omega) (by omega)
      have f1 : ∀ [Inhabited Unit], IntKind.i64.wrap (l + 1) = l + 1 := by intro _; exact w64 (by omega) (by omega)
      have f2 : ∀ [Inhabited Unit], IntKind.i64.wrap ((walk w h b T a c).length + l) = (walk w h b T a c).length + l := by intro _; exact w64 (by omega) (by omega)
      have f3 : ∀ [Inhabited Unit], IntKind.i64.wrap ((walk w h b T a c).length + l + 1) = (walk w h b T a c).length + l + 1 := by intro _; exact w64 (by omega) (by omega)
      simp [onev, one, hT.one', hT.cells, wt, hz]
      unfold ret
      by_cases h0 : walk w h b T a c = []
      · simp [h0, f0, f1]
      · simp [h0, f2, f3]
    · simp [g1, g2, pk, onev, one, hz]
  · by_cases g2 : packetOk w h (i, a, c, k, l) <;> simp [g1, g2, pk, onev, one, hz]
theorem sL27_c (w h : Int) (v u1 u2 : Value) (b A B : List Int) (i a c k l : Int) (hI : IsI H v b) (h1 : IsI H u1 A) (h2 : IsI H u2 B) (hl : b.length ≤ 1073741824) (g1 : classesOk w h b A B) (k2 : isN w h a) (k3 : isN w h c) (k4 : a ≠ c) (k6 : inR 1 l 5) :
   vcall C frz 110 [.agg #[.int .i64 w, .int .i64 h, v], .agg #[u1, u2], .agg #[.int .i64 i, .int .i64 a, .int .i64 c, .int .i64 k, .int .i64 l]] H = some (.int .i64 (((walk w h b (if k = 1 then B else A) a c).length : Int) + l + 1), H) := by
  refine wp.exact (by simp) ?_ rfl
  rw [vcall_go (fn := Try.f110) Try.func110 rfl (by kernel_rfl) rfl]
  have one := And.intro (And.intro h1.one' h1.cells) (And.intro h2.one' h2.cells)
  have onev := And.intro hI.one' hI.cells
  simp [onev, one]
  have core : ∀ (T : List Int), tableOk w h b T → ∀ [Inhabited Unit], IntKind.i64.wrap ((walk w h b T a c).length + l) = (walk w h b T a c).length + l ∧ IntKind.i64.wrap ((walk w h b T a c).length + l + 1) = (walk w h b T a c).length + l + 1 := fun T hT => by
    intro _
    have hwl := walk_len w h b T a c
    unfold inR at k6
    exact ⟨w64 (by omega) (by omega), w64 (by omega) (by omega)⟩
  refine wp_dec ?_ ?_ <;> intro g
  · simp [g, onev, one]
    have sw := fun F L => sWalk_c (frz := F) (H := H ++ L) w h v u2 b B a c (hI.app _) (h2.app _) hl g1.2.1 k2 k3
    rw [go_draw (h := by kernel_rfl)]
    simp [onev, one, sw, core B g1.2]
  · simp [g, onev, one]
    have sw := fun F L => sWalk_c (frz := F) (H := H ++ L) w h v u1 b A a c (hI.app _) (h1.app _) hl g1.1.1 k2 k3
    rw [go_draw (h := by kernel_rfl)]
    simp [onev, one, sw, core A g1.1]
theorem sZeroLoad_c (w h : Int) (v u1 u2 : Value) (b A B : List Int) (p : PkD) (hI : IsI H v b) (h1 : IsI H u1 A) (h2 : IsI H u2 B) (hl : b.length ≤ 1073741824) :
   vcall C frz 53 [.agg #[.int .i64 w, .int .i64 h, v], .agg #[u1, u2], pkV p] H = some (.int .i64 (zeroLoad w h b A B p), H) := by
  refine wp.exact (by simp) ?_ rfl
  rw [vcall_go (fn := Try.f53) Try.func53 rfl (by kernel_rfl) rfl]
  have one := And.intro (And.intro h1.one' h1.cells) (And.intro h2.one' h2.cells)
  have onev := And.intro hI.one' hI.cells
  have pk := fun F L => sPacketOk_c (frz := F) (H := L) w h p
  have hz : zeroLoad w h b A B p = if classesOk w h b A B ∧ packetOk w h p then ((walk w h b (if p.2.2.2.1 = 1 then B else A) p.2.1 p.2.2.1).length : Int) + p.2.2.2.2 + 1 else -1 := rfl
  obtain ⟨i, a, c, k, l⟩ := p
  simp only [pkV] at pk ⊢
  simp [onev, one, sClassesOk_c _ _ _ _ _ _ _ _ (hI.app _) (h1.app _) (h2.app _) hl]
  by_cases g1 : classesOk w h b A B
  · by_cases g2 : packetOk w h (i, a, c, k, l)
    · simp [g1, g2, pk, onev, one]
      rw [if_pos ⟨g1, g2⟩] at hz
      obtain ⟨k1, k2, k3, k4, k5, k6⟩ := g2
      simp only at k1 k2 k3 k4 k5 k6 hz
      have lz := fun F L => sL27_c (frz := F) (H := H ++ L) w h v u1 u2 b A B i a c k l (hI.app _) (h1.app _) (h2.app _) hl g1 k2 k3 k4 k6
      simp [lz, hz]
    · simp [g1, g2, pk, onev, one, hz]
  · by_cases g2 : packetOk w h (i, a, c, k, l) <;> simp [g1, g2, pk, onev, one, hz]
/-- a request and its reply -/
def replyTime (w h : Int) (b A B : List Int) (p : PkD) (n : Int) : Int :=
  if zeroLoad w h b A B p < 0 ∨ zeroLoad w h b A B (p.1, p.2.2.1, p.2.1, IntKind.i64.wrap (1 - p.2.2.2.1), n) < 0 then -1 else zeroLoad w h b A B p + zeroLoad w h b A B (p.1, p.2.2.1, p.2.1, IntKind.i64.wrap (1 - p.2.2.2.1), n)
theorem zeroLoad_id {w h : Int} {b A B : List Int} {i j a c k l : Int} (h1 : inR 1 i 9999) (h2 : inR 1 j 9999) : zeroLoad w h b A B (i, a, c, k, l) = zeroLoad w h b A B (j, a, c, k, l) := by
  unfold zeroLoad packetOk
  simp only [h1, h2]
theorem replyTime_c (w h : Int) (v u1 u2 : Value) (b A B : List Int) (i a c k l n : Int) (hI : IsI H v b) (h1 : IsI H u1 A) (h2 : IsI H u2 B) (hl : b.length ≤ 1073741824) :
   vcall C frz 17 [.agg #[.int .i64 w, .int .i64 h, v], .agg #[u1, u2], .agg #[.int .i64 i, .int .i64 a, .int .i64 c, .int .i64 k, .int .i64 l], .int .i64 n] H = some (.int .i64 (replyTime w h b A B (i, a, c, k, l) n), H) := by
  refine wp.exact (by simp) ?_ rfl
  rw [vcall_go (fn := Try.f17) Try.func17 rfl (by kernel_rfl) rfl]
  have one := And.intro (And.intro h1.one' h1.cells) (And.intro h2.one' h2.cells)
  have onev := And.intro hI.one' hI.cells
  have z1 := fun F L => zeroLoad_c (frz := F) (H := H ++ L) w h v u1 u2 b A B (i, a, c, k, l) (hI.app _) (h1.app _) (h2.app _) hl
  have z2 := fun F L => zeroLoad_c (frz := F) (H := H ++ L) w h v u1 u2 b A B (i, c, a, IntKind.i64.wrap (1 - k), n) (hI.app _) (h1.app _) (h2.app _) hl
  simp only [pkV] at z1 z2
  have r1 := zeroLoad_range w h b A B (i, a, c, k, l)
  have r2 := zeroLoad_range w h b A B (i, c, a, IntKind.i64.wrap (1 - k), n)
  unfold replyTime
  simp only
  generalize hq : IntKind.i64.wrap (1 - k) = kk at *
  generalize zeroLoad w h b A B (i, a, c, k, l) = Z1 at *
  generalize zeroLoad w h b A B (i, c, a, kk, n) = Z2 at *
  have e1 : ∀ [Inhabited Unit], IntKind.i64.wrap (Z1 + Z2) = Z1 + Z2 := by intro _; exact w64 (by omega) (by omega)
  simp [onev, one, hq]
  rw [go_draw (h := by kernel_rfl)]
  simp [onev, one, z1, z2]
  by_cases g1 : Z1 < 0
  · simp [g1]
  · by_cases g2 : Z2 < 0 <;> simp [g1, g2, e1]
theorem replyTime_d {v : Value} {u : Value × Value} {w h : Int} {b A B : List Int} {i a c k l n : Int} (o1 : dMesh.Ow H v (w, h, b)) (o2 : dClasses.Ow H u (A, B)) :
   vcall C frz 17 [dMesh.val v (w, h, b), dClasses.val u (A, B), .agg #[.int .i64 i, .int .i64 a, .int .i64 c, .int .i64 k, .int .i64 l], .int .i64 n] H = some (.int .i64 (replyTime w h b A B (i, a, c, k, l) n), H) :=
  replyTime_c w h v u.1 u.2 b A B i a c k l n o1.1.rd.isI o2.1.1.rd.isI o2.2.1.rd.isI o1.2
theorem sReplyTime_c (w h : Int) (v u1 u2 : Value) (b A B : List Int) (i a c k l n : Int) (hI : IsI H v b) (h1 : IsI H u1 A) (h2 : IsI H u2 B) (hl : b.length ≤ 1073741824) :
   vcall C frz 13 [.agg #[.int .i64 w, .int .i64 h, v], .agg #[u1, u2], .agg #[.int .i64 i, .int .i64 a, .int .i64 c, .int .i64 k, .int .i64 l], .int .i64 n] H = some (.int .i64 (replyTime w h b A B (i, a, c, k, l) n), H) := by
  refine wp.exact (by simp) ?_ rfl
  rw [vcall_go (fn := Try.f13) Try.func13 rfl (by kernel_rfl) rfl]
  have one := And.intro (And.intro h1.one' h1.cells) (And.intro h2.one' h2.cells)
  have onev := And.intro hI.one' hI.cells
  have z1 := fun F L => sZeroLoad_c (frz := F) (H := H ++ L) w h v u1 u2 b A B (i, a, c, k, l) (hI.app _) (h1.app _) (h2.app _) hl
  have z2 := fun F L => sZeroLoad_c (frz := F) (H := H ++ L) w h v u1 u2 b A B (1, c, a, IntKind.i64.wrap (1 - k), n) (hI.app _) (h1.app _) (h2.app _) hl
  simp only [pkV] at z1 z2
  have r1 := zeroLoad_range w h b A B (i, a, c, k, l)
  have r2 := zeroLoad_range w h b A B (1, c, a, IntKind.i64.wrap (1 - k), n)
  have same : ¬ zeroLoad w h b A B (i, a, c, k, l) < 0 → zeroLoad w h b A B (i, c, a, IntKind.i64.wrap (1 - k), n) = zeroLoad w h b A B (1, c, a, IntKind.i64.wrap (1 - k), n) := fun hz => by
    refine zeroLoad_id ?_ (by decide)
    unfold zeroLoad at hz
    split at hz
    · rename_i g; exact g.2.1
    · omega
  unfold replyTime
  simp only
  generalize hq : IntKind.i64.wrap (1 - k) = kk at *
  generalize zeroLoad w h b A B (i, a, c, k, l) = Z1 at *
  generalize zeroLoad w h b A B (1, c, a, kk, n) = Z2 at *
  generalize zeroLoad w h b A B (i, c, a, kk, n) = Z3 at *
  have e1 : ∀ [Inhabited Unit], IntKind.i64.wrap (Z1 + Z2) = Z1 + Z2 := by intro _; exact w64 (by omega) (by omega)
  simp [onev, one, z1, hq, z2]
  by_cases g1 : Z1 < 0
  · simp [g1]
  · rw [same g1]
    by_cases g2 : Z2 < 0 <;> simp [g1, g2, e1]
theorem sReplyTime_d {v : Value} {u : Value × Value} {w h : Int} {b A B : List Int} {i a c k l n : Int} (o1 : dMesh.Ow H v (w, h, b)) (o2 : dClasses.Ow H u (A, B)) :
   vcall C frz 13 [dMesh.val v (w, h, b), dClasses.val u (A, B), .agg #[.int .i64 i, .int .i64 a, .int .i64 c, .int .i64 k, .int .i64 l], .int .i64 n] H = some (.int .i64 (replyTime w h b A B (i, a, c, k, l) n), H) :=
  sReplyTime_c w h v u.1 u.2 b A B i a c k l n o1.1.rd.isI o2.1.1.rd.isI o2.2.1.rd.isI o1.2
theorem toPacket_c (i a c k l : Int) : vcall C frz 16 [.agg #[.int .i64 i, .int .i64 a, .int .i64 c, .int .i64 k, .int .i64 l]] H = some (.agg #[.int .i64 i, .int .i64 a, .int .i64 c, .int .i64 k, .int .i64 l], H) := by
  rw [vcall_go (fn := Try.f16) Try.func16 rfl (by kernel_rfl) rfl]
  simp
end Go.Proofs.Ytcigpclbhfkgaaa.V
/-! Valid networks. -/
set_option linter.all false
namespace Go.Proofs.Ytcigpclbhfkgaaa.V
open Go Go.VM Go.Proofs
set_option maxRecDepth 10000
variable {frz : Nat} {H : Heap}
def flitOk (w h : Int) (f : FlitD) : Prop := isN w h f.2.1 ∧ inR 0 f.2.2.1 1
instance (w h : Int) (f : FlitD) : Decidable (flitOk w h f) := inferInstanceAs (Decidable (_ ∧ _))
def flitsOk (w h : Int) (l : List FlitD) : Prop := ∀ f ∈ l, flitOk w h f
instance (w h : Int) (l : List FlitD) : Decidable (flitsOk w h l) := inferInstanceAs (Decidable (∀ f ∈ l, flitOk w h f))
def sizesOk (x : NetD) : Prop := (x.2.2.1.length : Int) = 10 * cnt x.1.1 x.1.2.1 ∧ (x.2.2.2.1.length : Int) = 10 * cnt x.1.1 x.1.2.1 ∧ (x.2.2.2.2.1.length : Int) = 5 * cnt x.1.1 x.1.2.1 ∧ (x.2.2.2.2.2.1.length : Int) = cnt x.1.1 x.1.2.1 ∧ (x.2.2.2.2.2.2.1.length : Int) = cnt x.1.1 x.1.2.1
instance (x : NetD) : Decidable (sizesOk x) := inferInstanceAs (Decidable (_ ∧ _))
def bufOk (w h : Int) (l : List FlitD) (c : Int) : Prop := l.length ≤ 3 ∧ (∀ f ∈ l, f.2.2.1 = c) ∧ flitsOk w h l
instance (w h : Int) (l : List FlitD) (c : Int) : Decidable (bufOk w h l c) := inferInstanceAs (Decidable (_ ∧ _))
def srcOk (w h : Int) (l : List FlitD) : Prop := l.length ≤ 60 ∧ flitsOk w h l
instance (w h : Int) (l : List FlitD) : Decidable (srcOk w h l) := inferInstanceAs (Decidable (_ ∧ _))
/-- a valid network -/
def netOk (x : NetD) : Prop := classesOk x.1.1 x.1.2.1 x.1.2.2 x.2.1.1 x.2.1.2 ∧ sizesOk x ∧ (∀ i, i < x.2.2.1.length → bufOk x.1.1 x.1.2.1 (x.2.2.1.getD i []) ((i : Int) % 2)) ∧ (∀ l ∈ x.2.2.2.2.2.1, srcOk x.1.1 x.1.2.1 l) ∧
  (∀ o ∈ x.2.2.2.1, inR (-1) o 4) ∧ (∀ o ∈ x.2.2.2.2.1, inR 0 o 9) ∧ inR 0 x.2.2.2.2.2.2.2 1000000
instance (x : NetD) : Decidable (netOk x) := inferInstanceAs (Decidable (_ ∧ _))
theorem areFlits_c (w h : Int) (v : Value) (xs : List FlitD) (hI : Rd flF H v xs) (hl : xs.length ≤ 1073741824) :
   vcall C frz 107 [.agg #[.int .i64 w, .int .i64 h], v] H = some (.bool (decide (flitsOk w h xs)), H) := by
  refine wp.exact (by simp) ?_ rfl
  rw [vcall_go (fn := Try.f107) Try.func107 rfl (by kernel_rfl) rfl]
  generalize hB : decide (flitsOk w h xs) = B
  simp [hI.app.len (P := Try.prog) (ty := 123) (by simp)]
  refine wp_inv (fun n t H' => ∃ i : Nat, n = xs.length - i ∧ i ≤ xs.length ∧ t 2 = .pointer (some ⟨H.length, 0, some 0⟩) ∧ t 7 = v ∧ t 8 = .int .i64 xs.length ∧ t 9 = .int .i64 i ∧ Chg H H' [] ∧ H'[H.length]? = some ⟨[.int .i64 w, .int .i64 h], 0, 36⟩ ∧ ∀ f ∈ xs.take i, flitOk w h f) ?_ (n := xs.length)
    ⟨0, rfl, by omega, by simp, by simp, by simp, by simp, Chg.app _, by simp, by simp⟩
  rintro n t H' ⟨i, rfl, hi, t2, t7, t8, t9, c, b2, hk⟩ ih
  simp [t2, t7, t8, t9]
  refine wp_dec ?_ ?_ <;> intro g
  · have hi' : i < xs.length := by omega
    have rd := hI.chg c (by simp)
    have q1 := rd.idx (P := Try.prog) (ty := 123) (e := 134) (by simp) (i := (i : Int)) (by omega) (by omega)
    have q2 := rd.load (P := Try.prog) (e := 134) (by simp) hi'
    simp only [Int.toNat_natCast, flF_n] at q1 q2
    have l0 := c.1
    have hF : H.length ≤ H'.length := l0
    have b2' := fun r => box_chg (get_app' b2 [r]) (chg_set H'.length r) (by simp; have := box_lt b2; omega)
    have hlt := box_lt b2
    have hne : H'.length ≠ H.length := by omega
    have key : flitOk w h xs[i] ↔ isN w h xs[i].2.1 ∧ inR 0 xs[i].2.2.1 1 := Iff.rfl
    have hsucc : ∀ f ∈ xs.take (i + 1), f ∈ xs.take i ∨ f = xs[i] := fun f hf => by
      rw [List.take_succ_eq_append_getElem hi'] at hf
      rcases List.mem_append.1 hf with hf | hf
      · exact .inl hf
      · exact .inr (List.mem_singleton.1 hf)
    have hno : ¬ flitOk w h xs[i] → ¬ flitsOk w h xs := fun hh k => hh (k _ (List.getElem_mem hi'))
    simp [t2, t7, t8, t9, q1, q2, hF, flF_f, VM.look, b2, get_app' b2, isNode_c, inside_c]
    by_cases g1 : isN w h xs[i].2.1
    · by_cases g2 : inR 0 xs[i].2.2.1 1
      · simp [t2, t7, t8, t9, g1, g2, inside_c]
        refine ih (xs.length - (i + 1)) _ _ ⟨i + 1, rfl, by omega, by simp [t2], by simp [t7], by simp [t8], ?_, c.trans (Chg.app _), get_app' b2 _, fun f hf => ?_⟩ (by omega)
        · simp; rw [w64 (by omega) (by omega)]
        · rcases hsucc f hf with hf | rfl
          · exact hk f hf
          · exact ⟨g1, g2⟩
      · simp [t2, t7, t8, t9, g1, g2, inside_c]
        rw [← hB]; exact decide_eq_false (hno (fun hh => g2 hh.2))
    · simp [t2, t7, t8, t9, g1]
      rw [← hB]; exact decide_eq_false (hno (fun hh => g1 hh.1))
  · have : i = xs.length := by omega
    subst this
    rw [List.take_length] at hk
    simp [t2, t7, t8, t9]
    rw [← hB]; exact decide_eq_true hk
theorem l15Flits_c (w h : Int) (v : Value) (xs : List FlitD) (hI : Rd flF H v xs) (hl : xs.length ≤ 1073741824) :
   vcall C frz 119 [.agg #[.int .i64 w, .int .i64 h], v] H = some (.bool (decide (flitsOk w h xs)), H) := by
  refine wp.exact (by simp) ?_ rfl
  rw [vcall_go (fn := Try.f119) Try.func119 rfl (by kernel_rfl) rfl]
  generalize hB : decide (flitsOk w h xs) = B
  simp
  have rd : Rd flF (H ++ [⟨[.int .i64 w, .int .i64 h], 0, 36⟩]) v xs := hI.app
  refine wp_inv (fun n t H' => ∃ i : Nat, n = xs.length - i ∧ i ≤ xs.length ∧ t 1 = v ∧ t 2 = .pointer (some ⟨H.length, 0, some 0⟩) ∧ t 5 = .int .i64 i ∧ H' = H ++ [⟨[.int .i64 w, .int .i64 h], 0, 36⟩] ∧ ∀ f ∈ xs.take i, flitOk w h f) ?_ (n := xs.length)
    ⟨0, rfl, by omega, by simp, by simp, by simp, rfl, by simp⟩
  rintro n t H' ⟨i, rfl, hi, t1, t2, t5, rfl, hk⟩ ih
  simp [t1, t2, t5, rd.len (P := Try.prog) (ty := 123) (by simp)]
  refine wp_dec ?_ ?_ <;> intro g
  · have hi' : i < xs.length := by omega
    have q1 := rd.idx (P := Try.prog) (ty := 123) (e := 134) (by simp) (i := (i : Int)) (by omega) (by omega)
    have q2 := rd.cell (P := Try.prog) (e := 3) (by simp) hi' (c := 1) (by decide)
    have q3 := rd.cell (P := Try.prog) (e := 3) (by simp) hi' (c := 2) (by decide)
    have q4 := rd.field (P := Try.prog) (s := 134) (f := 1) (o := 1) (n := 1) (ag := false) (by simp) (j := i * 5) (by omega)
    have q5 := rd.field (P := Try.prog) (s := 134) (f := 2) (o := 2) (n := 1) (ag := false) (by simp) (j := i * 5) (by omega)
    simp only [Int.toNat_natCast, flF_n, flF_f] at q1 q2 q3
    simp at q2 q3
    have hsucc : ∀ f ∈ xs.take (i + 1), f ∈ xs.take i ∨ f = xs[i] := fun f hf => by
      rw [List.take_succ_eq_append_getElem hi'] at hf
      rcases List.mem_append.1 hf with hf | hf
      · exact .inl hf
      · exact .inr (List.mem_singleton.1 hf)
    have hno : ¬ flitOk w h xs[i] → ¬ flitsOk w h xs := fun hh k => hh (k _ (List.getElem_mem hi'))
    simp [t1, t2, t5]
    rw [go_draw (h := by kernel_rfl)]
    simp [-vfieldAddr, vfa_ptr, t1, t2, t5, q1, q2, q3, q4, q5, l02Has_c]
    by_cases g1 : isN w h xs[i].2.1
    · by_cases g2 : inR 0 xs[i].2.2.1 1
      · simp [-vfieldAddr, vfa_ptr, t1, t2, t5, g1, g2, l01In_c, q1, q5, q3]
        refine ih (xs.length - (i + 1)) _ _ ⟨i + 1, rfl, by omega, by simp [t1], by simp [t2], ?_, rfl, fun f hf => ?_⟩ (by omega)
        · simp; rw [w64 (by omega) (by omega)]
        · rcases hsucc f hf with hf | rfl
          · exact hk f hf
          · exact ⟨g1, g2⟩
      · simp [-vfieldAddr, vfa_ptr, t1, t2, t5, g1, g2, l01In_c, q1, q5, q3]
        rw [← hB]; exact decide_eq_false (hno (fun hh => g2 hh.2))
    · simp [t1, t2, t5, g1]
      rw [← hB]; exact decide_eq_false (hno (fun hh => g1 hh.1))
  · have : i = xs.length := by omega
    subst this
    rw [List.take_length] at hk
    simp [t1, t2, t5]
    rw [← hB]; exact decide_eq_true hk
theorem classOnly_w (v : Value) (xs : List FlitD) (c : Int) (hI : Rd flF H v xs) (hl : xs.length ≤ 1073741824) :
   wp (vcall C frz 106 [v, .int .i64 c] H) (fun r H' => Ow flF 134 H' r (xs.filter fun f => f.2.2.1 = c) ∧ (∀ i ∈ ids r, H.length ≤ i) ∧ Chg H H' []) := by
  rw [vcall_go (fn := Try.f106) Try.func106 rfl (by kernel_rfl) rfl]
  simp [hI.app.len (P := Try.prog) (ty := 123) (by simp)]
  refine wp_inv (fun n t H' => ∃ (i : Nat) (r : Value), n = xs.length - i ∧ i ≤ xs.length ∧ t 1 = .int .i64 c ∧ t 5 = r ∧ t 9 = v ∧ t 10 = .int .i64 xs.length ∧ t 11 = .int .i64 i ∧ Chg H H' [] ∧ Ow flF 134 H' r ((xs.take i).filter fun f => f.2.2.1 = c) ∧ (∀ j ∈ ids r, H.length ≤ j)) ?_ (n := xs.length)
    ⟨0, .slice (some ⟨H.length, 0, some 0⟩) 0 0, rfl, by omega, by simp, by simp, by simp, by simp, by simp, Chg.app _, Ow.new0 (D := flF) (xs := []) rfl rfl rfl rfl, by simp⟩
  rintro n t H' ⟨i, r, rfl, hi, t1, t5, t9, t10, t11, ch, o, nr⟩ ih
  simp [t1, t5, t9, t10, t11]
  refine wp_dec ?_ ?_ <;> intro g
  · have hi' : i < xs.length := by omega
    have rd := hI.chg ch (by simp)
    have q1 := rd.idx (P := Try.prog) (ty := 123) (e := 134) (by simp) (i := (i : Int)) (by omega) (by omega)
    have q2 := rd.load (P := Try.prog) (e := 134) (by simp) hi'
    simp only [Int.toNat_natCast, flF_n] at q1 q2
    have hF : H.length ≤ H'.length := ch.1
    have hfl := List.length_filter_le (fun f : FlitD => decide (f.2.2.1 = c)) (xs.take i)
    have htl : (xs.take i).length ≤ i := by simp; omega
    simp [t1, t5, t9, t10, t11, q1, q2, hF, flF_f, VM.look]
    refine wp_dec ?_ ?_ <;> intro g1
    · obtain ⟨r', H2, hap, o2, c2, n2⟩ := (o.app (L := [⟨flF.f xs[i], 0, 134⟩])).push (P := Try.prog) (frz := H.length) (ty := 123) (a := xs[i]) (by simp) rfl (by omega) nr
      simp only [flF_f, List.append_assoc, List.cons_append, List.nil_append, List.length_append, List.length_cons, List.length_nil] at hap
      simp [t1, t5, t9, t10, t11, hap]
      refine ih (xs.length - (i + 1)) _ _ ⟨i + 1, r', rfl, by omega, by simp [t1], by simp, by simp [t9], by simp [t10], ?_, (ch.trans (Chg.app _)).trans' c2 (fun j hj => .inr (nr j hj)), ?_, fun j hj => ?_⟩ (by omega)
      · simp; rw [w64 (by omega) (by omega)]
      · rw [List.take_succ_eq_append_getElem hi', List.filter_append]; simpa [g1] using o2
      · rcases n2 j hj with h1 | h1
        · exact nr j h1
        · simp at h1; omega
    · simp [t1, t5, t9, t10, t11, g1]
      refine ih (xs.length - (i + 1)) _ _ ⟨i + 1, r, rfl, by omega, by simp [t1], by simp [t5], by simp [t9], by simp [t10], ?_, ch.trans (Chg.app _), ?_, nr⟩ (by omega)
      · simp; rw [w64 (by omega) (by omega)]
      · rw [List.take_succ_eq_append_getElem hi', List.filter_append]; simpa [g1] using o.app
  · have : i = xs.length := by omega
    subst this
    rw [List.take_length] at o
    simp [t1, t5, t9, t10, t11]
    exact ⟨o, nr, ch⟩
end Go.Proofs.Ytcigpclbhfkgaaa.V
/-! Valid networks: what the program and the reference say. -/
set_option linter.all false
namespace Go.Proofs.Ytcigpclbhfkgaaa.V
open Go Go.VM Go.Proofs
set_option maxRecDepth 10000
variable {frz : Nat} {H : Heap}
theorem filter_len_all {l : List FlitD} {c : Int} : (l.filter fun f => f.2.2.1 = c).length = l.length ↔ ∀ f ∈ l, f.2.2.1 = c := by
  rw [List.length_filter_eq_length_iff]; simp
theorem tmod2 (i : Nat) : (i : Int).tmod 2 = (i : Int) % 2 := Int.tmod_eq_emod_of_nonneg (by omega)
theorem getD_at {α : Type} {l : List α} {d : α} {i : Nat} (h : i < l.length) : l.getD i d = l[i] := by simp [List.getD_eq_getElem?_getD, h]
theorem mem_take_succ {α : Type} {l : List α} {i : Nat} (h : i < l.length) {x : α} (hx : x ∈ l.take (i + 1)) : x ∈ l.take i ∨ x = l[i] := by
  rw [List.take_succ_eq_append_getElem h] at hx
  rcases List.mem_append.1 hx with hx | hx
  · exact .inl hx
  · exact .inr (List.mem_singleton.1 hx)
theorem netOk_d {v : NetV} {x : NetD} (o : dNet.Ow H v x) : vcall C frz 49 [dNet.val v x] H = some (.bool (decide (netOk x)), H) := by
  have oo := dNet_one o
  obtain ⟨u2, ⟨u3, u4⟩, ⟨u5, h5⟩, u6, u7, ⟨u8, h8⟩, ⟨u9, h9⟩, _⟩ := v
  obtain ⟨⟨w, h, b⟩, ⟨A, B⟩, buf, own, turn, src, arr, tm⟩ := x
  obtain ⟨o2, o3, o5, o6, o7, o8, o9, _⟩ := o
  simp only at o2 o3 o5 o6 o7 o8 o9
  obtain ⟨p2, p3, p4, p5, p6, p7, p8, p9⟩ := oo
  simp only at p2 p3 p4 p5 p6 p7 p8 p9
  rw [dNet_val]
  refine wp.exact (by simp) ?_ rfl
  rw [vcall_go (fn := Try.f49) Try.func49 rfl (by kernel_rfl) rfl]
  generalize hY : decide (netOk ((w, h, b), (A, B), buf, own, turn, src, arr, tm)) = Y
  obtain ⟨N, hN⟩ : ∃ N : Nat, cnt w h = N := ⟨(cnt w h).toNat, by have := cnt_range w h; omega⟩
  have hN2 : N ≤ 16 := by have := cnt_range w h; omega
  have w10 : ∀ [Inhabited Unit], IntKind.i64.wrap (10 * (N : Int)) = 10 * (N : Int) := by intro _; exact w64 (by omega) (by omega)
  have w5 : ∀ [Inhabited Unit], IntKind.i64.wrap (5 * (N : Int)) = 5 * (N : Int) := by intro _; exact w64 (by omega) (by omega)
  have cok := fun F L => classesOk_c (frz := F) (H := H ++ L) w h u2 u3 u4 b A B (Rd.isI o2.1.rd.app) (Rd.isI o3.1.1.rd.app) (Rd.isI o3.2.1.rd.app) o2.2
  have ln5 := fun (L : Heap) => (RdL.app (L := L) o5.1.rd).1.len (P := Try.prog) (ty := 57) (by simp)
  have ln8 := fun (L : Heap) => (RdL.app (L := L) o8.1.rd).1.len (P := Try.prog) (ty := 57) (by simp)
  have ln9 := fun (L : Heap) => (RdL.app (L := L) o9.1.rd).1.len (P := Try.prog) (ty := 57) (by simp)
  have ln6 := fun (L : Heap) => (Rd.app (L := L) o6.1.rd).len (P := Try.prog) (ty := 24) (by simp)
  have ln7 := fun (L : Heap) => (Rd.app (L := L) o7.1.rd).len (P := Try.prog) (ty := 24) (by simp)
  have hl5 := o5.1.rd.2.1
  have hl8 := o8.1.rd.2.1
  have hl9 := o9.1.rd.2.1
  have hb5 := o5.2.1
  have hb8 := o8.2.1
  simp only at ln5 ln8 ln9 ln6 ln7 hl5 hl8 hl9 hb5 hb8
  have no : ¬ netOk ((w, h, b), (A, B), buf, own, turn, src, arr, tm) → false = Y := fun hh => by rw [← hY]; exact (decide_eq_false hh).symm
  have no' : ¬ netOk ((w, h, b), (A, B), buf, own, turn, src, arr, tm) → Y = false := fun hh => (no hh).symm
  have ones := And.intro p2 (And.intro p3 (And.intro p4 (And.intro p5 (And.intro p6 (And.intro p7 (And.intro p8 p9))))))
  simp [ones, nodeCount_c, hN, cok, w10, w5]
  by_cases c1 : classesOk w h b A B
  rotate_left
  · simp [c1]; exact no' (fun k => c1 k.1)
  by_cases c2 : (buf.length : Int) = 10 * N
  rotate_left
  · simp [c1, c2, ones, ln5, hl5, w10]; exact no' (fun k => c2 (by have := k.2.1.1; simp only [hN] at this; exact this))
  by_cases c3 : (own.length : Int) = 10 * N
  rotate_left
  · simp [c1, c2, c3, ones, ln5, hl5, ln6, w10]; exact no' (fun k => c3 (by have := k.2.1.2.1; simp only [hN] at this; exact this))
  by_cases c4 : (turn.length : Int) = 5 * N
  rotate_left
  · simp [c1, c2, c3, c4, ones, ln5, hl5, ln6, ln7, w10, w5]; exact no' (fun k => c4 (by have := k.2.1.2.2.1; simp only [hN] at this; exact this))
  by_cases c5 : (src.length : Int) = N
  rotate_left
  · simp [c1, c2, c3, c4, c5, ones, ln5, hl5, ln6, ln7, ln8, hl8, w10, w5]; exact no' (fun k => c5 (by have := k.2.1.2.2.2.1; simp only [hN] at this; exact this))
  by_cases c6 : (arr.length : Int) = N
  rotate_left
  · simp [c1, c2, c3, c4, c5, c6, ones, ln5, hl5, ln6, ln7, ln8, hl8, ln9, hl9, w10, w5]; exact no' (fun k => c6 (by have := k.2.1.2.2.2.2; simp only [hN] at this; exact this))
  have hsz : sizesOk ((w, h, b), (A, B), buf, own, turn, src, arr, tm) := by unfold sizesOk; simp only [hN]; exact ⟨c2, c3, c4, c5, c6⟩
  simp [c1, c2, c3, c4, c5, c6, ones, ln5, hl5, ln6, ln7, ln8, hl8, ln9, hl9, w10, w5]
  refine wp_inv (fun n t H' => ∃ i : Nat, n = buf.length - i ∧ i ≤ buf.length ∧ t 1 = .pointer (some ⟨H.length, 0, some 0⟩) ∧ t 57 = u5 ∧ t 58 = .int .i64 buf.length ∧ t 59 = .int .i64 i ∧ Chg H H' [] ∧
      H'[H.length]? = some ⟨[.int .i64 w, .int .i64 h, u2, u3, u4, u5, u6, u7, u8, u9, .int .i64 tm], 0, 59⟩ ∧ ∀ j, j < i → bufOk w h (buf.getD j []) ((j : Int) % 2)) ?_ (n := buf.length)
    ⟨0, rfl, by omega, by simp, by simp, by simp [c2], by simp, Chg.app _, by simp, by omega⟩
  rintro n t H' ⟨i, rfl, hi, t1, t57, t58, t59, ch, b0, hk⟩ ih
  simp [t1, t57, t58, t59]
  refine wp_dec ?_ ?_ <;> intro g
  · have hi' : i < buf.length := by omega
    have rl := o5.1.rd.chg ch (by simp)
    obtain ⟨u, _, a2, a3, a4⟩ := RdL_at rl (ty := 57) (e := 123) (by simp) (by simp) hi'
    have hlen := o5.2.2 _ (List.getElem_mem hi')
    simp only at a2 a3 a4 hlen
    have lu := a4.len (P := Try.prog) (ty := 123) (by simp)
    have hbg : buf.getD i [] = buf[i] := getD_at hi'
    have bad : ¬ bufOk w h buf[i] ((i : Int) % 2) → Y = false := fun hh => no' (fun k => hh (by have := k.2.2.1 i hi'; simp only [hbg] at this; exact this))
    obtain ⟨l, hl⟩ : ∃ l, l = buf[i] := ⟨_, rfl⟩
    rw [← hl] at a4 lu hlen bad hbg
    simp [t1, t57, t58, t59, a2, a3, lu]
    by_cases g1 : l.length ≤ 3
    rotate_left
    · have g1' : (3 : Int) < l.length := by omega
      simp [g1']; exact bad (fun k => g1 k.1)
    have g1' : ¬ (3 : Int) < l.length := by omega
    simp [g1', t1, t57, t58, t59, tmod2]
    refine wp_thn (classOnly_w u l ((i : Int) % 2) a4 (by omega)) ?_
    rintro r H2 ⟨orr, nr, cc⟩
    have b0 := box_chg b0 cc (by simp)
    have lr := orr.rd.len (P := Try.prog) (ty := 123) (by simp)
    have lu2 := (a4.chg cc (by simp)).len (P := Try.prog) (ty := 123) (by simp)
    have hfl := filter_len_all (l := l) (c := (i : Int) % 2)
    generalize (l.filter fun f => f.2.2.1 = (i : Int) % 2).length = q at *
    simp [t1, t57, t58, t59, lr, lu2]
    by_cases g2 : q = l.length
    rotate_left
    · have g2' : ¬ (q : Int) = l.length := by omega
      simp [g2']; exact bad (fun k => g2 (hfl.2 k.2.1))
    have af := fun F => areFlits_c (frz := F) (H := H2) w h u l (a4.chg cc (by simp)) (by omega)
    simp [g2, t1, t57, t58, t59, VM.look, b0, af]
    by_cases g3 : flitsOk w h l
    rotate_left
    · simp [g3]; exact bad (fun k => g3 k.2.2)
    simp [g3, t1, t57, t58, t59]
    refine ih (buf.length - (i + 1)) _ _ ⟨i + 1, rfl, by omega, by simp [t1], by simp [t57], by simp [t58], ?_, ch.trans cc, b0, fun j hj => ?_⟩ (by omega)
    · simp; rw [w64 (by omega) (by omega)]
    · by_cases hji : j < i
      · exact hk j hji
      · have : j = i := by omega
        subst this
        rw [hbg]; exact ⟨g1, hfl.1 g2, g3⟩
  · have : i = buf.length := by omega
    subst this
    clear ih
    have l8 := (o8.1.rd.chg ch (by simp)).1.len (P := Try.prog) (ty := 57) (by simp)
    simp only at l8
    simp [t1, t57, t58, t59, VM.look, b0, ones, l8, hl8]
    refine wp_inv (fun n t H2 => ∃ i : Nat, n = src.length - i ∧ i ≤ src.length ∧ t 1 = .pointer (some ⟨H.length, 0, some 0⟩) ∧ t 87 = u8 ∧ t 88 = .int .i64 src.length ∧ t 89 = .int .i64 i ∧ H2 = H' ∧ ∀ l ∈ src.take i, srcOk w h l) ?_ (n := src.length)
      ⟨0, rfl, by omega, by simp [t1], by simp, by simp, by simp, rfl, by simp⟩
    clear t1 t57 t58 t59
    rintro n t H2 ⟨i, rfl, hi, t1, t87, t88, t89, rfl, hk2⟩ ih
    simp [t1, t87, t88, t89]
    refine wp_dec ?_ ?_ <;> intro g
    · have hi' : i < src.length := by omega
      have rl := o8.1.rd.chg ch (by simp)
      obtain ⟨u, _, a2, a3, a4⟩ := RdL_at rl (ty := 57) (e := 123) (by simp) (by simp) hi'
      have hlen := o8.2.2 _ (List.getElem_mem hi')
      simp only at a2 a3 a4 hlen
      have lu := a4.len (P := Try.prog) (ty := 123) (by simp)
      have bad : ¬ srcOk w h src[i] → Y = false := fun hh => no' (fun k => hh (k.2.2.2.1 _ (List.getElem_mem hi')))
      have hst := fun {x} (hx : x ∈ src.take (i + 1)) => mem_take_succ hi' hx
      obtain ⟨l, hl⟩ : ∃ l, l = src[i] := ⟨_, rfl⟩
      rw [← hl] at a4 lu hlen bad hst
      simp [t1, t87, t88, t89, a2, a3, lu]
      by_cases g1 : l.length ≤ 60
      rotate_left
      · have g1' : (60 : Int) < l.length := by omega
        simp [g1']; exact bad (fun k => g1 k.1)
      have g1' : ¬ (60 : Int) < l.length := by omega
      have af := fun F => areFlits_c (frz := F) (H := H2) w h u l a4 (by omega)
      simp [g1', t1, t87, t88, t89, VM.look, b0, af]
      by_cases g3 : flitsOk w h l
      rotate_left
      · simp [g3]; exact bad (fun k => g3 k.2)
      simp [g3, t1, t87, t88, t89]
      refine ih (src.length - (i + 1)) _ _ ⟨i + 1, rfl, by omega, by simp [t1], by simp [t87], by simp [t88], ?_, rfl, fun x hx => ?_⟩ (by omega)
      · simp; rw [w64 (by omega) (by omega)]
      · rcases hst hx with hx | rfl
        · exact hk2 x hx
        · exact ⟨g1, g3⟩
    · have : i = src.length := by omega
      subst this
      rw [List.take_length] at hk2
      have ai := fun F => areInside_c (frz := F) (H := H2) u6 own (-1) 4 (Rd.isI (o6.1.rd.chg ch (by simp))) (by have := o6.2; omega)
      have ai2 := fun F => areInside_c (frz := F) (H := H2) u7 turn 0 9 (Rd.isI (o7.1.rd.chg ch (by simp))) (by have := o7.2; omega)
      have ai3 := fun F => inside_c (frz := F) (H := H2) tm 0 1000000
      have hiff : netOk ((w, h, b), (A, B), buf, own, turn, src, arr, tm) ↔ (∀ x ∈ own, inR (-1) x 4) ∧ (∀ x ∈ turn, inR 0 x 9) ∧ inR 0 tm 1000000 :=
        ⟨fun k => k.2.2.2.2, fun k => ⟨c1, hsz, hk, hk2, k⟩⟩
      have hY2 : Y = (decide (∀ x ∈ own, inR (-1) x 4) && decide (∀ x ∈ turn, inR 0 x 9) && decide (inR 0 tm 1000000)) := by
        rw [← hY, Bool.eq_iff_iff]; simp only [decide_eq_true_eq, Bool.and_eq_true, and_assoc]; exact hiff
      generalize decide (∀ x ∈ own, inR (-1) x 4) = P1 at *
      generalize decide (∀ x ∈ turn, inR 0 x 9) = P2 at *
      generalize decide (inR 0 tm 1000000) = P3 at *
      simp [t1, t87, t88, t89, VM.look, b0, ones, ai, ai2, ai3, hY2]
      cases P1 <;> cases P2 <;> cases P3 <;> simp [t1, VM.look, b0, ones, ai2, ai3]
theorem sNetOk_d {v : NetV} {x : NetD} (o : dNet.Ow H v x) : vcall C frz 66 [dNet.val v x] H = some (.bool (decide (netOk x)), H) := by
  have oo := dNet_one o
  obtain ⟨u2, ⟨u3, u4⟩, ⟨u5, h5⟩, u6, u7, ⟨u8, h8⟩, ⟨u9, h9⟩, _⟩ := v
  obtain ⟨⟨w, h, b⟩, ⟨A, B⟩, buf, own, turn, src, arr, tm⟩ := x
  obtain ⟨o2, o3, o5, o6, o7, o8, o9, _⟩ := o
  simp only at o2 o3 o5 o6 o7 o8 o9
  obtain ⟨p2, p3, p4, p5, p6, p7, p8, p9⟩ := oo
  simp only at p2 p3 p4 p5 p6 p7 p8 p9
  rw [dNet_val]
  refine wp.exact (by simp) ?_ rfl
  rw [vcall_go (fn := Try.f66) Try.func66 rfl (by kernel_rfl) rfl]
  generalize hY : decide (netOk ((w, h, b), (A, B), buf, own, turn, src, arr, tm)) = Y
  obtain ⟨N, hN⟩ : ∃ N : Nat, cnt w h = N := ⟨(cnt w h).toNat, by have := cnt_range w h; omega⟩
  have hN2 : N ≤ 16 := by have := cnt_range w h; omega
  have w10 : ∀ [Inhabited Unit], IntKind.i64.wrap (10 * (N : Int)) = 10 * (N : Int) := by intro _; exact w64 (by omega) (by omega)
  have w5 : ∀ [Inhabited Unit], IntKind.i64.wrap (5 * (N : Int)) = 5 * (N : Int) := by intro _; exact w64 (by omega) (by omega)
  have cok := fun F L => sClassesOk_c (frz := F) (H := H ++ L) w h u2 u3 u4 b A B (Rd.isI o2.1.rd.app) (Rd.isI o3.1.1.rd.app) (Rd.isI o3.2.1.rd.app) o2.2
  have ln5 := fun (L : Heap) => (RdL.app (L := L) o5.1.rd).1.len (P := Try.prog) (ty := 57) (by simp)
  have ln8 := fun (L : Heap) => (RdL.app (L := L) o8.1.rd).1.len (P := Try.prog) (ty := 57) (by simp)
  have ln9 := fun (L : Heap) => (RdL.app (L := L) o9.1.rd).1.len (P := Try.prog) (ty := 57) (by simp)
  have ln6 := fun (L : Heap) => (Rd.app (L := L) o6.1.rd).len (P := Try.prog) (ty := 24) (by simp)
  have ln7 := fun (L : Heap) => (Rd.app (L := L) o7.1.rd).len (P := Try.prog) (ty := 24) (by simp)
  have hl5 := o5.1.rd.2.1
  have hl8 := o8.1.rd.2.1
  have hl9 := o9.1.rd.2.1
  have hb5 := o5.2.1
  have hb8 := o8.2.1
  simp only at ln5 ln8 ln9 ln6 ln7 hl5 hl8 hl9 hb5 hb8
  have no : ¬ netOk ((w, h, b), (A, B), buf, own, turn, src, arr, tm) → false = Y := fun hh => by rw [← hY]; exact (decide_eq_false hh).symm
  have no' : ¬ netOk ((w, h, b), (A, B), buf, own, turn, src, arr, tm) → Y = false := fun hh => (no hh).symm
  have ones := And.intro p2 (And.intro p3 (And.intro p4 (And.intro p5 (And.intro p6 (And.intro p7 (And.intro p8 p9))))))
  simp [ones, sNodeCount_c, hN, cok, w10, w5]
  by_cases c1 : classesOk w h b A B
  rotate_left
  · simp [c1]; exact no' (fun k => c1 k.1)
  by_cases c2 : (buf.length : Int) = 10 * N
  rotate_left
  · simp [c1, c2, ones, ln5, hl5, w10]; exact no' (fun k => c2 (by have := k.2.1.1; simp only [hN] at this; exact this))
  by_cases c3 : (own.length : Int) = 10 * N
  rotate_left
  · simp [c1, c2, c3, ones, ln5, hl5, ln6, w10]; exact no' (fun k => c3 (by have := k.2.1.2.1; simp only [hN] at this; exact this))
  by_cases c4 : (turn.length : Int) = 5 * N
  rotate_left
  · simp [c1, c2, c3, c4, ones, ln5, hl5, ln6, ln7, w10, w5]; exact no' (fun k => c4 (by have := k.2.1.2.2.1; simp only [hN] at this; exact this))
  by_cases c5 : (src.length : Int) = N
  rotate_left
  · simp [c1, c2, c3, c4, c5, ones, ln5, hl5, ln6, ln7, ln8, hl8, w10, w5]; exact no' (fun k => c5 (by have := k.2.1.2.2.2.1; simp only [hN] at this; exact this))
  by_cases c6 : (arr.length : Int) = N
  rotate_left
  · simp [c1, c2, c3, c4, c5, c6, ones, ln5, hl5, ln6, ln7, ln8, hl8, ln9, hl9, w10, w5]; exact no' (fun k => c6 (by have := k.2.1.2.2.2.2; simp only [hN] at this; exact this))
  by_cases c7 : inR 0 tm 1000000
  rotate_left
  · simp [c1, c2, c3, c4, c5, c6, c7, l01In_c, ones, ln5, hl5, ln6, ln7, ln8, hl8, ln9, hl9, w10, w5]; exact no' (fun k => c7 k.2.2.2.2.2.2)
  have hsz : sizesOk ((w, h, b), (A, B), buf, own, turn, src, arr, tm) := by unfold sizesOk; simp only [hN]; exact ⟨c2, c3, c4, c5, c6⟩
  simp [c1, c2, c3, c4, c5, c6, c7, l01In_c, ones, ln5, hl5, ln6, ln7, ln8, hl8, ln9, hl9, w10, w5]
  have hbl : buf.length = 10 * N := by omega
  have hol : own.length = 10 * N := by omega
  have htl : turn.length = 5 * N := by omega
  have hsl : src.length = N := by omega
  obtain ⟨G, hG⟩ : ∃ G, G = H ++ [⟨[.int .i64 w, .int .i64 h, u2, u3, u4, u5, u6, u7, u8, u9, .int .i64 tm], 0, 59⟩] := ⟨_, rfl⟩
  rw [← hG]
  have b0 : G[H.length]? = some ⟨[.int .i64 w, .int .i64 h, u2, u3, u4, u5, u6, u7, u8, u9, .int .i64 tm], 0, 59⟩ := by rw [hG]; simp
  have ch : Chg H G [] := by rw [hG]; exact Chg.app _
  clear hG
  have i6 : IsI G u6 own := Rd.isI (o6.1.rd.chg ch (by simp))
  have i7 : IsI G u7 turn := Rd.isI (o7.1.rd.chg ch (by simp))
  refine wp_inv (fun n t H' => ∃ i : Nat, n = 10 * N - i ∧ i ≤ 10 * N ∧ t 1 = .pointer (some ⟨H.length, 0, some 0⟩) ∧ t 3 = .int .i64 N ∧ t 4 = .int .i64 i ∧ H' = G ∧
      ∀ j, j < i → bufOk w h (buf.getD j []) ((j : Int) % 2) ∧ inR (-1) (own.getD j 0) 4) ?_ (n := 10 * N)
    ⟨0, rfl, by omega, by simp, by simp, by simp, rfl, by omega⟩
  rintro n t H' ⟨i, rfl, hi, t1, t3, t4, rfl, hk⟩ ih
  simp [t1, t3, t4, w10]
  refine wp_dec ?_ ?_ <;> intro g
  · have hi' : i < buf.length := by omega
    have hio : i < own.length := by omega
    have rl := o5.1.rd.chg ch (by simp)
    obtain ⟨u, _, a2, a3, a4⟩ := RdL_at rl (ty := 57) (e := 123) (by simp) (by simp) hi'
    have hlen := o5.2.2 _ (List.getElem_mem hi')
    simp only at a2 a3 a4 hlen
    have lu := a4.len (P := Try.prog) (ty := 123) (by simp)
    have hbg : buf.getD i [] = buf[i] := getD_at hi'
    have bad : ¬ bufOk w h buf[i] ((i : Int) % 2) → Y = false := fun hh => no' (fun k => hh (by have := k.2.2.1 i hi'; simp only [hbg] at this; exact this))
    obtain ⟨l, hl⟩ : ∃ l, l = buf[i] := ⟨_, rfl⟩
    rw [← hl] at a4 lu hlen bad hbg
    have q1 := i6.idx (P := Try.prog) (ty := 24) (e := 3) (by simp) (i := (i : Int)) (by omega) (by omega)
    have q2 := i6.load (P := Try.prog) (e := 3) (by simp) hio
    simp only [Int.toNat_natCast, getD_at hio] at q1 q2
    simp [t1, t3, t4, VM.look, b0, ones, a2, a3, lu]
    by_cases g1 : l.length ≤ 3
    rotate_left
    · have g1' : (3 : Int) < l.length := by omega
      simp [g1']; exact bad (fun k => g1 k.1)
    have g1' : ¬ (3 : Int) < l.length := by omega
    have af := fun F => l15Flits_c (frz := F) (H := H') w h u l a4 (by omega)
    simp [g1', t1, t3, t4, VM.look, b0, ones, af]
    by_cases g3 : flitsOk w h l
    rotate_left
    · simp [g3]; exact bad (fun k => g3 k.2.2)
    simp [g3, t1, t3, t4, VM.look, b0, ones, q1, q2, l01In_c]
    by_cases g4 : inR (-1) own[i] 4
    rotate_left
    · simp [g4]; exact no' (fun k => g4 (k.2.2.2.2.1 _ (List.getElem_mem hio)))
    simp [g4, t1, t3, t4]
    refine wp_inv (fun n t H2 => ∃ c : Nat, n = l.length - c ∧ c ≤ l.length ∧ t 1 = .pointer (some ⟨H.length, 0, some 0⟩) ∧ t 3 = .int .i64 N ∧ t 4 = .int .i64 i ∧ t 5 = u ∧ t 6 = .int .i64 c ∧ H2 = H' ∧ ∀ f ∈ l.take c, f.2.2.1 = (i : Int) % 2) ?_ (n := l.length)
      ⟨0, rfl, by omega, by simp [t1], by simp [t3], by simp [t4], by simp, by simp, rfl, by simp⟩
    clear t1 t3 t4
    rintro n t H2 ⟨c, rfl, hc, t1, t3, t4, t5, t6, rfl, hk3⟩ ih2
    simp [t1, t3, t4, t5, t6, lu]
    refine wp_dec ?_ ?_ <;> intro g5
    · have hc' : c < l.length := by omega
      have r1 := a4.idx (P := Try.prog) (ty := 123) (e := 134) (by simp) (i := (c : Int)) (by omega) (by omega)
      have r2 := a4.cell (P := Try.prog) (e := 3) (by simp) hc' (c := 2) (by decide)
      have r3 := a4.field (P := Try.prog) (s := 134) (f := 2) (o := 2) (n := 1) (ag := false) (by simp) (j := c * 5) (by omega)
      simp only [Int.toNat_natCast, flF_n, flF_f] at r1 r2
      simp at r2
      simp [-vfieldAddr, vfa_ptr, t1, t3, t4, t5, t6, r1, r2, r3, tmod2]
      refine wp_dec ?_ ?_ <;> intro g6
      · simp [t1, t3, t4, t5, t6]
        refine ih2 (l.length - (c + 1)) _ _ ⟨c + 1, rfl, by omega, by simp [t1], by simp [t3], by simp [t4], by simp [t5], ?_, rfl, fun f hf => ?_⟩ (by omega)
        · simp; rw [w64 (by omega) (by omega)]
        · rcases mem_take_succ hc' hf with hf | rfl
          · exact hk3 f hf
          · exact g6
      · simp [t1, t3, t4, t5, t6]
        exact bad (fun k => g6 (k.2.1 _ (List.getElem_mem hc')))
    · have : c = l.length := by omega
      subst this
      rw [List.take_length] at hk3
      simp [t1, t3, t4, t5, t6]
      refine ih (10 * N - (i + 1)) _ _ ⟨i + 1, rfl, by omega, by simp [t1], by simp [t3], ?_, rfl, fun j hj => ?_⟩ (by omega)
      · simp; rw [w64 (by omega) (by omega)]
      · by_cases hji : j < i
        · exact hk j hji
        · have : j = i := by omega
          subst this
          rw [hbg, getD_at hio]; exact ⟨⟨g1, hk3, g3⟩, g4⟩
  · have : i = 10 * N := by omega
    subst this
    clear ih
    simp [t1, t3, t4]
    refine wp_inv (fun n t H2 => ∃ i : Nat, n = 5 * N - i ∧ i ≤ 5 * N ∧ t 1 = .pointer (some ⟨H.length, 0, some 0⟩) ∧ t 3 = .int .i64 N ∧ t 7 = .int .i64 i ∧ H2 = H' ∧ ∀ x ∈ turn.take i, inR 0 x 9) ?_ (n := 5 * N)
      ⟨0, rfl, by omega, by simp [t1], by simp [t3], by simp, rfl, by simp⟩
    clear t1 t3 t4
    rintro n t H2 ⟨i, rfl, hi, t1, t3, t7, rfl, hk2⟩ ih
    simp [t1, t3, t7, w5]
    refine wp_dec ?_ ?_ <;> intro g
    · have hit : i < turn.length := by omega
      have q1 := i7.idx (P := Try.prog) (ty := 24) (e := 3) (by simp) (i := (i : Int)) (by omega) (by omega)
      have q2 := i7.load (P := Try.prog) (e := 3) (by simp) hit
      simp only [Int.toNat_natCast, getD_at hit] at q1 q2
      simp [t1, t3, t7, VM.look, b0, ones, q1, q2, l01In_c]
      by_cases g4 : inR 0 turn[i] 9
      rotate_left
      · simp [g4]; exact no' (fun k => g4 (k.2.2.2.2.2.1 _ (List.getElem_mem hit)))
      simp [g4, t1, t3, t7]
      refine ih (5 * N - (i + 1)) _ _ ⟨i + 1, rfl, by omega, by simp [t1], by simp [t3], ?_, rfl, fun x hx => ?_⟩ (by omega)
      · simp; rw [w64 (by omega) (by omega)]
      · rcases mem_take_succ hit hx with hx | rfl
        · exact hk2 x hx
        · exact g4
    · have : i = 5 * N := by omega
      subst this
      clear ih
      simp [t1, t3, t7]
      refine wp_inv (fun n t H' => ∃ i : Nat, n = N - i ∧ i ≤ N ∧ t 1 = .pointer (some ⟨H.length, 0, some 0⟩) ∧ t 3 = .int .i64 N ∧ t 8 = .int .i64 i ∧ H' = H2 ∧ ∀ l ∈ src.take i, srcOk w h l) ?_ (n := N)
        ⟨0, rfl, by omega, by simp [t1], by simp [t3], by simp, rfl, by simp⟩
      clear t1 t3 t7
      rintro n t H' ⟨i, rfl, hi, t1, t3, t8, rfl, hk4⟩ ih
      simp [t1, t3, t8]
      refine wp_dec ?_ ?_ <;> intro g
      · have hi' : i < src.length := by omega
        have rl := o8.1.rd.chg ch (by simp)
        obtain ⟨u, _, a2, a3, a4⟩ := RdL_at rl (ty := 57) (e := 123) (by simp) (by simp) hi'
        have hlen := o8.2.2 _ (List.getElem_mem hi')
        simp only at a2 a3 a4 hlen
        have lu := a4.len (P := Try.prog) (ty := 123) (by simp)
        have bad : ¬ srcOk w h src[i] → Y = false := fun hh => no' (fun k => hh (k.2.2.2.1 _ (List.getElem_mem hi')))
        have hst := fun {x} (hx : x ∈ src.take (i + 1)) => mem_take_succ hi' hx
        obtain ⟨l, hl⟩ : ∃ l, l = src[i] := ⟨_, rfl⟩
        rw [← hl] at a4 lu hlen bad hst
        simp [t1, t3, t8]
        rw [go_draw (h := by kernel_rfl)]
        simp [t1, t3, t8, VM.look, b0, ones, a2, a3, lu]
        by_cases g1 : l.length ≤ 60
        rotate_left
        · have g1' : (60 : Int) < l.length := by omega
          simp [g1']; exact bad (fun k => g1 k.1)
        have g1' : ¬ (60 : Int) < l.length := by omega
        have af := fun F => l15Flits_c (frz := F) (H := H') w h u l a4 (by omega)
        simp [g1', t1, t3, t8, VM.look, b0, ones, a2, a3, af]
        by_cases g3 : flitsOk w h l
        rotate_left
        · simp [g3]; exact bad (fun k => g3 k.2)
        simp [g3, t1, t3, t8]
        refine ih (N - (i + 1)) _ _ ⟨i + 1, rfl, by omega, by simp [t1], by simp [t3], ?_, rfl, fun x hx => ?_⟩ (by omega)
        · simp; rw [w64 (by omega) (by omega)]
        · rcases hst hx with hx | rfl
          · exact hk4 x hx
          · exact ⟨g1, g3⟩
      · have : i = N := by omega
        subst this
        simp [t1, t3, t8]
        rw [← hsl, List.take_length] at hk4
        rw [← htl, List.take_length] at hk2
        rw [← hY]
        refine (decide_eq_true ⟨c1, hsz, fun j hj => (hk j (by simp only at hj; omega)).1, hk4, fun x hx => ?_, hk2, c7⟩)
        obtain ⟨j, hj, rfl⟩ := List.mem_iff_getElem.1 hx
        have := (hk j (by simp only at hj; omega)).2
        rw [getD_at hj] at this; exact this
end Go.Proofs.Ytcigpclbhfkgaaa.V
/-! Idle networks. -/
set_option linter.all false
namespace Go.Proofs.Ytcigpclbhfkgaaa.V
open Go Go.VM Go.Proofs
set_option maxRecDepth 10000
variable {frz : Nat} {H : Heap}
/-- how many flits lie in lists -/
def flits (a : SSD) : Nat := ahead a a.length
theorem flits_le (a : SSD) (h1 : a.length ≤ 2097152) (h2 : ∀ xs ∈ a, xs.length ≤ 67108864) : flits a ≤ 140737488355328 := by
  have := ahead_le a h2 a.length (Nat.le_refl _)
  unfold flits; omega
def idle (x : NetD) : Prop := flits x.2.2.1 = 0 ∧ flits x.2.2.2.2.2.1 = 0
instance (x : NetD) : Decidable (idle x) := inferInstanceAs (Decidable (_ ∧ _))
def idleOk (x : NetD) : Prop := netOk x ∧ idle x
instance (x : NetD) : Decidable (idleOk x) := inferInstanceAs (Decidable (_ ∧ _))
theorem flitsIn_d {v : SSV} {a : SSD} (h : dSS.Ow H v a) : vcall C frz 109 [v.1] H = some (.int .i64 (flits a), H) := by
  refine wp.exact (by simp) ?_ rfl
  rw [vcall_go (fn := Try.f109) Try.func109 rfl (by kernel_rfl) rfl]
  obtain ⟨ho, h1, h2⟩ := h
  have rd := ho.rd
  have ll := rd.1.len (P := Try.prog) (ty := 57) (by simp)
  have el := rd.2.1
  rw [el] at ll
  simp [ll]
  refine wp_inv (fun m t H' => ∃ i : Nat, m = a.length - i ∧ i ≤ a.length ∧ t 3 = .int .i64 (ahead a i) ∧ t 6 = v.1 ∧ t 7 = .int .i64 a.length ∧ t 8 = .int .i64 i ∧ H' = H) ?_ (n := a.length) ⟨0, rfl, by omega, by simp [ahead], by simp, by simp, by simp, rfl⟩
  rintro m t H' ⟨i, rfl, hi, t3, t6, t7, t8, rfl⟩ ih
  simp [t3, t6, t7, t8]
  refine wp_dec ?_ ?_ <;> intro g
  · have hi' : i < a.length := by omega
    obtain ⟨u, _, a2, a3, a4⟩ := RdL_at rd (ty := 57) (e := 123) (by simp) (by simp) hi'
    have lu := a4.len (P := Try.prog) (ty := 123) (by simp)
    have al := ahead_le a h2 i (by omega)
    have asx := ahead_succ a hi'
    have hm := h2 _ (List.getElem_mem hi')
    have hg : a.getD i [] = a[i] := by simp [List.getD_eq_getElem?_getD, hi']
    rw [hg] at asx
    have w1 : ∀ [Inhabited Unit], IntKind.i64.wrap ((ahead a i : Int) + (a[i].length : Int)) = ((ahead a (i + 1) : Nat) : Int) := by intro _; rw [w64 (by omega) (by omega), asx]; omega
    simp [t3, t6, t7, t8, a2, a3, lu, w1]
    refine ih (a.length - (i + 1)) _ _ ⟨i + 1, rfl, by omega, by simp, by simp [t6], by simp [t7], ?_, rfl⟩ (by omega)
    simp; rw [w64 (by omega) (by omega)]
  · have : i = a.length := by omega
    subst this
    simp [t3, t6, t7, t8, flits]
theorem isIdle_c {id : Nat} {w h tm : Int} {u2 u3 u4 u6 u7 u9 : Value} {v5 v8 : SSV} {buf src : SSD} (hr : H[id]? = some ⟨[.int .i64 w, .int .i64 h, u2, u3, u4, v5.1, u6, u7, v8.1, u9, .int .i64 tm], 0, 59⟩)
   (h5 : dSS.Ow H v5 buf) (h8 : dSS.Ow H v8 src) : vcall C frz 100 [.pointer (some ⟨id, 0, some 0⟩)] H = some (.bool (decide (flits buf = 0 ∧ flits src = 0)), H) := by
  rw [vcall_go (fn := Try.f100) Try.func100 rfl (by kernel_rfl) rfl]
  have e1 := fun F => flitsIn_d (frz := F) h5
  have e2 := fun F => flitsIn_d (frz := F) h8
  by_cases g : flits buf = 0
  · simp [VM.vnil, VM.look, hr, e1, e2, g]
  · simp [VM.vnil, VM.look, hr, e1, e2, g]
theorem isIdle_d {v : NetV} {x : NetD} (o : dNet.Ow H v x) : vcall C frz 47 [dNet.val v x] H = some (.bool (decide (idleOk x)), H) := by
  have nk := fun F L => netOk_d (frz := F) (H := H ++ L) (v := v) (x := x) (Dt.app (T := dNet) o)
  have ones := dNet_one o
  obtain ⟨u2, ⟨u3, u4⟩, ⟨u5, h5⟩, u6, u7, ⟨u8, h8⟩, ⟨u9, h9⟩, _⟩ := v
  obtain ⟨⟨w, h, b⟩, ⟨A, B⟩, buf, own, turn, src, arr, tm⟩ := x
  obtain ⟨o2, o3, o5, o6, o7, o8, o9, _⟩ := o
  simp only at o2 o3 o5 o6 o7 o8 o9 ones
  rw [dNet_val]
  simp only [dNet_val] at nk
  refine wp.exact (by simp) ?_ rfl
  rw [vcall_go (fn := Try.f47) Try.func47 rfl (by kernel_rfl) rfl]
  have ii := fun F => isIdle_c (frz := F) (H := H ++ [⟨[.int .i64 w, .int .i64 h, u2, u3, u4, u5, u6, u7, u8, u9, .int .i64 tm], 0, 59⟩]) (id := H.length) (w := w) (h := h) (tm := tm) (u2 := u2) (u3 := u3) (u4 := u4) (u6 := u6) (u7 := u7) (u9 := u9) (v5 := (u5, h5)) (v8 := (u8, h8)) (by simp) (Dt.app o5) (Dt.app o8)
  have hY : decide (idleOk ((w, h, b), (A, B), buf, own, turn, src, arr, tm)) = (decide (netOk ((w, h, b), (A, B), buf, own, turn, src, arr, tm)) && decide (flits buf = 0 ∧ flits src = 0)) := by
    rw [Bool.eq_iff_iff, Bool.and_eq_true, decide_eq_true_eq, decide_eq_true_eq, decide_eq_true_eq]; exact Iff.rfl
  generalize decide (idleOk ((w, h, b), (A, B), buf, own, turn, src, arr, tm)) = Y at *
  generalize decide (netOk ((w, h, b), (A, B), buf, own, turn, src, arr, tm)) = P1 at *
  generalize decide (flits buf = 0 ∧ flits src = 0) = P2 at *
  simp [ones, nk]
  cases P1 <;> simp [ones, ii, hY]
theorem l15Sum_d {v : SSV} {a : SSD} (h : dSS.Ow H v a) : vcall C frz 172 [v.1] H = some (.int .i64 (flits a), H) := by
  refine wp.exact (by simp) ?_ rfl
  rw [vcall_go (fn := Try.f172) Try.func172 rfl (by kernel_rfl) rfl]
  obtain ⟨ho, h1, h2⟩ := h
  have rd := ho.rd
  have ll := rd.1.len (P := Try.prog) (ty := 57) (by simp)
  have el := rd.2.1
  rw [el] at ll
  simp
  refine wp_inv (fun m t H' => ∃ i : Nat, m = a.length - i ∧ i ≤ a.length ∧ t 0 = v.1 ∧ t 3 = .int .i64 (ahead a i) ∧ t 4 = .int .i64 i ∧ H' = H) ?_ (n := a.length) ⟨0, rfl, by omega, by simp, by simp [ahead], by simp, rfl⟩
  rintro m t H' ⟨i, rfl, hi, t0, t3, t4, rfl⟩ ih
  simp [t0, t3, t4, ll]
  refine wp_dec ?_ ?_ <;> intro g
  · have hi' : i < a.length := by omega
    obtain ⟨u, _, a2, a3, a4⟩ := RdL_at rd (ty := 57) (e := 123) (by simp) (by simp) hi'
    have lu := a4.len (P := Try.prog) (ty := 123) (by simp)
    have al := ahead_le a h2 i (by omega)
    have asx := ahead_succ a hi'
    have hm := h2 _ (List.getElem_mem hi')
    have hg : a.getD i [] = a[i] := by simp [List.getD_eq_getElem?_getD, hi']
    rw [hg] at asx
    have w1 : ∀ [Inhabited Unit], IntKind.i64.wrap ((ahead a i : Int) + (a[i].length : Int)) = ((ahead a (i + 1) : Nat) : Int) := by intro _; rw [w64 (by omega) (by omega), asx]; omega
    simp [t0, t3, t4, a2, a3, lu, w1]
    refine ih (a.length - (i + 1)) _ _ ⟨i + 1, rfl, by omega, by simp [t0], by simp, ?_, rfl⟩ (by omega)
    simp; rw [w64 (by omega) (by omega)]
  · have : i = a.length := by omega
    subst this
    simp [t0, t3, t4, flits]
theorem l20Idle_d {v : NetV} {x : NetD} (o : dNet.Ow H v x) : vcall C frz 129 [dNet.val v x] H = some (.bool (decide (idle x)), H) := by
  have ones := dNet_one o
  obtain ⟨o2, o3, o5, o6, o7, o8, o9, _⟩ := o
  rw [dNet_val]
  rw [vcall_go (fn := Try.f129) Try.func129 rfl (by kernel_rfl) rfl]
  have e1 := fun F L => l15Sum_d (frz := F) (H := H ++ L) (Dt.app o5)
  have e2 := fun F L => l15Sum_d (frz := F) (H := H ++ L) (Dt.app o8)
  have hi : idle x ↔ flits x.2.2.1 = 0 ∧ flits x.2.2.2.2.2.1 = 0 := Iff.rfl
  by_cases g : flits x.2.2.1 = 0
  · simp [ones, e1, e2, g, hi]
  · simp [ones, e1, e2, g, hi]
theorem sIsIdle_d {v : NetV} {x : NetD} (o : dNet.Ow H v x) : vcall C frz 76 [dNet.val v x] H = some (.bool (decide (idleOk x)), H) := by
  have nk := fun F L => sNetOk_d (frz := F) (H := H ++ L) (v := v) (x := x) (Dt.app (T := dNet) o)
  have ii := fun F L => l20Idle_d (frz := F) (H := H ++ L) (v := v) (x := x) (Dt.app (T := dNet) o)
  have ones := dNet_one o
  rw [dNet_val]
  simp only [dNet_val] at nk ii
  refine wp.exact (by simp) ?_ rfl
  rw [vcall_go (fn := Try.f76) Try.func76 rfl (by kernel_rfl) rfl]
  have hY : decide (idleOk x) = (decide (netOk x) && decide (idle x)) := by
    rw [Bool.eq_iff_iff, Bool.and_eq_true, decide_eq_true_eq, decide_eq_true_eq, decide_eq_true_eq]; exact Iff.rfl
  generalize decide (idleOk x) = Y at *
  generalize decide (netOk x) = P1 at *
  generalize decide (idle x) = P2 at *
  simp [ones, nk]
  cases P1 <;> simp [ones, ii, hY]
end Go.Proofs.Ytcigpclbhfkgaaa.V
/-! Networks with other tables. -/
set_option linter.all false
namespace Go.Proofs.Ytcigpclbhfkgaaa.V
open Go Go.VM Go.Proofs
set_option maxRecDepth 10000
variable {frz : Nat} {H : Heap}
/-- an idle network with another mesh and other tables -/
def fresh (x : NetD) (m : MeshD) (t : ClassesD) : NetD := (m, t, x.2.2.1, List.replicate x.2.2.2.1.length (-1), List.replicate x.2.2.2.2.1.length 0, x.2.2.2.2.2.1, x.2.2.2.2.2.2.1, x.2.2.2.2.2.2.2)
theorem rep_set {xs : List Int} {z : Int} {i : Nat} (h : i < xs.length) : (List.replicate i z ++ xs.drop i).set i z = List.replicate (i + 1) z ++ xs.drop (i + 1) := by
  rw [List.set_append_right _ _ (by simp), List.length_replicate, Nat.sub_self, List.drop_eq_getElem_cons h, List.set_cons_zero, List.replicate_succ']
  simp
theorem replaced_d {v : NetV} {x : NetD} {vm : Value} {w' h' : Int} {b' : List Int} {vc : Value × Value} {c' : ClassesD} (o : dNet.Ow H v x) (om : dMesh.Ow H vm (w', h', b')) (oc : dClasses.Ow H vc c') :
   wp (vcall C frz 82 [dNet.val v x, .agg #[.int .i64 w', .int .i64 h', vm], .agg #[vc.1, vc.2]] H) (dNet.Made H (fresh x (w', h', b') c')) := by
  have ones := dNet_one o
  have onem := dMesh_one om
  have onec := dClasses_one oc
  have ecopy := fun L => copyNet_d (frz := H.length) (H := H ++ L) (v := v) (x := x) (Dt.app (T := dNet) o)
  obtain ⟨u2, ⟨u3, u4⟩, ⟨u5, h5⟩, u6, u7, ⟨u8, h8⟩, ⟨u9, h9⟩, _⟩ := v
  obtain ⟨⟨w, h, b⟩, ⟨A, B⟩, buf, own, turn, src, arr, tm⟩ := x
  simp only at ones
  simp only [dNet_val] at ecopy ⊢
  rw [vcall_go (fn := Try.f82) Try.func82 rfl (by kernel_rfl) rfl]
  simp [ones, onem, onec]
  refine wp_thn (ecopy _) ?_
  rintro _ K1 ⟨n, rfl, o1, c1, m1, d1⟩
  clear ecopy
  have bM : K1[H.length + 1]? = some ⟨[.int .i64 w', .int .i64 h', vm], 0, 38⟩ := box_chg (by simp) c1 (by simp)
  have bC : K1[H.length + 2]? = some ⟨[vc.1, vc.2], 0, 42⟩ := box_chg (by simp) c1 (by simp)
  have bR : K1[H.length + 3]? = some ⟨[.int .i64 0, .int .i64 0, .slice none 0 0, .slice none 0 0, .slice none 0 0, .slice none 0 0, .slice none 0 0, .slice none 0 0, .slice none 0 0, .slice none 0 0, .int .i64 0], 0, 59⟩ := box_chg (by simp) c1 (by simp)
  have cH : Chg H K1 [] := (Chg.app []).trans c1
  have lc1 := c1.1
  simp at lc1 m1
  have q := dNet_one o1
  have lt1 := dNet.lt o1
  obtain ⟨n1, n2, n3, n4, n5, n6, n7, nz⟩ := n
  obtain ⟨y1, y2, y3, y4, y5, y6, y7, _⟩ := o1
  simp only at y1 y2 y3 y4 y5 y6 y7 q
  have eid : dNet.ids (n1, n2, n3, n4, n5, n6, n7, nz) = dMesh.ids n1 ++ (dClasses.ids n2 ++ (dSS.ids n3 ++ (dIntS.ids n4 ++ (dIntS.ids n5 ++ (dSS.ids n6 ++ (dSS.ids n7 ++ [])))))) := rfl
  rw [eid] at m1 d1 lt1
  obtain ⟨d11, d12, _⟩ := List.nodup_append.1 d1
  obtain ⟨d21, d22, _⟩ := List.nodup_append.1 d12
  have mr : ∀ i ∈ dSS.ids n3 ++ (dIntS.ids n4 ++ (dIntS.ids n5 ++ (dSS.ids n6 ++ (dSS.ids n7 ++ [])))), H.length + 4 ≤ i ∧ i < K1.length := fun i hi => ⟨m1 i (List.mem_append.2 (.inr (List.mem_append.2 (.inr hi)))), lt1 i (List.mem_append.2 (.inr (List.mem_append.2 (.inr hi))))⟩
  have ml : ∀ i ∈ dMesh.ids n1, H.length + 4 ≤ i ∧ i < K1.length := fun i hi => ⟨m1 i (List.mem_append.2 (.inl hi)), lt1 i (List.mem_append.2 (.inl hi))⟩
  have mk : ∀ i ∈ dClasses.ids n2, H.length + 4 ≤ i ∧ i < K1.length := fun i hi => ⟨m1 i (List.mem_append.2 (.inr (List.mem_append.2 (.inl hi)))), lt1 i (List.mem_append.2 (.inr (List.mem_append.2 (.inl hi))))⟩
  clear m1 d1 lt1 eid d11 d12 d21
  obtain ⟨d31, d32, d33⟩ := List.nodup_append.1 d22
  obtain ⟨d41, d42, d43⟩ := List.nodup_append.1 d32
  obtain ⟨d51, d52, d53⟩ := List.nodup_append.1 d42
  have in3 : ∀ i ∈ dSS.ids n3, H.length + 4 ≤ i ∧ i < K1.length := fun i hi => mr i (List.mem_append.2 (.inl hi))
  have in4 : ∀ i ∈ dIntS.ids n4, H.length + 4 ≤ i ∧ i < K1.length := fun i hi => mr i (List.mem_append.2 (.inr (List.mem_append.2 (.inl hi))))
  have in5 : ∀ i ∈ dIntS.ids n5, H.length + 4 ≤ i ∧ i < K1.length := fun i hi => mr i (List.mem_append.2 (.inr (List.mem_append.2 (.inr (List.mem_append.2 (.inl hi))))))
  have in6 : ∀ i ∈ dSS.ids n6, H.length + 4 ≤ i ∧ i < K1.length := fun i hi => mr i (List.mem_append.2 (.inr (List.mem_append.2 (.inr (List.mem_append.2 (.inr (List.mem_append.2 (.inl hi))))))))
  have in7 : ∀ i ∈ dSS.ids n7, H.length + 4 ≤ i ∧ i < K1.length := fun i hi => mr i (List.mem_append.2 (.inr (List.mem_append.2 (.inr (List.mem_append.2 (.inr (List.mem_append.2 (.inr (List.mem_append.2 (.inl hi))))))))))
  have x43 : ∀ i ∈ dIntS.ids n4, i ∉ dSS.ids n3 := fun i hi hh => d33 i hh i (List.mem_append.2 (.inl hi)) rfl
  have x53 : ∀ i ∈ dIntS.ids n5, i ∉ dSS.ids n3 := fun i hi hh => d33 i hh i (List.mem_append.2 (.inr (List.mem_append.2 (.inl hi)))) rfl
  have x54 : ∀ i ∈ dIntS.ids n5, i ∉ dIntS.ids n4 := fun i hi hh => d43 i hh i (List.mem_append.2 (.inl hi)) rfl
  have x64 : ∀ i ∈ dSS.ids n6, i ∉ dIntS.ids n4 := fun i hi hh => d43 i hh i (List.mem_append.2 (.inr (List.mem_append.2 (.inl hi)))) rfl
  have x74 : ∀ i ∈ dSS.ids n7, i ∉ dIntS.ids n4 := fun i hi hh => d43 i hh i (List.mem_append.2 (.inr (List.mem_append.2 (.inr (List.mem_append.2 (.inl hi)))))) rfl
  have x65 : ∀ i ∈ dSS.ids n6, i ∉ dIntS.ids n5 := fun i hi hh => d53 i hh i (List.mem_append.2 (.inl hi)) rfl
  have x75 : ∀ i ∈ dSS.ids n7, i ∉ dIntS.ids n5 := fun i hi hh => d53 i hh i (List.mem_append.2 (.inr (List.mem_append.2 (.inl hi)))) rfl
  have hF1 : H.length ≤ K1.length := by omega
  simp [dNet_val, VM.look, bM, bC, q, onem, onec, hF1]
  rw [go_draw (h := by kernel_rfl)]
  simp [VM.look, bM, bC, q, onem, onec, hF1]
  obtain ⟨G1, hG1⟩ : ∃ G, G = K1 ++ [⟨[.int .i64 w, .int .i64 h, n1, n2.1, n2.2, n3.1, n4, n5, n6.1, n7.1, .int .i64 tm], 0, 59⟩] := ⟨_, rfl⟩
  have bO : G1[K1.length]? = some ⟨[.int .i64 w, .int .i64 h, n1, n2.1, n2.2, n3.1, n4, n5, n6.1, n7.1, .int .i64 tm], 0, 59⟩ := by rw [hG1]; simp
  have aG : Chg K1 G1 [] := by rw [hG1]; exact Chg.app []
  have gl : K1.length + 1 ≤ G1.length := by rw [hG1]; simp
  try rw [← hG1]
  clear hG1
  have bM := box_chg bM aG (by simp)
  have bC := box_chg bC aG (by simp)
  have bR := box_chg bR aG (by simp)
  have cH := cH.trans aG
  have y3 := Dt.chg0 (T := dSS) y3 aG
  have y4 := Dt.chg0 (T := dIntS) y4 aG
  have y5 := Dt.chg0 (T := dIntS) y5 aG
  have y6 := Dt.chg0 (T := dSS) y6 aG
  have y7 := Dt.chg0 (T := dSS) y7 aG
  try simp [VM.look, bM, onem]
  refine wp_thn (copyMesh_w w' h' vm b' (Rd.isI (om.1.rd.chg cH (by simp))) om.2) ?_
  rintro _ G2 ⟨m1, rfl, om1, c2, mm1, dm1⟩
  have qm := dMesh_one om1
  have lm := dMesh.lt om1
  have bM := box_chg bM c2 (by simp)
  have bC := box_chg bC c2 (by simp)
  have bR := box_chg bR c2 (by simp)
  have bO := box_chg bO c2 (by simp)
  have cH := cH.trans c2
  have gl2 := c2.1
  have y3 := Dt.chg0 (T := dSS) y3 c2
  have y4 := Dt.chg0 (T := dIntS) y4 c2
  have y5 := Dt.chg0 (T := dIntS) y5 c2
  have y6 := Dt.chg0 (T := dSS) y6 c2
  have y7 := Dt.chg0 (T := dSS) y7 c2
  simp [dMesh_val, VM.look, bC, onec]
  refine wp_thn (copyClasses_w vc.1 vc.2 c'.1 c'.2 (Rd.isI (oc.1.1.rd.chg cH (by simp))) (Rd.isI (oc.2.1.rd.chg cH (by simp))) oc.1.2 oc.2.2) ?_
  rintro _ G3 ⟨m2, rfl, om2, c3, mm2, dm2⟩
  have qc := dClasses_one om2
  have lc := dClasses.lt om2
  have bR := box_chg bR c3 (by simp)
  have bO := box_chg bO c3 (by simp)
  have cH := cH.trans c3
  have gl3 := c3.1
  have om1 := Dt.chg0 (T := dMesh) om1 c3
  have y3 := Dt.chg0 (T := dSS) y3 c3
  have y4 := Dt.chg0 (T := dIntS) y4 c3
  have y5 := Dt.chg0 (T := dIntS) y5 c3
  have y6 := Dt.chg0 (T := dSS) y6 c3
  have y7 := Dt.chg0 (T := dSS) y7 c3
  have bO1 := set_get (r' := ⟨[.int .i64 w', .int .i64 h', m1, n2.1, n2.2, n3.1, n4, n5, n6.1, n7.1, .int .i64 tm], 0, 59⟩) bO
  have bO2 := set_get (r' := ⟨[.int .i64 w', .int .i64 h', m1, m2.1, m2.2, n3.1, n4, n5, n6.1, n7.1, .int .i64 tm], 0, 59⟩) bO
  have eO : Chg G3 (G3.set K1.length ⟨[.int .i64 w', .int .i64 h', m1, m2.1, m2.2, n3.1, n4, n5, n6.1, n7.1, .int .i64 tm], 0, 59⟩) [K1.length] := chg_set _ _
  have bR := box_chg bR eO (by simp; omega)
  have cH := cH.trans' eO (fun i hi => .inr (by simp at hi; omega))
  have om1 := Dt.chg (T := dMesh) om1 eO (fun i hi hh => by have := mm1 i hi; simp at hh; omega)
  have om2 := Dt.chg (T := dClasses) om2 eO (fun i hi hh => by have := mm2 i hi; simp at hh; omega)
  have y3 := Dt.chg (T := dSS) y3 eO (fun i hi hh => by have := in3 i hi; simp at hh; omega)
  have y4 := Dt.chg (T := dIntS) y4 eO (fun i hi hh => by have := in4 i hi; simp at hh; omega)
  have y5 := Dt.chg (T := dIntS) y5 eO (fun i hi hh => by have := in5 i hi; simp at hh; omega)
  have y6 := Dt.chg (T := dSS) y6 eO (fun i hi hh => by have := in6 i hi; simp at hh; omega)
  have y7 := Dt.chg (T := dSS) y7 eO (fun i hi hh => by have := in7 i hi; simp at hh; omega)
  have gl4 : (G3.set K1.length ⟨[.int .i64 w', .int .i64 h', m1, m2.1, m2.2, n3.1, n4, n5, n6.1, n7.1, .int .i64 tm], 0, 59⟩).length = G3.length := by simp
  simp [dMesh_val, dClasses_val, VM.look, bO, bO1, q, qm, qc, hF1]
  generalize G3.set K1.length ⟨[.int .i64 w', .int .i64 h', m1, m2.1, m2.2, n3.1, n4, n5, n6.1, n7.1, .int .i64 tm], 0, 59⟩ = G4 at *
  have bO := bO2
  clear bO2 bM bC aG c2 c3 eO y1 y2
  have hb4 := y4.2
  have hb5 := y5.2
  have l4 := y4.1.rd.len (P := Try.prog) (ty := 24) (by simp)
  try simp [VM.look, bO, q, qm, qc, l4]
  refine wp_inv (fun m t H' => ∃ i : Nat, m = own.length - i ∧ i ≤ own.length ∧ t 6 = .pointer (some ⟨H.length + 3, 0, some 0⟩) ∧ t 7 = .pointer (some ⟨K1.length, 0, some 0⟩) ∧ t 20 = .int .i64 own.length ∧ t 21 = .int .i64 i ∧ Chg G4 H' (dIntS.ids n4) ∧ Ow Fl.int 3 H' n4 (List.replicate i (-1) ++ own.drop i)) ?_ (n := own.length)
    ⟨0, rfl, by omega, by simp, by simp, by simp, by simp, Chg.refl _, by simpa using y4.1⟩
  rintro m t H' ⟨i, rfl, hi, t6, t7, t20, t21, c4, o4⟩ ih
  have bO' := box_chg bO c4 (fun hh => by have := in4 _ hh; omega)
  have hll : (List.replicate i (-1 : Int) ++ own.drop i).length = own.length := by simp; omega
  have l4' := o4.rd.len (P := Try.prog) (ty := 24) (by simp)
  rw [hll] at l4'
  simp [t6, t7, t20, t21, VM.look, bO', q, l4']
  refine wp_dec ?_ ?_ <;> intro g
  · have hi' : i < own.length := by omega
    have q1 := o4.rd.isI.idx (P := Try.prog) (ty := 24) (e := 3) (by simp) (i := (i : Int)) (by omega) (by omega)
    simp only [Int.toNat_natCast] at q1
    obtain ⟨H5, s5, o5, c5, l5⟩ := o4.put1 (P := Try.prog) (frz := H.length) rfl (et := 3) (ag := false) (x := .int .i64 (-1)) (by simp) (j := i) (y := -1) (by omega) rfl rfl rfl (fun j hj => by have := in4 j hj; omega)
    rw [rep_set hi'] at o5
    simp [t6, t7, t20, t21, VM.look, bO', q, q1, s5]
    refine ih (own.length - (i + 1)) _ _ ⟨i + 1, rfl, by omega, by simp [t6], by simp [t7], by simp [t20], ?_, c4.trans c5, o5⟩ (by omega)
    simp; rw [w64 (by omega) (by omega)]
  have : i = own.length := by omega
  subst this
  clear ih
  have bR := box_chg bR c4 (fun hh => by have := in4 _ hh; omega)
  have bO := bO'
  have cH := cH.trans' c4 (fun j hj => .inr (by have := in4 j hj; omega))
  have gl5 := c4.1
  have om1 := Dt.chg (T := dMesh) om1 c4 (fun j hj hh => by have := mm1 j hj; have := in4 j hh; omega)
  have om2 := Dt.chg (T := dClasses) om2 c4 (fun j hj hh => by have := mm2 j hj; have := in4 j hh; omega)
  have y3 := Dt.chg (T := dSS) y3 c4 (fun j hj hh => x43 j hh hj)
  have y5 := Dt.chg (T := dIntS) y5 c4 x54
  have y6 := Dt.chg (T := dSS) y6 c4 x64
  have y7 := Dt.chg (T := dSS) y7 c4 x74
  have o4 : Ow Fl.int 3 H' n4 (List.replicate own.length (-1)) := by simpa using o4
  have b4 := y4.2
  have b5 := y5.2
  clear y4 c4 bO' g l4' hll hi
  have l5 := y5.1.rd.len (P := Try.prog) (ty := 24) (by simp)
  simp [t6, t7, t20, t21, VM.look, bO, q, l5]
  refine wp_inv (fun m t H2 => ∃ i : Nat, m = turn.length - i ∧ i ≤ turn.length ∧ t 6 = .pointer (some ⟨H.length + 3, 0, some 0⟩) ∧ t 7 = .pointer (some ⟨K1.length, 0, some 0⟩) ∧ t 31 = .int .i64 turn.length ∧ t 32 = .int .i64 i ∧ Chg H' H2 (dIntS.ids n5) ∧ Ow Fl.int 3 H2 n5 (List.replicate i 0 ++ turn.drop i)) ?_ (n := turn.length)
    ⟨0, rfl, by omega, by simp [t6], by simp [t7], by simp, by simp, Chg.refl _, by simpa using y5.1⟩
  clear t6 t7 t20 t21
  rintro m t H2 ⟨i, rfl, hi, t6, t7, t31, t32, c5, o5⟩ ih
  have bO' := box_chg bO c5 (fun hh => by have := in5 _ hh; omega)
  have hll : (List.replicate i (0 : Int) ++ turn.drop i).length = turn.length := by simp; omega
  simp [t6, t7, t31, t32]
  refine wp_dec ?_ ?_ <;> intro g
  · have hi' : i < turn.length := by omega
    have q1 := o5.rd.isI.idx (P := Try.prog) (ty := 24) (e := 3) (by simp) (i := (i : Int)) (by omega) (by omega)
    simp only [Int.toNat_natCast] at q1
    obtain ⟨H5, s5, o5', c5', l5'⟩ := o5.put1 (P := Try.prog) (frz := H.length) rfl (et := 3) (ag := false) (x := .int .i64 0) (by simp) (j := i) (y := 0) (by omega) rfl rfl rfl (fun j hj => by have := in5 j hj; omega)
    rw [rep_set hi'] at o5'
    simp [t6, t7, t31, t32, VM.look, bO', q, q1, s5]
    refine ih (turn.length - (i + 1)) _ _ ⟨i + 1, rfl, by omega, by simp [t6], by simp [t7], by simp [t31], ?_, c5.trans c5', o5'⟩ (by omega)
    simp; rw [w64 (by omega) (by omega)]
  have : i = turn.length := by omega
  subst this
  clear ih
  have bR := box_chg bR c5 (fun hh => by have := in5 _ hh; omega)
  have bO := bO'
  have cH := cH.trans' c5 (fun j hj => .inr (by have := in5 j hj; omega))
  have om1 := Dt.chg (T := dMesh) om1 c5 (fun j hj hh => by have := mm1 j hj; have := in5 j hh; omega)
  have om2 := Dt.chg (T := dClasses) om2 c5 (fun j hj hh => by have := mm2 j hj; have := in5 j hh; omega)
  have y3 := Dt.chg (T := dSS) y3 c5 (fun j hj hh => x53 j hh hj)
  have o4 := o4.chg c5 (fun j hj hh => x54 j hh hj)
  have y6 := Dt.chg (T := dSS) y6 c5 x65
  have y7 := Dt.chg (T := dSS) y7 c5 x75
  have o5 : Ow Fl.int 3 H2 n5 (List.replicate turn.length 0) := by simpa using o5
  have gR := set_get (r' := ⟨[.int .i64 w', .int .i64 h', m1, m2.1, m2.2, n3.1, n4, n5, n6.1, n7.1, .int .i64 tm], 0, 59⟩) bR
  have hF3 : H.length ≤ H.length + 3 := by omega
  have eR : Chg H2 (H2.set (H.length + 3) ⟨[.int .i64 w', .int .i64 h', m1, m2.1, m2.2, n3.1, n4, n5, n6.1, n7.1, .int .i64 tm], 0, 59⟩) [H.length + 3] := chg_set _ _
  simp [t6, t7, t31, t32, VM.look, bO, bR, q, qm, qc, gR, hF3]
  refine ⟨(m1, m2, n3, n4, n5, n6, n7, ()), rfl, ⟨Dt.chg (T := dMesh) om1 eR (fun j hj hh => by have := mm1 j hj; simp at hh; omega), Dt.chg (T := dClasses) om2 eR (fun j hj hh => by have := mm2 j hj; simp at hh; omega), Dt.chg (T := dSS) y3 eR (fun j hj hh => by have := in3 j hj; simp at hh; omega),
    ⟨o4.chg eR (fun j hj hh => by have := in4 j hj; simp at hh; omega), by show (List.replicate own.length (-1)).length ≤ _; simpa using b4⟩, ⟨o5.chg eR (fun j hj hh => by have := in5 j hj; simp at hh; omega), by show (List.replicate turn.length 0).length ≤ _; simpa using b5⟩, Dt.chg (T := dSS) y6 eR (fun j hj hh => by have := in6 j hj; simp at hh; omega), Dt.chg (T := dSS) y7 eR (fun j hj hh => by have := in7 j hj; simp at hh; omega), trivial⟩,
    cH.trans' eR (fun j hj => .inr (by simp at hj; omega)), fun j hj => ?_, ?_⟩
  · rcases List.mem_append.1 hj with hj | hj
    · have := mm1 j hj; omega
    rcases List.mem_append.1 hj with hj | hj
    · have := mm2 j hj; omega
    · have := mr j hj; omega
  · refine List.nodup_append.2 ⟨dm1, List.nodup_append.2 ⟨dm2, d22, fun a ha b hb e => by have := mm2 a ha; have := mr b hb; omega⟩, fun a ha b hb e => ?_⟩
    rcases List.mem_append.1 hb with hb | hb
    · have := lm a ha; have := mm2 b hb; omega
    · have := mm1 a ha; have := mr b hb; omega
theorem l34Fresh_d {v : NetV} {x : NetD} {vm : Value} {w' h' : Int} {b' : List Int} {vc : Value × Value} {c' : ClassesD} (o : dNet.Ow H v x) (om : dMesh.Ow H vm (w', h', b')) (oc : dClasses.Ow H vc c') :
   wp (vcall C frz 79 [dNet.val v x, .agg #[.int .i64 w', .int .i64 h', vm], .agg #[vc.1, vc.2]] H) (dNet.Made H (fresh x (w', h', b') c')) := by
  have ones := dNet_one o
  have onem := dMesh_one om
  have onec := dClasses_one oc
  have ecopy := fun L => l15Copy_d (frz := H.length) (H := H ++ L) (v := v) (x := x) (Dt.app (T := dNet) o)
  obtain ⟨u2, ⟨u3, u4⟩, ⟨u5, h5⟩, u6, u7, ⟨u8, h8⟩, ⟨u9, h9⟩, _⟩ := v
  obtain ⟨⟨w, h, b⟩, ⟨A, B⟩, buf, own, turn, src, arr, tm⟩ := x
  simp only at ones
  simp only [dNet_val] at ecopy ⊢
  rw [vcall_go (fn := Try.f79) Try.func79 rfl (by kernel_rfl) rfl]
  simp [ones, onem, onec]
  refine wp_thn (ecopy _) ?_
  rintro _ K1 ⟨n, rfl, o1, c1, m1, d1⟩
  clear ecopy
  have bM : K1[H.length + 1]? = some ⟨[.int .i64 w', .int .i64 h', vm], 0, 38⟩ := box_chg (by simp) c1 (by simp)
  have bC : K1[H.length + 2]? = some ⟨[vc.1, vc.2], 0, 42⟩ := box_chg (by simp) c1 (by simp)
  have bR : K1[H.length + 3]? = some ⟨[.int .i64 0, .int .i64 0, .slice none 0 0, .slice none 0 0, .slice none 0 0, .slice none 0 0, .slice none 0 0, .slice none 0 0, .slice none 0 0, .slice none 0 0, .int .i64 0], 0, 59⟩ := box_chg (by simp) c1 (by simp)
  have cH : Chg H K1 [] := (Chg.app []).trans c1
  have lc1 := c1.1
  simp at lc1 m1
  have q := dNet_one o1
  have lt1 := dNet.lt o1
  obtain ⟨n1, n2, n3, n4, n5, n6, n7, nz⟩ := n
  obtain ⟨y1, y2, y3, y4, y5, y6, y7, _⟩ := o1
  simp only at y1 y2 y3 y4 y5 y6 y7 q
  have eid : dNet.ids (n1, n2, n3, n4, n5, n6, n7, nz) = dMesh.ids n1 ++ (dClasses.ids n2 ++ (dSS.ids n3 ++ (dIntS.ids n4 ++ (dIntS.ids n5 ++ (dSS.ids n6 ++ (dSS.ids n7 ++ [])))))) := rfl
  rw [eid] at m1 d1 lt1
  obtain ⟨d11, d12, _⟩ := List.nodup_append.1 d1
  obtain ⟨d21, d22, _⟩ := List.nodup_append.1 d12
  have mr : ∀ i ∈ dSS.ids n3 ++ (dIntS.ids n4 ++ (dIntS.ids n5 ++ (dSS.ids n6 ++ (dSS.ids n7 ++ [])))), H.length + 4 ≤ i ∧ i < K1.length := fun i hi => ⟨m1 i (List.mem_append.2 (.inr (List.mem_append.2 (.inr hi)))), lt1 i (List.mem_append.2 (.inr (List.mem_append.2 (.inr hi))))⟩
  have ml : ∀ i ∈ dMesh.ids n1, H.length + 4 ≤ i ∧ i < K1.length := fun i hi => ⟨m1 i (List.mem_append.2 (.inl hi)), lt1 i (List.mem_append.2 (.inl hi))⟩
  have mk : ∀ i ∈ dClasses.ids n2, H.length + 4 ≤ i ∧ i < K1.length := fun i hi => ⟨m1 i (List.mem_append.2 (.inr (List.mem_append.2 (.inl hi)))), lt1 i (List.mem_append.2 (.inr (List.mem_append.2 (.inl hi))))⟩
  clear m1 d1 lt1 eid d11 d12 d21
  obtain ⟨d31, d32, d33⟩ := List.nodup_append.1 d22
  obtain ⟨d41, d42, d43⟩ := List.nodup_append.1 d32
  obtain ⟨d51, d52, d53⟩ := List.nodup_append.1 d42
  have in3 : ∀ i ∈ dSS.ids n3, H.length + 4 ≤ i ∧ i < K1.length := fun i hi => mr i (List.mem_append.2 (.inl hi))
  have in4 : ∀ i ∈ dIntS.ids n4, H.length + 4 ≤ i ∧ i < K1.length := fun i hi => mr i (List.mem_append.2 (.inr (List.mem_append.2 (.inl hi))))
  have in5 : ∀ i ∈ dIntS.ids n5, H.length + 4 ≤ i ∧ i < K1.length := fun i hi => mr i (List.mem_append.2 (.inr (List.mem_append.2 (.inr (List.mem_append.2 (.inl hi))))))
  have in6 : ∀ i ∈ dSS.ids n6, H.length + 4 ≤ i ∧ i < K1.length := fun i hi => mr i (List.mem_append.2 (.inr (List.mem_append.2 (.inr (List.mem_append.2 (.inr (List.mem_append.2 (.inl hi))))))))
  have in7 : ∀ i ∈ dSS.ids n7, H.length + 4 ≤ i ∧ i < K1.length := fun i hi => mr i (List.mem_append.2 (.inr (List.mem_append.2 (.inr (List.mem_append.2 (.inr (List.mem_append.2 (.inr (List.mem_append.2 (.inl hi))))))))))
  have x43 : ∀ i ∈ dIntS.ids n4, i ∉ dSS.ids n3 := fun i hi hh => d33 i hh i (List.mem_append.2 (.inl hi)) rfl
  have x53 : ∀ i ∈ dIntS.ids n5, i ∉ dSS.ids n3 := fun i hi hh => d33 i hh i (List.mem_append.2 (.inr (List.mem_append.2 (.inl hi)))) rfl
  have x54 : ∀ i ∈ dIntS.ids n5, i ∉ dIntS.ids n4 := fun i hi hh => d43 i hh i (List.mem_append.2 (.inl hi)) rfl
  have x64 : ∀ i ∈ dSS.ids n6, i ∉ dIntS.ids n4 := fun i hi hh => d43 i hh i (List.mem_append.2 (.inr (List.mem_append.2 (.inl hi)))) rfl
  have x74 : ∀ i ∈ dSS.ids n7, i ∉ dIntS.ids n4 := fun i hi hh => d43 i hh i (List.mem_append.2 (.inr (List.mem_append.2 (.inr (List.mem_append.2 (.inl hi)))))) rfl
  have x65 : ∀ i ∈ dSS.ids n6, i ∉ dIntS.ids n5 := fun i hi hh => d53 i hh i (List.mem_append.2 (.inl hi)) rfl
  have x75 : ∀ i ∈ dSS.ids n7, i ∉ dIntS.ids n5 := fun i hi hh => d53 i hh i (List.mem_append.2 (.inr (List.mem_append.2 (.inl hi)))) rfl
  have hF1 : H.length ≤ K1.length := by omega
  simp [dNet_val, VM.look, bM, bC, q, onem, onec, hF1]
  obtain ⟨G1, hG1⟩ : ∃ G, G = K1 ++ [⟨[.int .i64 w, .int .i64 h, n1, n2.1, n2.2, n3.1, n4, n5, n6.1, n7.1, .int .i64 tm], 0, 59⟩] := ⟨_, rfl⟩
  have bO : G1[K1.length]? = some ⟨[.int .i64 w, .int .i64 h, n1, n2.1, n2.2, n3.1, n4, n5, n6.1, n7.1, .int .i64 tm], 0, 59⟩ := by rw [hG1]; simp
  have aG : Chg K1 G1 [] := by rw [hG1]; exact Chg.app []
  have gl : K1.length + 1 ≤ G1.length := by rw [hG1]; simp
  try rw [← hG1]
  clear hG1
  have bM := box_chg bM aG (by simp)
  have bC := box_chg bC aG (by simp)
  have bR := box_chg bR aG (by simp)
  have cH := cH.trans aG
  have y3 := Dt.chg0 (T := dSS) y3 aG
  have y4 := Dt.chg0 (T := dIntS) y4 aG
  have y5 := Dt.chg0 (T := dIntS) y5 aG
  have y6 := Dt.chg0 (T := dSS) y6 aG
  have y7 := Dt.chg0 (T := dSS) y7 aG
  try simp [VM.look, bM, onem]
  refine wp_thn (l15Mesh_w w' h' vm b' (Rd.isI (om.1.rd.chg cH (by simp))) om.2) ?_
  rintro _ G2 ⟨m1, rfl, om1, c2, mm1, dm1⟩
  have qm := dMesh_one om1
  have lm := dMesh.lt om1
  have bM := box_chg bM c2 (by simp)
  have bC := box_chg bC c2 (by simp)
  have bR := box_chg bR c2 (by simp)
  have bO := box_chg bO c2 (by simp)
  have cH := cH.trans c2
  have gl2 := c2.1
  have y3 := Dt.chg0 (T := dSS) y3 c2
  have y4 := Dt.chg0 (T := dIntS) y4 c2
  have y5 := Dt.chg0 (T := dIntS) y5 c2
  have y6 := Dt.chg0 (T := dSS) y6 c2
  have y7 := Dt.chg0 (T := dSS) y7 c2
  have bO1 := set_get (r' := ⟨[.int .i64 w', .int .i64 h', m1, n2.1, n2.2, n3.1, n4, n5, n6.1, n7.1, .int .i64 tm], 0, 59⟩) bO
  have eO : Chg G2 (G2.set K1.length ⟨[.int .i64 w', .int .i64 h', m1, n2.1, n2.2, n3.1, n4, n5, n6.1, n7.1, .int .i64 tm], 0, 59⟩) [K1.length] := chg_set _ _
  have bR := box_chg bR eO (by simp; omega)
  have bC := box_chg bC eO (by simp; omega)
  have cH := cH.trans' eO (fun i hi => .inr (by simp at hi; omega))
  have om1 := Dt.chg (T := dMesh) om1 eO (fun i hi hh => by have := mm1 i hi; simp at hh; omega)
  have y3 := Dt.chg (T := dSS) y3 eO (fun i hi hh => by have := in3 i hi; simp at hh; omega)
  have y4 := Dt.chg (T := dIntS) y4 eO (fun i hi hh => by have := in4 i hi; simp at hh; omega)
  have y5 := Dt.chg (T := dIntS) y5 eO (fun i hi hh => by have := in5 i hi; simp at hh; omega)
  have y6 := Dt.chg (T := dSS) y6 eO (fun i hi hh => by have := in6 i hi; simp at hh; omega)
  have y7 := Dt.chg (T := dSS) y7 eO (fun i hi hh => by have := in7 i hi; simp at hh; omega)
  have gl2' : (G2.set K1.length ⟨[.int .i64 w', .int .i64 h', m1, n2.1, n2.2, n3.1, n4, n5, n6.1, n7.1, .int .i64 tm], 0, 59⟩).length = G2.length := by simp
  simp [dMesh_val, VM.look, bO, q, qm, hF1]
  generalize G2.set K1.length ⟨[.int .i64 w', .int .i64 h', m1, n2.1, n2.2, n3.1, n4, n5, n6.1, n7.1, .int .i64 tm], 0, 59⟩ = G2' at *
  have bO := bO1
  clear bO1
  try simp [VM.look, bC, onec]
  refine wp_thn (l15Classes_w vc.1 vc.2 c'.1 c'.2 (Rd.isI (oc.1.1.rd.chg cH (by simp))) (Rd.isI (oc.2.1.rd.chg cH (by simp))) oc.1.2 oc.2.2) ?_
  rintro _ G3 ⟨m2, rfl, om2, c3, mm2, dm2⟩
  have qc := dClasses_one om2
  have lc := dClasses.lt om2
  have bR := box_chg bR c3 (by simp)
  have bO := box_chg bO c3 (by simp)
  have cH := cH.trans c3
  have gl3 := c3.1
  have om1 := Dt.chg0 (T := dMesh) om1 c3
  have y3 := Dt.chg0 (T := dSS) y3 c3
  have y4 := Dt.chg0 (T := dIntS) y4 c3
  have y5 := Dt.chg0 (T := dIntS) y5 c3
  have y6 := Dt.chg0 (T := dSS) y6 c3
  have y7 := Dt.chg0 (T := dSS) y7 c3
  have bO2 := set_get (r' := ⟨[.int .i64 w', .int .i64 h', m1, m2.1, m2.2, n3.1, n4, n5, n6.1, n7.1, .int .i64 tm], 0, 59⟩) bO
  have eO : Chg G3 (G3.set K1.length ⟨[.int .i64 w', .int .i64 h', m1, m2.1, m2.2, n3.1, n4, n5, n6.1, n7.1, .int .i64 tm], 0, 59⟩) [K1.length] := chg_set _ _
  have bR := box_chg bR eO (by simp; omega)
  have cH := cH.trans' eO (fun i hi => .inr (by simp at hi; omega))
  have om1 := Dt.chg (T := dMesh) om1 eO (fun i hi hh => by have := mm1 i hi; simp at hh; omega)
  have om2 := Dt.chg (T := dClasses) om2 eO (fun i hi hh => by have := mm2 i hi; simp at hh; omega)
  have y3 := Dt.chg (T := dSS) y3 eO (fun i hi hh => by have := in3 i hi; simp at hh; omega)
  have y4 := Dt.chg (T := dIntS) y4 eO (fun i hi hh => by have := in4 i hi; simp at hh; omega)
  have y5 := Dt.chg (T := dIntS) y5 eO (fun i hi hh => by have := in5 i hi; simp at hh; omega)
  have y6 := Dt.chg (T := dSS) y6 eO (fun i hi hh => by have := in6 i hi; simp at hh; omega)
  have y7 := Dt.chg (T := dSS) y7 eO (fun i hi hh => by have := in7 i hi; simp at hh; omega)
  have gl4 : (G3.set K1.length ⟨[.int .i64 w', .int .i64 h', m1, m2.1, m2.2, n3.1, n4, n5, n6.1, n7.1, .int .i64 tm], 0, 59⟩).length = G3.length := by simp
  simp [dClasses_val, VM.look, bO, q, qm, qc, hF1]
  generalize G3.set K1.length ⟨[.int .i64 w', .int .i64 h', m1, m2.1, m2.2, n3.1, n4, n5, n6.1, n7.1, .int .i64 tm], 0, 59⟩ = G4 at *
  have bO := bO2
  clear bO2 bM bC aG c2 c3 eO y1 y2
  have hb4 := y4.2
  have hb5 := y5.2
  refine wp_inv (fun m t H' => ∃ i : Nat, m = own.length - i ∧ i ≤ own.length ∧ t 6 = .pointer (some ⟨H.length + 3, 0, some 0⟩) ∧ t 7 = .pointer (some ⟨K1.length, 0, some 0⟩) ∧ t 8 = .int .i64 i ∧ Chg G4 H' (dIntS.ids n4) ∧ Ow Fl.int 3 H' n4 (List.replicate i (-1) ++ own.drop i)) ?_ (n := own.length)
    ⟨0, rfl, by omega, by simp, by simp, by simp, Chg.refl _, by simpa using y4.1⟩
  rintro m t H' ⟨i, rfl, hi, t6, t7, t8, c4, o4⟩ ih
  have bO' := box_chg bO c4 (fun hh => by have := in4 _ hh; omega)
  have hll : (List.replicate i (-1 : Int) ++ own.drop i).length = own.length := by simp; omega
  have l4' := o4.rd.len (P := Try.prog) (ty := 24) (by simp)
  rw [hll] at l4'
  simp [t6, t7, t8, VM.look, bO', q, l4']
  refine wp_dec ?_ ?_ <;> intro g
  · have hi' : i < own.length := by omega
    have q1 := o4.rd.isI.idx (P := Try.prog) (ty := 24) (e := 3) (by simp) (i := (i : Int)) (by omega) (by omega)
    simp only [Int.toNat_natCast] at q1
    obtain ⟨H5, s5, o5, c5, l5⟩ := o4.put1 (P := Try.prog) (frz := H.length) rfl (et := 3) (ag := false) (x := .int .i64 (-1)) (by simp) (j := i) (y := -1) (by omega) rfl rfl rfl (fun j hj => by have := in4 j hj; omega)
    rw [rep_set hi'] at o5
    simp [t6, t7, t8, VM.look, bO', q, q1, s5]
    refine ih (own.length - (i + 1)) _ _ ⟨i + 1, rfl, by omega, by simp [t6], by simp [t7], ?_, c4.trans c5, o5⟩ (by omega)
    simp; rw [w64 (by omega) (by omega)]
  have : i = own.length := by omega
  subst this
  clear ih
  have bR := box_chg bR c4 (fun hh => by have := in4 _ hh; omega)
  have bO := bO'
  have cH := cH.trans' c4 (fun j hj => .inr (by have := in4 j hj; omega))
  have gl5 := c4.1
  have om1 := Dt.chg (T := dMesh) om1 c4 (fun j hj hh => by have := mm1 j hj; have := in4 j hh; omega)
  have om2 := Dt.chg (T := dClasses) om2 c4 (fun j hj hh => by have := mm2 j hj; have := in4 j hh; omega)
  have y3 := Dt.chg (T := dSS) y3 c4 (fun j hj hh => x43 j hh hj)
  have y5 := Dt.chg (T := dIntS) y5 c4 x54
  have y6 := Dt.chg (T := dSS) y6 c4 x64
  have y7 := Dt.chg (T := dSS) y7 c4 x74
  have o4 : Ow Fl.int 3 H' n4 (List.replicate own.length (-1)) := by simpa using o4
  have b4 := y4.2
  have b5 := y5.2
  clear y4 c4 bO' g l4' hll hi
  have l5 := y5.1.rd.len (P := Try.prog) (ty := 24) (by simp)
  simp [t6, t7, t8, VM.look, bO, q, l5]
  refine wp_need (by omega) ?_
  have o5 : Ow Fl.int 3 (H' ++ [⟨(List.replicate turn.length [Value.int .i64 0]).flatten, 0, 3⟩]) (.slice (some ⟨H'.length, 0, some 0⟩) turn.length 0) (List.replicate turn.length 0) := Ow.new0 rfl (rep_cells (D := Fl.int) 0 _) (by rw [rep_cells (D := Fl.int) 0]; exact ones_ints _) (by simp)
  have aG2 : Chg H' (H' ++ [⟨(List.replicate turn.length [Value.int .i64 0]).flatten, 0, 3⟩]) [] := Chg.app []
  have gl6 : H'.length < (H' ++ [⟨(List.replicate turn.length [Value.int .i64 0]).flatten, 0, 3⟩] : Heap).length := by simp
  have hn5 : ∀ j ∈ ids (.slice (some ⟨H'.length, 0, some 0⟩) turn.length 0), j = H'.length := by simp
  obtain ⟨n5', hn5'⟩ : ∃ z : Value, z = .slice (some ⟨H'.length, 0, some 0⟩) turn.length 0 := ⟨_, rfl⟩
  rw [← hn5'] at o5 hn5
  obtain ⟨H2, hH2⟩ : ∃ z : Heap, z = H' ++ [⟨(List.replicate turn.length [Value.int .i64 0]).flatten, 0, 3⟩] := ⟨_, rfl⟩
  rw [← hH2] at o5 aG2 gl6
  try rw [← hn5']
  try simp at hH2
  try rw [← hH2]
  have q5 := And.intro o5.rd.one' o5.rd.cells
  have bR := box_chg bR aG2 (by simp)
  have bO := box_chg bO aG2 (by simp)
  have cH := cH.trans aG2
  have om1 := Dt.chg0 (T := dMesh) om1 aG2
  have om2 := Dt.chg0 (T := dClasses) om2 aG2
  have y3 := Dt.chg0 (T := dSS) y3 aG2
  have o4 := o4.chg aG2 (by simp)
  have y6 := Dt.chg0 (T := dSS) y6 aG2
  have y7 := Dt.chg0 (T := dSS) y7 aG2
  have kO := box_lt bO
  have gO := set_get (r' := ⟨[.int .i64 w', .int .i64 h', m1, m2.1, m2.2, n3.1, n4, n5', n6.1, n7.1, .int .i64 tm], 0, 59⟩) bO
  have eO : Chg H2 (H2.set K1.length ⟨[.int .i64 w', .int .i64 h', m1, m2.1, m2.2, n3.1, n4, n5', n6.1, n7.1, .int .i64 tm], 0, 59⟩) [K1.length] := chg_set _ _
  have bR := box_chg bR eO (by simp; omega)
  have cH := cH.trans' eO (fun j hj => .inr (by simp at hj; omega))
  have om1 := Dt.chg (T := dMesh) om1 eO (fun i hi hh => by have := mm1 i hi; simp at hh; omega)
  have om2 := Dt.chg (T := dClasses) om2 eO (fun i hi hh => by have := mm2 i hi; simp at hh; omega)
  have y3 := Dt.chg (T := dSS) y3 eO (fun i hi hh => by have := in3 i hi; simp at hh; omega)
  have o4 := o4.chg eO (fun i hi hh => by have := in4 i hi; simp at hh; omega)
  have o5 := o5.chg eO (fun i hi hh => by have := hn5 i hi; simp at hh; omega)
  have y6 := Dt.chg (T := dSS) y6 eO (fun i hi hh => by have := in6 i hi; simp at hh; omega)
  have y7 := Dt.chg (T := dSS) y7 eO (fun i hi hh => by have := in7 i hi; simp at hh; omega)
  simp [t6, t7, t8, VM.look, bO, q, qm, qc, q5, hF1]
  generalize H2.set K1.length ⟨[.int .i64 w', .int .i64 h', m1, m2.1, m2.2, n3.1, n4, n5', n6.1, n7.1, .int .i64 tm], 0, 59⟩ = H3 at *
  have gR := set_get (r' := ⟨[.int .i64 w', .int .i64 h', m1, m2.1, m2.2, n3.1, n4, n5', n6.1, n7.1, .int .i64 tm], 0, 59⟩) bR
  have hF3 : H.length ≤ H.length + 3 := by omega
  have eR : Chg H3 (H3.set (H.length + 3) ⟨[.int .i64 w', .int .i64 h', m1, m2.1, m2.2, n3.1, n4, n5', n6.1, n7.1, .int .i64 tm], 0, 59⟩) [H.length + 3] := chg_set _ _
  try simp [t6, t7, t8, VM.look, gO, bR, q, qm, qc, q5, gR, hF3]
  refine ⟨(m1, m2, n3, n4, n5', n6, n7, ()), rfl, ⟨Dt.chg (T := dMesh) om1 eR (fun j hj hh => by have := mm1 j hj; simp at hh; omega), Dt.chg (T := dClasses) om2 eR (fun j hj hh => by have := mm2 j hj; simp at hh; omega), Dt.chg (T := dSS) y3 eR (fun j hj hh => by have := in3 j hj; simp at hh; omega),
    ⟨o4.chg eR (fun j hj hh => by have := in4 j hj; simp at hh; omega), by show (List.replicate own.length (-1)).length ≤ _; simpa using b4⟩, ⟨o5.chg eR (fun j hj hh => by have := hn5 j hj; simp at hh; omega), by show (List.replicate turn.length 0).length ≤ _; simpa using b5⟩, Dt.chg (T := dSS) y6 eR (fun j hj hh => by have := in6 j hj; simp at hh; omega), Dt.chg (T := dSS) y7 eR (fun j hj hh => by have := in7 j hj; simp at hh; omega), trivial⟩,
    cH.trans' eR (fun j hj => .inr (by simp at hj; omega)), fun j hj => ?_, ?_⟩
  · rcases List.mem_append.1 hj with hj | hj
    · have := mm1 j hj; omega
    rcases List.mem_append.1 hj with hj | hj
    · have := mm2 j hj; omega
    rcases List.mem_append.1 hj with hj | hj
    · have := in3 j hj; omega
    rcases List.mem_append.1 hj with hj | hj
    · have := in4 j hj; omega
    rcases List.mem_append.1 hj with hj | hj
    · have := hn5 j hj; omega
    · have := mr j (List.mem_append.2 (.inr (List.mem_append.2 (.inr (List.mem_append.2 (.inr hj)))))); omega
  · have big : ∀ j ∈ dSS.ids n6 ++ (dSS.ids n7 ++ []), j < K1.length := fun j hj => (mr j (List.mem_append.2 (.inr (List.mem_append.2 (.inr (List.mem_append.2 (.inr hj))))))).2
    have nd5 : (dIntS.ids n5' ++ (dSS.ids n6 ++ (dSS.ids n7 ++ []))).Nodup := List.nodup_append.2 ⟨ids_nodup n5', d52, fun a ha b hb e => by have := hn5 a ha; have := big b hb; omega⟩
    have nd4 : (dIntS.ids n4 ++ (dIntS.ids n5' ++ (dSS.ids n6 ++ (dSS.ids n7 ++ [])))).Nodup := List.nodup_append.2 ⟨d41, nd5, fun a ha b hb e => by
      rcases List.mem_append.1 hb with hb | hb
      · have := in4 a ha; have := hn5 b hb; omega
      · exact d43 a ha b (List.mem_append.2 (.inr hb)) e⟩
    have nd3 : (dSS.ids n3 ++ (dIntS.ids n4 ++ (dIntS.ids n5' ++ (dSS.ids n6 ++ (dSS.ids n7 ++ []))))).Nodup := List.nodup_append.2 ⟨d31, nd4, fun a ha b hb e => by
      rcases List.mem_append.1 hb with hb | hb
      · exact d33 a ha b (List.mem_append.2 (.inl hb)) e
      rcases List.mem_append.1 hb with hb | hb
      · have := in3 a ha; have := hn5 b hb; omega
      · exact d33 a ha b (List.mem_append.2 (.inr (List.mem_append.2 (.inr hb)))) e⟩
    have all : ∀ j ∈ dSS.ids n3 ++ (dIntS.ids n4 ++ (dIntS.ids n5' ++ (dSS.ids n6 ++ (dSS.ids n7 ++ [])))), j < K1.length ∨ j = H'.length := fun j hj => by
      rcases List.mem_append.1 hj with hj | hj
      · exact .inl (in3 j hj).2
      rcases List.mem_append.1 hj with hj | hj
      · exact .inl (in4 j hj).2
      rcases List.mem_append.1 hj with hj | hj
      · exact .inr (hn5 j hj)
      · exact .inl (big j hj)
    refine List.nodup_append.2 ⟨dm1, List.nodup_append.2 ⟨dm2, nd3, fun a ha b hb e => by have := mm2 a ha; have := lc a ha; have := all b hb; omega⟩, fun a ha b hb e => ?_⟩
    rcases List.mem_append.1 hb with hb | hb
    · have := lm a ha; have := mm2 b hb; omega
    · have := mm1 a ha; have := lm a ha; have := all b hb; omega
end Go.Proofs.Ytcigpclbhfkgaaa.V
/-! ReplaceClasses. -/
set_option linter.all false
namespace Go.Proofs.Ytcigpclbhfkgaaa.V
open Go Go.VM Go.Proofs
set_option maxRecDepth 10000
variable {frz : Nat} {H : Heap}
def replOk (x : NetD) (t : ClassesD) : Prop := idleOk x ∧ classesOk x.1.1 x.1.2.1 x.1.2.2 t.1 t.2
instance (x : NetD) (t : ClassesD) : Decidable (replOk x t) := inferInstanceAs (Decidable (_ ∧ _))
def repl (x : NetD) (t : ClassesD) : NetD := if replOk x t then fresh x x.1 t else x
theorem replace_d {v : NetV} {x : NetD} {vc : Value × Value} {t : ClassesD} (o : dNet.Ow H v x) (oc : dClasses.Ow H vc t) :
   wp (vcall C frz 36 [dNet.val v x, dClasses.val vc t] H) (Made2 dNet H (repl x t) (decide (replOk x t))) := by
  have ones := dNet_one o
  have onec := dClasses_one oc
  have ii := fun F L => isIdle_d (frz := F) (H := H ++ L) (v := v) (x := x) (Dt.app (T := dNet) o)
  have ck := fun F L => classesOk_c (frz := F) (H := H ++ L) x.1.1 x.1.2.1 v.1 vc.1 vc.2 x.1.2.2 t.1 t.2 (Rd.isI o.1.1.rd.app) (Rd.isI oc.1.1.rd.app) (Rd.isI oc.2.1.rd.app) o.1.2
  have ecopy := fun L => copyNet_d (frz := H.length) (H := H ++ L) (v := v) (x := x) (Dt.app (T := dNet) o)
  have efresh := fun L => replaced_d (frz := H.length) (H := H ++ L) (v := v) (x := x) (vm := v.1) (w' := x.1.1) (h' := x.1.2.1) (b' := x.1.2.2) (vc := vc) (c' := t) (Dt.app (T := dNet) o) (Dt.app (T := dMesh) o.1) (Dt.app (T := dClasses) oc)
  simp only [dNet_val, dClasses_val] at ii ecopy efresh ⊢
  rw [vcall_go (fn := Try.f36) Try.func36 rfl (by kernel_rfl) rfl]
  have hF : H.length ≤ H.length + 2 := by omega
  have key : ∀ (y : NetD) (n : NetV) (K : Heap) (ok : Bool), dNet.Ow K n y → Chg (H ++ [⟨[.int .i64 x.1.1, .int .i64 x.1.2.1, v.1, v.2.1.1, v.2.1.2, v.2.2.1.1, v.2.2.2.1, v.2.2.2.2.1, v.2.2.2.2.2.1.1, v.2.2.2.2.2.2.1.1, .int .i64 x.2.2.2.2.2.2.2], 0, 59⟩, ⟨[vc.1, vc.2], 0, 42⟩, ⟨[.int .i64 0, .int .i64 0, .slice none 0 0, .slice none 0 0, .slice none 0 0, .slice none 0 0, .slice none 0 0, .slice none 0 0, .slice none 0 0, .slice none 0 0, .int .i64 0], 0, 59⟩]) K [] → (∀ i ∈ dNet.ids n, H.length + 3 ≤ i) → (dNet.ids n).Nodup → repl x t = y → decide (replOk x t) = ok →
      K[H.length + 2]? = some ⟨[.int .i64 0, .int .i64 0, .slice none 0 0, .slice none 0 0, .slice none 0 0, .slice none 0 0, .slice none 0 0, .slice none 0 0, .slice none 0 0, .slice none 0 0, .int .i64 0], 0, 59⟩ ∧ Made2 dNet H (repl x t) (decide (replOk x t)) (.tuple #[dNet.val n y, .bool ok]) (K.set (H.length + 2) ⟨[.int .i64 y.1.1, .int .i64 y.1.2.1, n.1, n.2.1.1, n.2.1.2, n.2.2.1.1, n.2.2.2.1, n.2.2.2.2.1, n.2.2.2.2.2.1.1, n.2.2.2.2.2.2.1.1, .int .i64 y.2.2.2.2.2.2.2], 0, 59⟩) := by
    intro y n K ok on ck mn dn e1 e2
    have bR : K[H.length + 2]? = some ⟨[.int .i64 0, .int .i64 0, .slice none 0 0, .slice none 0 0, .slice none 0 0, .slice none 0 0, .slice none 0 0, .slice none 0 0, .slice none 0 0, .slice none 0 0, .int .i64 0], 0, 59⟩ := box_chg (by simp) ck (by simp)
    refine ⟨bR, dNet.val n y, by rw [e2], n, by rw [e1], ?_, ?_, fun i hi => by have := mn i hi; omega, dn⟩
    · rw [e1]; exact Dt.chg (T := dNet) on (chg_set _ _) (fun i hi hh => by have := mn i hi; simp at hh; omega)
    · exact ((Chg.app []).trans ck).trans' (chg_set _ _) (fun i hi => .inr (by simp at hi; omega))
  have fail : ¬ replOk x t → repl x t = x ∧ decide (replOk x t) = false := fun hh => ⟨if_neg hh, decide_eq_false hh⟩
  simp [ones, onec, ii]
  by_cases g1 : idleOk x
  rotate_left
  · simp [g1, ones, onec]
    refine wp_thn (ecopy _) ?_
    rintro _ K ⟨n, rfl, on, cn, mn, dn⟩
    obtain ⟨f1, f2⟩ := fail (fun k => g1 k.1)
    simp at mn
    obtain ⟨bR, hm⟩ := key x n K false on cn mn dn f1 f2
    have qn := dNet_one on
    have gR := set_get (r' := ⟨[.int .i64 x.1.1, .int .i64 x.1.2.1, n.1, n.2.1.1, n.2.1.2, n.2.2.1.1, n.2.2.2.1, n.2.2.2.2.1, n.2.2.2.2.2.1.1, n.2.2.2.2.2.2.1.1, .int .i64 x.2.2.2.2.2.2.2], 0, 59⟩) bR
    simp [dNet_val, VM.look, bR, qn, gR, hF]
    exact hm
  simp [g1, ones, onec, ck]
  by_cases g2 : classesOk x.1.1 x.1.2.1 x.1.2.2 t.1 t.2
  rotate_left
  · simp [g2, ones, onec]
    refine wp_thn (ecopy _) ?_
    rintro _ K ⟨n, rfl, on, cn, mn, dn⟩
    obtain ⟨f1, f2⟩ := fail (fun k => g2 k.2)
    simp at mn
    obtain ⟨bR, hm⟩ := key x n K false on cn mn dn f1 f2
    have qn := dNet_one on
    have gR := set_get (r' := ⟨[.int .i64 x.1.1, .int .i64 x.1.2.1, n.1, n.2.1.1, n.2.1.2, n.2.2.1.1, n.2.2.2.1, n.2.2.2.2.1, n.2.2.2.2.2.1.1, n.2.2.2.2.2.2.1.1, .int .i64 x.2.2.2.2.2.2.2], 0, 59⟩) bR
    simp [dNet_val, VM.look, bR, qn, gR, hF]
    exact hm
  simp [g2, ones, onec]
  refine wp_thn (efresh _) ?_
  rintro _ K ⟨n, rfl, on, cn, mn, dn⟩
  simp at mn
  have e1 : repl x t = fresh x (x.1.1, x.1.2.1, x.1.2.2) t := if_pos ⟨g1, g2⟩
  obtain ⟨bR, hm⟩ := key _ n K true on cn mn dn e1 (decide_eq_true ⟨g1, g2⟩)
  have qn := dNet_one on
  have gR := set_get (r' := ⟨[.int .i64 (fresh x (x.1.1, x.1.2.1, x.1.2.2) t).1.1, .int .i64 (fresh x (x.1.1, x.1.2.1, x.1.2.2) t).1.2.1, n.1, n.2.1.1, n.2.1.2, n.2.2.1.1, n.2.2.2.1, n.2.2.2.2.1, n.2.2.2.2.2.1.1, n.2.2.2.2.2.2.1.1, .int .i64 (fresh x (x.1.1, x.1.2.1, x.1.2.2) t).2.2.2.2.2.2.2], 0, 59⟩) bR
  simp [dNet_val, VM.look, bR, qn, gR, hF]
  exact hm
theorem sReplace_d {v : NetV} {x : NetD} {vc : Value × Value} {t : ClassesD} (o : dNet.Ow H v x) (oc : dClasses.Ow H vc t) :
   wp (vcall C frz 35 [dNet.val v x, dClasses.val vc t] H) (Made2 dNet H (repl x t) (decide (replOk x t))) := by
  have ones := dNet_one o
  have onec := dClasses_one oc
  have ii := fun F L => sIsIdle_d (frz := F) (H := H ++ L) (v := v) (x := x) (Dt.app (T := dNet) o)
  have ck := fun F L => sClassesOk_c (frz := F) (H := H ++ L) x.1.1 x.1.2.1 v.1 vc.1 vc.2 x.1.2.2 t.1 t.2 (Rd.isI o.1.1.rd.app) (Rd.isI oc.1.1.rd.app) (Rd.isI oc.2.1.rd.app) o.1.2
  have ecopy := fun L => l15Copy_d (frz := H.length) (H := H ++ L) (v := v) (x := x) (Dt.app (T := dNet) o)
  have efresh := fun L => l34Fresh_d (frz := H.length) (H := H ++ L) (v := v) (x := x) (vm := v.1) (w' := x.1.1) (h' := x.1.2.1) (b' := x.1.2.2) (vc := vc) (c' := t) (Dt.app (T := dNet) o) (Dt.app (T := dMesh) o.1) (Dt.app (T := dClasses) oc)
  simp only [dNet_val, dClasses_val] at ii ecopy efresh ⊢
  rw [vcall_go (fn := Try.f35) Try.func35 rfl (by kernel_rfl) rfl]
  have hF : H.length ≤ H.length + 2 := by omega
  have key : ∀ (y : NetD) (n : NetV) (K : Heap) (ok : Bool), dNet.Ow K n y → Chg (H ++ [⟨[.int .i64 x.1.1, .int .i64 x.1.2.1, v.1, v.2.1.1, v.2.1.2, v.2.2.1.1, v.2.2.2.1, v.2.2.2.2.1, v.2.2.2.2.2.1.1, v.2.2.2.2.2.2.1.1, .int .i64 x.2.2.2.2.2.2.2], 0, 59⟩, ⟨[vc.1, vc.2], 0, 42⟩, ⟨[.int .i64 0, .int .i64 0, .slice none 0 0, .slice none 0 0, .slice none 0 0, .slice none 0 0, .slice none 0 0, .slice none 0 0, .slice none 0 0, .slice none 0 0, .int .i64 0], 0, 59⟩]) K [] → (∀ i ∈ dNet.ids n, H.length + 3 ≤ i) → (dNet.ids n).Nodup → repl x t = y → decide (replOk x t) = ok →
      K[H.length + 2]? = some ⟨[.int .i64 0, .int .i64 0, .slice none 0 0, .slice none 0 0, .slice none 0 0, .slice none 0 0, .slice none 0 0, .slice none 0 0, .slice none 0 0, .slice none 0 0, .int .i64 0], 0, 59⟩ ∧ Made2 dNet H (repl x t) (decide (replOk x t)) (.tuple #[dNet.val n y, .bool ok]) (K.set (H.length + 2) ⟨[.int .i64 y.1.1, .int .i64 y.1.2.1, n.1, n.2.1.1, n.2.1.2, n.2.2.1.1, n.2.2.2.1, n.2.2.2.2.1, n.2.2.2.2.2.1.1, n.2.2.2.2.2.2.1.1, .int .i64 y.2.2.2.2.2.2.2], 0, 59⟩) := by
    intro y n K ok on ck mn dn e1 e2
    have bR : K[H.length + 2]? = some ⟨[.int .i64 0, .int .i64 0, .slice none 0 0, .slice none 0 0, .slice none 0 0, .slice none 0 0, .slice none 0 0, .slice none 0 0, .slice none 0 0, .slice none 0 0, .int .i64 0], 0, 59⟩ := box_chg (by simp) ck (by simp)
    refine ⟨bR, dNet.val n y, by rw [e2], n, by rw [e1], ?_, ?_, fun i hi => by have := mn i hi; omega, dn⟩
    · rw [e1]; exact Dt.chg (T := dNet) on (chg_set _ _) (fun i hi hh => by have := mn i hi; simp at hh; omega)
    · exact ((Chg.app []).trans ck).trans' (chg_set _ _) (fun i hi => .inr (by simp at hi; omega))
  have fail : ¬ replOk x t → repl x t = x ∧ decide (replOk x t) = false := fun hh => ⟨if_neg hh, decide_eq_false hh⟩
  simp [ones, onec, ii]
  by_cases g1 : idleOk x
  rotate_left
  · simp [g1, ones, onec]
    refine wp_thn (ecopy _) ?_
    rintro _ K ⟨n, rfl, on, cn, mn, dn⟩
    obtain ⟨f1, f2⟩ := fail (fun k => g1 k.1)
    simp at mn
    obtain ⟨bR, hm⟩ := key x n K false on cn mn dn f1 f2
    have qn := dNet_one on
    have gR := set_get (r' := ⟨[.int .i64 x.1.1, .int .i64 x.1.2.1, n.1, n.2.1.1, n.2.1.2, n.2.2.1.1, n.2.2.2.1, n.2.2.2.2.1, n.2.2.2.2.2.1.1, n.2.2.2.2.2.2.1.1, .int .i64 x.2.2.2.2.2.2.2], 0, 59⟩) bR
    simp [dNet_val, VM.look, bR, qn, gR, hF]
    exact hm
  simp [g1, ones, onec, ck]
  by_cases g2 : classesOk x.1.1 x.1.2.1 x.1.2.2 t.1 t.2
  rotate_left
  · simp [g2, ones, onec]
    refine wp_thn (ecopy _) ?_
    rintro _ K ⟨n, rfl, on, cn, mn, dn⟩
    obtain ⟨f1, f2⟩ := fail (fun k => g2 k.2)
    simp at mn
    obtain ⟨bR, hm⟩ := key x n K false on cn mn dn f1 f2
    have qn := dNet_one on
    have gR := set_get (r' := ⟨[.int .i64 x.1.1, .int .i64 x.1.2.1, n.1, n.2.1.1, n.2.1.2, n.2.2.1.1, n.2.2.2.1, n.2.2.2.2.1, n.2.2.2.2.2.1.1, n.2.2.2.2.2.2.1.1, .int .i64 x.2.2.2.2.2.2.2], 0, 59⟩) bR
    simp [dNet_val, VM.look, bR, qn, gR, hF]
    exact hm
  simp [g2, ones, onec]
  refine wp_thn (efresh _) ?_
  rintro _ K ⟨n, rfl, on, cn, mn, dn⟩
  simp at mn
  have e1 : repl x t = fresh x (x.1.1, x.1.2.1, x.1.2.2) t := if_pos ⟨g1, g2⟩
  obtain ⟨bR, hm⟩ := key _ n K true on cn mn dn e1 (decide_eq_true ⟨g1, g2⟩)
  have qn := dNet_one on
  have gR := set_get (r' := ⟨[.int .i64 (fresh x (x.1.1, x.1.2.1, x.1.2.2) t).1.1, .int .i64 (fresh x (x.1.1, x.1.2.1, x.1.2.2) t).1.2.1, n.1, n.2.1.1, n.2.1.2, n.2.2.1.1, n.2.2.2.1, n.2.2.2.2.1, n.2.2.2.2.2.1.1, n.2.2.2.2.2.2.1.1, .int .i64 (fresh x (x.1.1, x.1.2.1, x.1.2.2) t).2.2.2.2.2.2.2], 0, 59⟩) bR
  simp [dNet_val, VM.look, bR, qn, gR, hF]
  exact hm
end Go.Proofs.Ytcigpclbhfkgaaa.V
/-! The law FnExactReplaceClasses. -/
set_option linter.all false
namespace Go.Proofs.Ytcigpclbhfkgaaa.V
open Go Go.VM Go.Proofs
set_option maxRecDepth 10000
variable {frz : Nat} {H : Heap}
theorem law_FnExactReplaceClasses_w {a0_0 : Int} {a0_1 : Int} {a0_2 : List (Int)} {u0_2 : Value} {a0_3 : List (Int)} {u0_3 : Value} {a0_4 : List (Int)} {u0_4 : Value} {a0_5 : List (List (Int × Int × Int × Bool × Bool))} {u0_5 : Value} {a0_6 : List (Int)} {u0_6 : Value} {a0_7 : List (Int)} {u0_7 : Value} {a0_8 : List (List (Int × Int × Int × Bool × Bool))} {u0_8 : Value} {a0_9 : List (List (Int × Int × Int × Bool × Bool))} {u0_9 : Value} {a0_10 : Int} {a1_0 : List (Int)} {u1_0 : Value} {a1_1 : List (Int)} {u1_1 : Value} (s0_2 : IsS (Kn.int .i64) H u0_2 a0_2) (s0_3 : IsS (Kn.int .i64) H u0_3 a0_3) (s0_4 : IsS (Kn.int .i64) H u0_4 a0_4) (s0_5 : IsS (Kn.slice (Kn.pair (Kn.int .i64) (Kn.pair (Kn.int .i64) (Kn.pair (Kn.int .i64) (Kn.pair Kn.bool Kn.bool))))) H u0_5 a0_5) (s0_6 : IsS (Kn.int .i64) H u0_6 a0_6) (s0_7 : IsS (Kn.int .i64) H u0_7 a0_7) (s0_8 : IsS (Kn.slice (Kn.pair (Kn.int .i64) (Kn.pair (Kn.int .i64) (Kn.pair (Kn.int .i64) (Kn.pair Kn.bool Kn.bool))))) H u0_8 a0_8) (s0_9 : IsS (Kn.slice (Kn.pair (Kn.int .i64) (Kn.pair (Kn.int .i64) (Kn.pair (Kn.int .i64) (Kn.pair Kn.bool Kn.bool))))) H u0_9 a0_9) (s1_0 : IsS (Kn.int .i64) H u1_0 a1_0) (s1_1 : IsS (Kn.int .i64) H u1_1 a1_1)
    (w0 : ((((Lit.int .i64 a0_0).wf = true) ∧ ((Lit.int .i64 a0_1).wf = true)) ∧ (a0_2.length ≤ maxLen ∧ ∀ x1 ∈ a0_2, (Lit.int .i64 x1).wf = true)) ∧ (((a0_3.length ≤ maxLen ∧ ∀ x2 ∈ a0_3, (Lit.int .i64 x2).wf = true)) ∧ ((a0_4.length ≤ maxLen ∧ ∀ x3 ∈ a0_4, (Lit.int .i64 x3).wf = true))) ∧ (a0_5.length ≤ maxLen ∧ ∀ x4 ∈ a0_5, x4.length ≤ maxLen ∧ ∀ x5 ∈ x4, ((Lit.int .i64 x5.1).wf = true) ∧ ((Lit.int .i64 x5.2.1).wf = true) ∧ ((Lit.int .i64 x5.2.2.1).wf = true) ∧ (True) ∧ (True)) ∧ (a0_6.length ≤ maxLen ∧ ∀ x6 ∈ a0_6, (Lit.int .i64 x6).wf = true) ∧ (a0_7.length ≤ maxLen ∧ ∀ x7 ∈ a0_7, (Lit.int .i64 x7).wf = true) ∧ (a0_8.length ≤ maxLen ∧ ∀ x8 ∈ a0_8, x8.length ≤ maxLen ∧ ∀ x9 ∈ x8, ((Lit.int .i64 x9.1).wf = true) ∧ ((Lit.int .i64 x9.2.1).wf = true) ∧ ((Lit.int .i64 x9.2.2.1).wf = true) ∧ (True) ∧ (True)) ∧ (a0_9.length ≤ maxLen ∧ ∀ x10 ∈ a0_9, x10.length ≤ maxLen ∧ ∀ x11 ∈ x10, ((Lit.int .i64 x11.1).wf = true) ∧ ((Lit.int .i64 x11.2.1).wf = true) ∧ ((Lit.int .i64 x11.2.2.1).wf = true) ∧ (True) ∧ (True)) ∧ ((Lit.int .i64 a0_10).wf = true)) (w1 : ((a1_0.length ≤ maxLen ∧ ∀ x12 ∈ a1_0, (Lit.int .i64 x12).wf = true)) ∧ ((a1_1.length ≤ maxLen ∧ ∀ x13 ∈ a1_1, (Lit.int .i64 x13).wf = true))) :
    wp (vcall C frz 7 [.agg #[.int .i64 a0_0, .int .i64 a0_1, u0_2, u0_3, u0_4, u0_5, u0_6, u0_7, u0_8, u0_9, .int .i64 a0_10], .agg #[u1_0, u1_1]] H) (fun r _ => r = .bool true) := by
  have r0_2 := s0_2.ints.rd
  have r0_3 := s0_3.ints.rd
  have r0_4 := s0_4.ints.rd
  obtain ⟨h0_5, r0_5⟩ := IsS.rdL_of (fun hh => IsS.rd_of rfl knF_is hh) s0_5
  have r0_6 := s0_6.ints.rd
  have r0_7 := s0_7.ints.rd
  obtain ⟨h0_8, r0_8⟩ := IsS.rdL_of (fun hh => IsS.rd_of rfl knF_is hh) s0_8
  obtain ⟨h0_9, r0_9⟩ := IsS.rdL_of (fun hh => IsS.rd_of rfl knF_is hh) s0_9
  have r1_0 := s1_0.ints.rd
  have r1_1 := s1_1.ints.rd
  have rl0_2 := fun (L : Heap) => (Rd.app (L := L) r0_2).len (P := Try.prog) (ty := 24) (by simp)
  have rm0_2 := r0_2.len (P := Try.prog) (ty := 24) (by simp)
  have rl0_3 := fun (L : Heap) => (Rd.app (L := L) r0_3).len (P := Try.prog) (ty := 24) (by simp)
  have rm0_3 := r0_3.len (P := Try.prog) (ty := 24) (by simp)
  have rl0_4 := fun (L : Heap) => (Rd.app (L := L) r0_4).len (P := Try.prog) (ty := 24) (by simp)
  have rm0_4 := r0_4.len (P := Try.prog) (ty := 24) (by simp)
  have rl0_6 := fun (L : Heap) => (Rd.app (L := L) r0_6).len (P := Try.prog) (ty := 24) (by simp)
  have rm0_6 := r0_6.len (P := Try.prog) (ty := 24) (by simp)
  have rl0_7 := fun (L : Heap) => (Rd.app (L := L) r0_7).len (P := Try.prog) (ty := 24) (by simp)
  have rm0_7 := r0_7.len (P := Try.prog) (ty := 24) (by simp)
  have rl1_0 := fun (L : Heap) => (Rd.app (L := L) r1_0).len (P := Try.prog) (ty := 24) (by simp)
  have rm1_0 := r1_0.len (P := Try.prog) (ty := 24) (by simp)
  have rl1_1 := fun (L : Heap) => (Rd.app (L := L) r1_1).len (P := Try.prog) (ty := 24) (by simp)
  have rm1_1 := r1_1.len (P := Try.prog) (ty := 24) (by simp)
  rw [vcall_go (fn := Try.f7) Try.func7 rfl (by kernel_rfl) rfl]
  have ro0_2 := And.intro r0_2.one' r0_2.cells
  have ro0_3 := And.intro r0_3.one' r0_3.cells
  have ro0_4 := And.intro r0_4.one' r0_4.cells
  have ro0_5 := And.intro r0_5.1.one' r0_5.1.cells
  have ro0_6 := And.intro r0_6.one' r0_6.cells
  have ro0_7 := And.intro r0_7.one' r0_7.cells
  have ro0_8 := And.intro r0_8.1.one' r0_8.1.cells
  have ro0_9 := And.intro r0_9.1.one' r0_9.1.cells
  have ro1_0 := And.intro r1_0.one' r1_0.cells
  have ro1_1 := And.intro r1_1.one' r1_1.cells
  simp [VM.look, ro0_2, rl0_2, rm0_2, ro0_3, rl0_3, rm0_3, ro0_4, rl0_4, rm0_4, ro0_5, ro0_6, rl0_6, rm0_6, ro0_7, rl0_7, rm0_7, ro0_8, ro0_9, ro1_0, rl1_0, rm1_0, ro1_1, rl1_1, rm1_1]
  have sz0 := fun F (L : Heap) => szNet_c (frz := F) (H := H ++ L) a0_0 a0_1 a0_10 1048576 u0_2 u0_3 u0_4 u0_5 u0_6 u0_7 u0_8 u0_9 h0_5 h0_8 h0_9 a0_2 a0_3 a0_4 a0_6 a0_7 a0_5 a0_8 a0_9 (IsI.rd (Rd.isI (Rd.chg r0_2 ((Chg.refl (H := H) []).trans (Chg.app [])) (by simp)))) (IsI.rd (Rd.isI (Rd.chg r0_3 ((Chg.refl (H := H) []).trans (Chg.app [])) (by simp)))) (IsI.rd (Rd.isI (Rd.chg r0_4 ((Chg.refl (H := H) []).trans (Chg.app [])) (by simp)))) (RdL.chg r0_5 ((Chg.refl (H := H) []).trans (Chg.app [])) (by simp)) (IsI.rd (Rd.isI (Rd.chg r0_6 ((Chg.refl (H := H) []).trans (Chg.app [])) (by simp)))) (IsI.rd (Rd.isI (Rd.chg r0_7 ((Chg.refl (H := H) []).trans (Chg.app [])) (by simp)))) (RdL.chg r0_8 ((Chg.refl (H := H) []).trans (Chg.app [])) (by simp)) (RdL.chg r0_9 ((Chg.refl (H := H) []).trans (Chg.app [])) (by simp)) (by have := w0.1.2.1; simpa [maxLen] using this) (by have := w0.2.1.1.1; simpa [maxLen] using this) (by have := w0.2.1.2.1; simpa [maxLen] using this) (by have := w0.2.2.1.1; simpa [maxLen] using this) (fun x hx => by have := (w0.2.2.1.2 x hx).1; simpa [maxLen] using this) (by have := w0.2.2.2.1.1; simpa [maxLen] using this) (by have := w0.2.2.2.2.1.1; simpa [maxLen] using this) (by have := w0.2.2.2.2.2.1.1; simpa [maxLen] using this) (fun x hx => by have := (w0.2.2.2.2.2.1.2 x hx).1; simpa [maxLen] using this) (by have := w0.2.2.2.2.2.2.1.1; simpa [maxLen] using this) (fun x hx => by have := (w0.2.2.2.2.2.2.1.2 x hx).1; simpa [maxLen] using this) (by omega) (by omega)
  simp [VM.look, ro0_2, rl0_2, rm0_2, ro0_3, rl0_3, rm0_3, ro0_4, rl0_4, rm0_4, ro0_5, ro0_6, rl0_6, rm0_6, ro0_7, rl0_7, rm0_7, ro0_8, ro0_9, ro1_0, rl1_0, rm1_0, ro1_1, rl1_1, rm1_1, sz0]
  refine wp_dec ?_ ?_ <;> intro g1 <;> simp [g1]
  have t0 : (a0_2.length : Int) + ((a0_3.length : Int) + (a0_4.length : Int)) + (tot a0_5 : Int) + (a0_6.length : Int) + (a0_7.length : Int) + (tot a0_8 : Int) + (tot a0_9 : Int) ≤ 1048576 := by split at g1 <;> omega
  have f0 : ¬ (1048576 : Int) < (a0_2.length : Int) + ((a0_3.length : Int) + (a0_4.length : Int)) + (tot a0_5 : Int) + (a0_6.length : Int) + (a0_7.length : Int) + (tot a0_8 : Int) + (tot a0_9 : Int) := by omega
  simp only [if_neg f0]
  try simp [VM.look, ro0_2, rl0_2, rm0_2, ro0_3, rl0_3, rm0_3, ro0_4, rl0_4, rm0_4, ro0_5, ro0_6, rl0_6, rm0_6, ro0_7, rl0_7, rm0_7, ro0_8, ro0_9, ro1_0, rl1_0, rm1_0, ro1_1, rl1_1, rm1_1, f0]
  have sz1 := fun F (L : Heap) => szClasses_c (frz := F) (H := H ++ L) u1_0 u1_1 a1_0 a1_1 (1048576 - ((a0_2.length : Int) + ((a0_3.length : Int) + (a0_4.length : Int)) + (tot a0_5 : Int) + (a0_6.length : Int) + (a0_7.length : Int) + (tot a0_8 : Int) + (tot a0_9 : Int))) (Rd.isI (Rd.chg r1_0 ((Chg.refl (H := H) []).trans (Chg.app [])) (by simp))) (Rd.isI (Rd.chg r1_1 ((Chg.refl (H := H) []).trans (Chg.app [])) (by simp))) (by omega) (by omega) (by have := w1.1.1; simpa [maxLen] using this) (by have := w1.2.1; simpa [maxLen] using this)
  simp [VM.look, ro0_2, rl0_2, rm0_2, ro0_3, rl0_3, rm0_3, ro0_4, rl0_4, rm0_4, ro0_5, ro0_6, rl0_6, rm0_6, ro0_7, rl0_7, rm0_7, ro0_8, ro0_9, ro1_0, rl1_0, rm1_0, ro1_1, rl1_1, rm1_1, sz1, f0]
  refine wp_dec ?_ ?_ <;> intro g2 <;> simp [g2]
  have t1 : ((a1_0.length : Int) + (a1_1.length : Int)) ≤ (1048576 - ((a0_2.length : Int) + ((a0_3.length : Int) + (a0_4.length : Int)) + (tot a0_5 : Int) + (a0_6.length : Int) + (a0_7.length : Int) + (tot a0_8 : Int) + (tot a0_9 : Int))) := by split at g2 <;> omega
  have f1 : ¬ ((1048576 - ((a0_2.length : Int) + ((a0_3.length : Int) + (a0_4.length : Int)) + (tot a0_5 : Int) + (a0_6.length : Int) + (a0_7.length : Int) + (tot a0_8 : Int) + (tot a0_9 : Int))) : Int) < ((a1_0.length : Int) + (a1_1.length : Int)) := by omega
  simp only [if_neg f1]
  try simp [VM.look, ro0_2, rl0_2, rm0_2, ro0_3, rl0_3, rm0_3, ro0_4, rl0_4, rm0_4, ro0_5, ro0_6, rl0_6, rm0_6, ro0_7, rl0_7, rm0_7, ro0_8, ro0_9, ro1_0, rl1_0, rm1_0, ro1_1, rl1_1, rm1_1, f0, f1]
  rw [go_draw (h := by kernel_rfl)]
  simp [VM.look, ro0_2, rl0_2, rm0_2, ro0_3, rl0_3, rm0_3, ro0_4, rl0_4, rm0_4, ro0_5, ro0_6, rl0_6, rm0_6, ro0_7, rl0_7, rm0_7, ro0_8, ro0_9, ro1_0, rl1_0, rm1_0, ro1_1, rl1_1, rm1_1, f0, f1]
  refine wp_thn (toNet_w a0_0 a0_1 a0_10 u0_2 u0_3 u0_4 u0_5 u0_6 u0_7 u0_8 u0_9 h0_5 h0_8 h0_9 a0_2 a0_3 a0_4 a0_6 a0_7 a0_5 a0_8 a0_9 (IsI.rd (Rd.isI (Rd.chg r0_2 ((Chg.refl (H := H) []).trans (Chg.app [])) (by simp)))) (IsI.rd (Rd.isI (Rd.chg r0_3 ((Chg.refl (H := H) []).trans (Chg.app [])) (by simp)))) (IsI.rd (Rd.isI (Rd.chg r0_4 ((Chg.refl (H := H) []).trans (Chg.app [])) (by simp)))) (RdL.chg r0_5 ((Chg.refl (H := H) []).trans (Chg.app [])) (by simp)) (IsI.rd (Rd.isI (Rd.chg r0_6 ((Chg.refl (H := H) []).trans (Chg.app [])) (by simp)))) (IsI.rd (Rd.isI (Rd.chg r0_7 ((Chg.refl (H := H) []).trans (Chg.app [])) (by simp)))) (RdL.chg r0_8 ((Chg.refl (H := H) []).trans (Chg.app [])) (by simp)) (RdL.chg r0_9 ((Chg.refl (H := H) []).trans (Chg.app [])) (by simp)) (by omega) (by omega) (by omega) (by have := tot_len a0_5; omega) (fun x hx => by have := tot_in a0_5 x hx; omega) (by omega) (by omega) (by have := tot_len a0_8; omega) (fun x hx => by have := tot_in a0_8 x hx; omega) (by have := tot_len a0_9; omega) (fun x hx => by have := tot_in a0_9 x hx; omega)) ?_
  rintro _ H1 ⟨v_x0, rfl, o_x0, c1, n_x0, d_x0⟩
  have l1 := c1.1
  try simp at l1
  have b1_2 := box_chg ((app_get0 _ _).trans rfl) c1 (by simp)
  have b1_3 := box_chg ((app_get _ _ 1).trans rfl) c1 (by simp)
  have cH1 : Chg H H1 [] := ((Chg.refl (H := H) []).trans (Chg.app [])).trans c1
  have h_x0 := dNet.lt o_x0
  try simp at n_x0
  have one_x0 := dNet_one o_x0
  simp [VM.look, b1_2, b1_3, get_app' b1_2, get_app' b1_3, cH1.1, Nat.le_add_right_of_le cH1.1, one_x0, ro0_2, ro0_3, ro0_4, ro0_5, ro0_6, ro0_7, ro0_8, ro0_9, ro1_0, ro1_1, dNet_val, f0, f1]
  refine wp_thn (toClasses_w u1_0 u1_1 a1_0 a1_1 (Rd.isI (Rd.chg r1_0 cH1 (by simp))) (Rd.isI (Rd.chg r1_1 cH1 (by simp))) (by omega) (by omega)) ?_
  rintro _ H2 ⟨v_x1, rfl, o_x1, c2, n_x1, d_x1⟩
  have l2 := c2.1
  try simp at l2
  have b2_2 := box_chg b1_2 c2 (by simp)
  have b2_3 := box_chg b1_3 c2 (by simp)
  have o2_x0 := Dt.chg0 o_x0 c2
  have cH2 : Chg H H2 [] := (cH1).trans c2
  have h_x1 := dClasses.lt o_x1
  try simp at n_x1
  have one_x1 := dClasses_one o_x1
  simp [VM.look, b2_2, b2_3, get_app' b2_2, get_app' b2_3, cH2.1, Nat.le_add_right_of_le cH2.1, one_x0, one_x1, ro0_2, ro0_3, ro0_4, ro0_5, ro0_6, ro0_7, ro0_8, ro0_9, ro1_0, ro1_1, dNet_val, dClasses_val, f0, f1]
  have ex3 := sReplace_d (frz := H.length) o2_x0 o_x1
  try simp only [dNet_val, dClasses_val] at ex3
  refine wp_thn ex3 ?_
  rintro _ H3 ⟨_, rfl, v_w2, rfl, o_w2, c3, n_w2, d_w2⟩
  clear ex3
  have l3 := c3.1
  try simp at l3
  have b3_2 := box_chg b2_2 c3 (by simp)
  have b3_3 := box_chg b2_3 c3 (by simp)
  have o3_x0 := Dt.chg0 o2_x0 c3
  have o3_x1 := Dt.chg0 o_x1 c3
  have cH3 : Chg H H3 [] := (cH2).trans c3
  have h_w2 := dNet.lt o_w2
  try simp at n_w2
  have one_w2 := dNet_one o_w2
  simp [VM.look, b3_2, b3_3, get_app' b3_2, get_app' b3_3, cH3.1, Nat.le_add_right_of_le cH3.1, one_x0, one_x1, one_w2, ro0_2, ro0_3, ro0_4, ro0_5, ro0_6, ro0_7, ro0_8, ro0_9, ro1_0, ro1_1, dNet_val, dClasses_val, f0, f1]
  refine wp_thn (toNet_w a0_0 a0_1 a0_10 u0_2 u0_3 u0_4 u0_5 u0_6 u0_7 u0_8 u0_9 h0_5 h0_8 h0_9 a0_2 a0_3 a0_4 a0_6 a0_7 a0_5 a0_8 a0_9 (IsI.rd (Rd.isI (Rd.chg r0_2 (cH3.trans (Chg.app [])) (by simp)))) (IsI.rd (Rd.isI (Rd.chg r0_3 (cH3.trans (Chg.app [])) (by simp)))) (IsI.rd (Rd.isI (Rd.chg r0_4 (cH3.trans (Chg.app [])) (by simp)))) (RdL.chg r0_5 (cH3.trans (Chg.app [])) (by simp)) (IsI.rd (Rd.isI (Rd.chg r0_6 (cH3.trans (Chg.app [])) (by simp)))) (IsI.rd (Rd.isI (Rd.chg r0_7 (cH3.trans (Chg.app [])) (by simp)))) (RdL.chg r0_8 (cH3.trans (Chg.app [])) (by simp)) (RdL.chg r0_9 (cH3.trans (Chg.app [])) (by simp)) (by omega) (by omega) (by omega) (by have := tot_len a0_5; omega) (fun x hx => by have := tot_in a0_5 x hx; omega) (by omega) (by omega) (by have := tot_len a0_8; omega) (fun x hx => by have := tot_in a0_8 x hx; omega) (by have := tot_len a0_9; omega) (fun x hx => by have := tot_in a0_9 x hx; omega)) ?_
  rintro _ H4 ⟨v_x3, rfl, o_x3, c4, n_x3, d_x3⟩
  have l4 := c4.1
  try simp at l4
  have b4_6 := box_chg ((app_get0 _ _).trans rfl) c4 (by simp)
  have b4_2 := box_chg (get_app' b3_2 _) c4 (by simp)
  have b4_3 := box_chg (get_app' b3_3 _) c4 (by simp)
  have o4_x0 := Dt.chg0 (Dt.app o3_x0) c4
  have o4_x1 := Dt.chg0 (Dt.app o3_x1) c4
  have o4_w2 := Dt.chg0 (Dt.app o_w2) c4
  have cH4 : Chg H H4 [] := (cH3.trans (Chg.app [])).trans c4
  have h_x3 := dNet.lt o_x3
  try simp at n_x3
  have one_x3 := dNet_one o_x3
  simp [VM.look, b4_2, b4_3, b4_6, get_app' b4_2, get_app' b4_3, get_app' b4_6, cH4.1, Nat.le_add_right_of_le cH4.1, one_x0, one_x1, one_w2, one_x3, ro0_2, ro0_3, ro0_4, ro0_5, ro0_6, ro0_7, ro0_8, ro0_9, ro1_0, ro1_1, dNet_val, dClasses_val, f0, f1]
  refine wp_thn (toClasses_w u1_0 u1_1 a1_0 a1_1 (Rd.isI (Rd.chg r1_0 (cH4.trans (Chg.app [])) (by simp))) (Rd.isI (Rd.chg r1_1 (cH4.trans (Chg.app [])) (by simp))) (by omega) (by omega)) ?_
  rintro _ H5 ⟨v_x4, rfl, o_x4, c5, n_x4, d_x4⟩
  have l5 := c5.1
  try simp at l5
  have b5_8 := box_chg ((app_get0 _ _).trans rfl) c5 (by simp)
  have b5_2 := box_chg (get_app' b4_2 _) c5 (by simp)
  have b5_3 := box_chg (get_app' b4_3 _) c5 (by simp)
  have b5_6 := box_chg (get_app' b4_6 _) c5 (by simp)
  have o5_x0 := Dt.chg0 (Dt.app o4_x0) c5
  have o5_x1 := Dt.chg0 (Dt.app o4_x1) c5
  have o5_w2 := Dt.chg0 (Dt.app o4_w2) c5
  have o5_x3 := Dt.chg0 (Dt.app o_x3) c5
  have cH5 : Chg H H5 [] := (cH4.trans (Chg.app [])).trans c5
  have h_x4 := dClasses.lt o_x4
  try simp at n_x4
  have one_x4 := dClasses_one o_x4
  simp [VM.look, b5_2, b5_3, b5_6, b5_8, get_app' b5_2, get_app' b5_3, get_app' b5_6, get_app' b5_8, cH5.1, Nat.le_add_right_of_le cH5.1, one_x0, one_x1, one_w2, one_x3, one_x4, ro0_2, ro0_3, ro0_4, ro0_5, ro0_6, ro0_7, ro0_8, ro0_9, ro1_0, ro1_1, dNet_val, dClasses_val, f0, f1]
  have ex6 := fun (L : Heap) => replace_d (frz := H.length) (H := H5 ++ L) (Dt.app o5_x3) (Dt.app o_x4)
  try simp only [dNet_val, dClasses_val] at ex6
  refine wp_thn (ex6 _) ?_
  rintro _ H6 ⟨_, rfl, v_g5, rfl, o_g5, c6, n_g5, d_g5⟩
  clear ex6
  have l6 := c6.1
  try simp at l6
  have b6_9 := box_chg ((app_get0 _ _).trans rfl) c6 (by simp)
  have b6_2 := box_chg (get_app' b5_2 _) c6 (by simp)
  have b6_3 := box_chg (get_app' b5_3 _) c6 (by simp)
  have b6_6 := box_chg (get_app' b5_6 _) c6 (by simp)
  have b6_8 := box_chg (get_app' b5_8 _) c6 (by simp)
  have o6_x0 := Dt.chg0 (Dt.app o5_x0) c6
  have o6_x1 := Dt.chg0 (Dt.app o5_x1) c6
  have o6_w2 := Dt.chg0 (Dt.app o5_w2) c6
  have o6_x3 := Dt.chg0 (Dt.app o5_x3) c6
  have o6_x4 := Dt.chg0 (Dt.app o_x4) c6
  have cH6 : Chg H H6 [] := (cH5.trans (Chg.app [])).trans c6
  have h_g5 := dNet.lt o_g5
  try simp at n_g5
  have one_g5 := dNet_one o_g5
  simp [VM.look, b6_2, b6_3, b6_6, b6_8, b6_9, get_app' b6_2, get_app' b6_3, get_app' b6_6, get_app' b6_8, get_app' b6_9, cH6.1, Nat.le_add_right_of_le cH6.1, one_x0, one_x1, one_w2, one_x3, one_x4, one_g5, ro0_2, ro0_3, ro0_4, ro0_5, ro0_6, ro0_7, ro0_8, ro0_9, ro1_0, ro1_1, dNet_val, dClasses_val, f0, f1]
  have eq7 := fun F (L : Heap) => eqNet_d (frz := F) (H := H6 ++ L) (Dt.app o_g5) (Dt.app o6_w2)
  try simp only [dNet_val] at eq7
  simp [eq7, VM.look, b6_2, b6_3, b6_6, b6_8, b6_9, get_app' b6_2, get_app' b6_3, get_app' b6_6, get_app' b6_8, get_app' b6_9, cH6.1, Nat.le_add_right_of_le cH6.1, one_x0, one_x1, one_w2, one_x3, one_x4, one_g5, ro0_2, ro0_3, ro0_4, ro0_5, ro0_6, ro0_7, ro0_8, ro0_9, ro1_0, ro1_1, dNet_val, dClasses_val, f0, f1]
  rw [go_draw (h := by kernel_rfl)]
  simp [VM.look, b6_2, b6_3, b6_6, b6_8, b6_9, get_app' b6_2, get_app' b6_3, get_app' b6_6, get_app' b6_8, get_app' b6_9, cH6.1, Nat.le_add_right_of_le cH6.1, one_x0, one_x1, one_w2, one_x3, one_x4, one_g5, ro0_2, ro0_3, ro0_4, ro0_5, ro0_6, ro0_7, ro0_8, ro0_9, ro1_0, ro1_1, dNet_val, dClasses_val, f0, f1]
  refine wp_thn (toNet_w a0_0 a0_1 a0_10 u0_2 u0_3 u0_4 u0_5 u0_6 u0_7 u0_8 u0_9 h0_5 h0_8 h0_9 a0_2 a0_3 a0_4 a0_6 a0_7 a0_5 a0_8 a0_9 (IsI.rd (Rd.isI (Rd.chg r0_2 (cH6.trans (Chg.app [])) (by simp)))) (IsI.rd (Rd.isI (Rd.chg r0_3 (cH6.trans (Chg.app [])) (by simp)))) (IsI.rd (Rd.isI (Rd.chg r0_4 (cH6.trans (Chg.app [])) (by simp)))) (RdL.chg r0_5 (cH6.trans (Chg.app [])) (by simp)) (IsI.rd (Rd.isI (Rd.chg r0_6 (cH6.trans (Chg.app [])) (by simp)))) (IsI.rd (Rd.isI (Rd.chg r0_7 (cH6.trans (Chg.app [])) (by simp)))) (RdL.chg r0_8 (cH6.trans (Chg.app [])) (by simp)) (RdL.chg r0_9 (cH6.trans (Chg.app [])) (by simp)) (by omega) (by omega) (by omega) (by have := tot_len a0_5; omega) (fun x hx => by have := tot_in a0_5 x hx; omega) (by omega) (by omega) (by have := tot_len a0_8; omega) (fun x hx => by have := tot_in a0_8 x hx; omega) (by have := tot_len a0_9; omega) (fun x hx => by have := tot_in a0_9 x hx; omega)) ?_
  rintro _ H8 ⟨v_x6, rfl, o_x6, c8, n_x6, d_x6⟩
  have l8 := c8.1
  try simp at l8
  have b8_10 := box_chg ((app_get0 _ _).trans rfl) c8 (by simp)
  have b8_2 := box_chg (get_app' b6_2 _) c8 (by simp)
  have b8_3 := box_chg (get_app' b6_3 _) c8 (by simp)
  have b8_6 := box_chg (get_app' b6_6 _) c8 (by simp)
  have b8_8 := box_chg (get_app' b6_8 _) c8 (by simp)
  have b8_9 := box_chg (get_app' b6_9 _) c8 (by simp)
  have o8_x0 := Dt.chg0 (Dt.app o6_x0) c8
  have o8_x1 := Dt.chg0 (Dt.app o6_x1) c8
  have o8_w2 := Dt.chg0 (Dt.app o6_w2) c8
  have o8_x3 := Dt.chg0 (Dt.app o6_x3) c8
  have o8_x4 := Dt.chg0 (Dt.app o6_x4) c8
  have o8_g5 := Dt.chg0 (Dt.app o_g5) c8
  have cH8 : Chg H H8 [] := (cH6.trans (Chg.app [])).trans c8
  have h_x6 := dNet.lt o_x6
  try simp at n_x6
  have one_x6 := dNet_one o_x6
  simp [VM.look, b8_2, b8_3, b8_6, b8_8, b8_9, b8_10, get_app' b8_2, get_app' b8_3, get_app' b8_6, get_app' b8_8, get_app' b8_9, get_app' b8_10, cH8.1, Nat.le_add_right_of_le cH8.1, one_x0, one_x1, one_w2, one_x3, one_x4, one_g5, one_x6, ro0_2, ro0_3, ro0_4, ro0_5, ro0_6, ro0_7, ro0_8, ro0_9, ro1_0, ro1_1, dNet_val, dClasses_val, f0, f1]
  have eq9 := fun F => eqNet_d (frz := F) o8_x3 o_x6
  try simp only [dNet_val] at eq9
  simp [eq9, VM.look, b8_2, b8_3, b8_6, b8_8, b8_9, b8_10, get_app' b8_2, get_app' b8_3, get_app' b8_6, get_app' b8_8, get_app' b8_9, get_app' b8_10, cH8.1, Nat.le_add_right_of_le cH8.1, one_x0, one_x1, one_w2, one_x3, one_x4, one_g5, one_x6, ro0_2, ro0_3, ro0_4, ro0_5, ro0_6, ro0_7, ro0_8, ro0_9, ro1_0, ro1_1, dNet_val, dClasses_val, f0, f1]
  rw [go_draw (h := by kernel_rfl)]
  simp [VM.look, b8_2, b8_3, b8_6, b8_8, b8_9, b8_10, get_app' b8_2, get_app' b8_3, get_app' b8_6, get_app' b8_8, get_app' b8_9, get_app' b8_10, cH8.1, Nat.le_add_right_of_le cH8.1, one_x0, one_x1, one_w2, one_x3, one_x4, one_g5, one_x6, ro0_2, ro0_3, ro0_4, ro0_5, ro0_6, ro0_7, ro0_8, ro0_9, ro1_0, ro1_1, dNet_val, dClasses_val, f0, f1]
  refine wp_thn (toClasses_w u1_0 u1_1 a1_0 a1_1 (Rd.isI (Rd.chg r1_0 cH8 (by simp))) (Rd.isI (Rd.chg r1_1 cH8 (by simp))) (by omega) (by omega)) ?_
  rintro _ H10 ⟨v_x7, rfl, o_x7, c10, n_x7, d_x7⟩
  have l10 := c10.1
  try simp at l10
  have b10_2 := box_chg b8_2 c10 (by simp)
  have b10_3 := box_chg b8_3 c10 (by simp)
  have b10_6 := box_chg b8_6 c10 (by simp)
  have b10_8 := box_chg b8_8 c10 (by simp)
  have b10_9 := box_chg b8_9 c10 (by simp)
  have b10_10 := box_chg b8_10 c10 (by simp)
  have o10_x0 := Dt.chg0 o8_x0 c10
  have o10_x1 := Dt.chg0 o8_x1 c10
  have o10_w2 := Dt.chg0 o8_w2 c10
  have o10_x3 := Dt.chg0 o8_x3 c10
  have o10_x4 := Dt.chg0 o8_x4 c10
  have o10_g5 := Dt.chg0 o8_g5 c10
  have o10_x6 := Dt.chg0 o_x6 c10
  have cH10 : Chg H H10 [] := (cH8).trans c10
  have h_x7 := dClasses.lt o_x7
  try simp at n_x7
  have one_x7 := dClasses_one o_x7
  simp [VM.look, b10_2, b10_3, b10_6, b10_8, b10_9, b10_10, get_app' b10_2, get_app' b10_3, get_app' b10_6, get_app' b10_8, get_app' b10_9, get_app' b10_10, cH10.1, Nat.le_add_right_of_le cH10.1, one_x0, one_x1, one_w2, one_x3, one_x4, one_g5, one_x6, one_x7, ro0_2, ro0_3, ro0_4, ro0_5, ro0_6, ro0_7, ro0_8, ro0_9, ro1_0, ro1_1, dNet_val, dClasses_val, f0, f1]
  have eq11 := fun F => eqClasses_d (frz := F) o10_x4 o_x7
  try simp only [dClasses_val] at eq11
  simp [eq11, VM.look, b10_2, b10_3, b10_6, b10_8, b10_9, b10_10, get_app' b10_2, get_app' b10_3, get_app' b10_6, get_app' b10_8, get_app' b10_9, get_app' b10_10, cH10.1, Nat.le_add_right_of_le cH10.1, one_x0, one_x1, one_w2, one_x3, one_x4, one_g5, one_x6, one_x7, ro0_2, ro0_3, ro0_4, ro0_5, ro0_6, ro0_7, ro0_8, ro0_9, ro1_0, ro1_1, dNet_val, dClasses_val, f0, f1]
  have mk12 := markNet_d (frz := H.length) (k := 1) o10_x3 d_x3 (by omega) (fun i hi => by have := n_x3 i hi; have := cH10.1; omega)
  try simp only [dNet_val] at mk12
  refine wp_thn mk12 ?_
  rintro _ H12 ⟨m12, a_x3, rfl, hm12, hv12, o12_x3, c12, he12⟩
  clear mk12
  have l12 := c12.1
  try simp at l12
  have b12_2 := box_chg b10_2 c12 (fun hh => by have := n_x3 _ hh; have := h_x3 _ hh; omega)
  have b12_3 := box_chg b10_3 c12 (fun hh => by have := n_x3 _ hh; have := h_x3 _ hh; omega)
  have b12_6 := box_chg b10_6 c12 (fun hh => by have := n_x3 _ hh; have := h_x3 _ hh; omega)
  have b12_8 := box_chg b10_8 c12 (fun hh => by have := n_x3 _ hh; have := h_x3 _ hh; omega)
  have b12_9 := box_chg b10_9 c12 (fun hh => by have := n_x3 _ hh; have := h_x3 _ hh; omega)
  have b12_10 := box_chg b10_10 c12 (fun hh => by have := n_x3 _ hh; have := h_x3 _ hh; omega)
  have o12_x0 := Dt.chg o10_x0 c12 (fun i hi hh => by have := n_x0 i hi; have := h_x0 i hi; have := n_x3 i hh; have := h_x3 i hh; omega)
  have o12_x1 := Dt.chg o10_x1 c12 (fun i hi hh => by have := n_x1 i hi; have := h_x1 i hi; have := n_x3 i hh; have := h_x3 i hh; omega)
  have o12_w2 := Dt.chg o10_w2 c12 (fun i hi hh => by have := n_w2 i hi; have := h_w2 i hi; have := n_x3 i hh; have := h_x3 i hh; omega)
  have o12_x4 := Dt.chg o10_x4 c12 (fun i hi hh => by have := n_x4 i hi; have := h_x4 i hi; have := n_x3 i hh; have := h_x3 i hh; omega)
  have o12_g5 := Dt.chg o10_g5 c12 (fun i hi hh => by have := n_g5 i hi; have := h_g5 i hi; have := n_x3 i hh; have := h_x3 i hh; omega)
  have o12_x6 := Dt.chg o10_x6 c12 (fun i hi hh => by have := n_x6 i hi; have := h_x6 i hi; have := n_x3 i hh; have := h_x3 i hh; omega)
  have o12_x7 := Dt.chg o_x7 c12 (fun i hi hh => by have := n_x7 i hi; have := h_x7 i hi; have := n_x3 i hh; have := h_x3 i hh; omega)
  have cH12 : Chg H H12 [] := (cH10).trans' c12 (fun i hi => .inr (by have := n_x3 i hi; have := cH10.1; omega))
  try simp only [hv12, dNet_val] at he12
  have fl12 : ¬ (1 + m12 < 0) := by omega
  simp [VM.look, b12_2, b12_3, b12_6, b12_8, b12_9, b12_10, get_app' b12_2, get_app' b12_3, get_app' b12_6, get_app' b12_8, get_app' b12_9, get_app' b12_10, cH12.1, Nat.le_add_right_of_le cH12.1, one_x0, one_x1, one_w2, one_x3, one_x4, one_g5, one_x6, one_x7, ro0_2, ro0_3, ro0_4, ro0_5, ro0_6, ro0_7, ro0_8, ro0_9, ro1_0, ro1_1, dNet_val, dClasses_val, f0, f1, fl12]
  have mk13 := markClasses_d (frz := H.length) (k := 1 + m12) o12_x4 d_x4 (by omega) (fun i hi => by have := n_x4 i hi; have := cH12.1; omega)
  try simp only [dClasses_val] at mk13
  refine wp_thn mk13 ?_
  rintro _ H13 ⟨m13, a_x4, rfl, hm13, hv13, o13_x4, c13, he13⟩
  clear mk13
  have l13 := c13.1
  try simp at l13
  have b13_2 := box_chg b12_2 c13 (fun hh => by have := n_x4 _ hh; have := h_x4 _ hh; omega)
  have b13_3 := box_chg b12_3 c13 (fun hh => by have := n_x4 _ hh; have := h_x4 _ hh; omega)
  have b13_6 := box_chg b12_6 c13 (fun hh => by have := n_x4 _ hh; have := h_x4 _ hh; omega)
  have b13_8 := box_chg b12_8 c13 (fun hh => by have := n_x4 _ hh; have := h_x4 _ hh; omega)
  have b13_9 := box_chg b12_9 c13 (fun hh => by have := n_x4 _ hh; have := h_x4 _ hh; omega)
  have b13_10 := box_chg b12_10 c13 (fun hh => by have := n_x4 _ hh; have := h_x4 _ hh; omega)
  have o13_x0 := Dt.chg o12_x0 c13 (fun i hi hh => by have := n_x0 i hi; have := h_x0 i hi; have := n_x4 i hh; have := h_x4 i hh; omega)
  have o13_x1 := Dt.chg o12_x1 c13 (fun i hi hh => by have := n_x1 i hi; have := h_x1 i hi; have := n_x4 i hh; have := h_x4 i hh; omega)
  have o13_w2 := Dt.chg o12_w2 c13 (fun i hi hh => by have := n_w2 i hi; have := h_w2 i hi; have := n_x4 i hh; have := h_x4 i hh; omega)
  have o13_x3 := Dt.chg o12_x3 c13 (fun i hi hh => by have := n_x3 i hi; have := h_x3 i hi; have := n_x4 i hh; have := h_x4 i hh; omega)
  have o13_g5 := Dt.chg o12_g5 c13 (fun i hi hh => by have := n_g5 i hi; have := h_g5 i hi; have := n_x4 i hh; have := h_x4 i hh; omega)
  have o13_x6 := Dt.chg o12_x6 c13 (fun i hi hh => by have := n_x6 i hi; have := h_x6 i hi; have := n_x4 i hh; have := h_x4 i hh; omega)
  have o13_x7 := Dt.chg o12_x7 c13 (fun i hi hh => by have := n_x7 i hi; have := h_x7 i hi; have := n_x4 i hh; have := h_x4 i hh; omega)
  have cH13 : Chg H H13 [] := (cH12).trans' c13 (fun i hi => .inr (by have := n_x4 i hi; have := cH12.1; omega))
  try simp only [hv13, dClasses_val] at he13
  have fl13 : ¬ (1 + m12 + m13 < 0) := by omega
  simp [VM.look, b13_2, b13_3, b13_6, b13_8, b13_9, b13_10, get_app' b13_2, get_app' b13_3, get_app' b13_6, get_app' b13_8, get_app' b13_9, get_app' b13_10, cH13.1, Nat.le_add_right_of_le cH13.1, one_x0, one_x1, one_w2, one_x3, one_x4, one_g5, one_x6, one_x7, ro0_2, ro0_3, ro0_4, ro0_5, ro0_6, ro0_7, ro0_8, ro0_9, ro1_0, ro1_1, dNet_val, dClasses_val, f0, f1, fl12, fl13]
  have eq14 := fun F => eqNet_d (frz := F) o13_g5 o13_w2
  try simp only [dNet_val] at eq14
  simp [eq14, VM.look, b13_2, b13_3, b13_6, b13_8, b13_9, b13_10, get_app' b13_2, get_app' b13_3, get_app' b13_6, get_app' b13_8, get_app' b13_9, get_app' b13_10, cH13.1, Nat.le_add_right_of_le cH13.1, one_x0, one_x1, one_w2, one_x3, one_x4, one_g5, one_x6, one_x7, ro0_2, ro0_3, ro0_4, ro0_5, ro0_6, ro0_7, ro0_8, ro0_9, ro1_0, ro1_1, dNet_val, dClasses_val, f0, f1, fl12, fl13]
  have mk15 := markNet_d (frz := H.length) (k := 1) o13_g5 d_g5 (by omega) (fun i hi => by have := n_g5 i hi; have := cH13.1; omega)
  try simp only [dNet_val] at mk15
  refine wp_thn mk15 ?_
  rintro _ H15 ⟨m15, a_g5, rfl, hm15, hv15, o15_g5, c15, he15⟩
  clear mk15
  have l15 := c15.1
  try simp at l15
  have b15_2 := box_chg b13_2 c15 (fun hh => by have := n_g5 _ hh; have := h_g5 _ hh; omega)
  have b15_3 := box_chg b13_3 c15 (fun hh => by have := n_g5 _ hh; have := h_g5 _ hh; omega)
  have b15_6 := box_chg b13_6 c15 (fun hh => by have := n_g5 _ hh; have := h_g5 _ hh; omega)
  have b15_8 := box_chg b13_8 c15 (fun hh => by have := n_g5 _ hh; have := h_g5 _ hh; omega)
  have b15_9 := box_chg b13_9 c15 (fun hh => by have := n_g5 _ hh; have := h_g5 _ hh; omega)
  have b15_10 := box_chg b13_10 c15 (fun hh => by have := n_g5 _ hh; have := h_g5 _ hh; omega)
  have o15_x0 := Dt.chg o13_x0 c15 (fun i hi hh => by have := n_x0 i hi; have := h_x0 i hi; have := n_g5 i hh; have := h_g5 i hh; omega)
  have o15_x1 := Dt.chg o13_x1 c15 (fun i hi hh => by have := n_x1 i hi; have := h_x1 i hi; have := n_g5 i hh; have := h_g5 i hh; omega)
  have o15_w2 := Dt.chg o13_w2 c15 (fun i hi hh => by have := n_w2 i hi; have := h_w2 i hi; have := n_g5 i hh; have := h_g5 i hh; omega)
  have o15_x3 := Dt.chg o13_x3 c15 (fun i hi hh => by have := n_x3 i hi; have := h_x3 i hi; have := n_g5 i hh; have := h_g5 i hh; omega)
  have o15_x4 := Dt.chg o13_x4 c15 (fun i hi hh => by have := n_x4 i hi; have := h_x4 i hi; have := n_g5 i hh; have := h_g5 i hh; omega)
  have o15_x6 := Dt.chg o13_x6 c15 (fun i hi hh => by have := n_x6 i hi; have := h_x6 i hi; have := n_g5 i hh; have := h_g5 i hh; omega)
  have o15_x7 := Dt.chg o13_x7 c15 (fun i hi hh => by have := n_x7 i hi; have := h_x7 i hi; have := n_g5 i hh; have := h_g5 i hh; omega)
  have cH15 : Chg H H15 [] := (cH13).trans' c15 (fun i hi => .inr (by have := n_g5 i hi; have := cH13.1; omega))
  try simp only [hv15, dNet_val] at he15
  have fl15 : ¬ (1 + m15 < 0) := by omega
  simp [VM.look, b15_2, b15_3, b15_6, b15_8, b15_9, b15_10, get_app' b15_2, get_app' b15_3, get_app' b15_6, get_app' b15_8, get_app' b15_9, get_app' b15_10, cH15.1, Nat.le_add_right_of_le cH15.1, one_x0, one_x1, one_w2, one_x3, one_x4, one_g5, one_x6, one_x7, ro0_2, ro0_3, ro0_4, ro0_5, ro0_6, ro0_7, ro0_8, ro0_9, ro1_0, ro1_1, dNet_val, dClasses_val, f0, f1, fl12, fl13, fl15]
  have hd16 := fun F => he15 F _ o15_g5
  simp [hd16, VM.look, b15_2, b15_3, b15_6, b15_8, b15_9, b15_10, get_app' b15_2, get_app' b15_3, get_app' b15_6, get_app' b15_8, get_app' b15_9, get_app' b15_10, cH15.1, Nat.le_add_right_of_le cH15.1, one_x0, one_x1, one_w2, one_x3, one_x4, one_g5, one_x6, one_x7, ro0_2, ro0_3, ro0_4, ro0_5, ro0_6, ro0_7, ro0_8, ro0_9, ro1_0, ro1_1, dNet_val, dClasses_val, f0, f1, fl12, fl13, fl15]
  rw [go_draw (h := by kernel_rfl)]
  simp [VM.look, b15_2, b15_3, b15_6, b15_8, b15_9, b15_10, get_app' b15_2, get_app' b15_3, get_app' b15_6, get_app' b15_8, get_app' b15_9, get_app' b15_10, cH15.1, Nat.le_add_right_of_le cH15.1, one_x0, one_x1, one_w2, one_x3, one_x4, one_g5, one_x6, one_x7, ro0_2, ro0_3, ro0_4, ro0_5, ro0_6, ro0_7, ro0_8, ro0_9, ro1_0, ro1_1, dNet_val, dClasses_val, f0, f1, fl12, fl13, fl15]
  refine wp_thn (toNet_w a0_0 a0_1 a0_10 u0_2 u0_3 u0_4 u0_5 u0_6 u0_7 u0_8 u0_9 h0_5 h0_8 h0_9 a0_2 a0_3 a0_4 a0_6 a0_7 a0_5 a0_8 a0_9 (IsI.rd (Rd.isI (Rd.chg r0_2 cH15 (by simp)))) (IsI.rd (Rd.isI (Rd.chg r0_3 cH15 (by simp)))) (IsI.rd (Rd.isI (Rd.chg r0_4 cH15 (by simp)))) (RdL.chg r0_5 cH15 (by simp)) (IsI.rd (Rd.isI (Rd.chg r0_6 cH15 (by simp)))) (IsI.rd (Rd.isI (Rd.chg r0_7 cH15 (by simp)))) (RdL.chg r0_8 cH15 (by simp)) (RdL.chg r0_9 cH15 (by simp)) (by omega) (by omega) (by omega) (by have := tot_len a0_5; omega) (fun x hx => by have := tot_in a0_5 x hx; omega) (by omega) (by omega) (by have := tot_len a0_8; omega) (fun x hx => by have := tot_in a0_8 x hx; omega) (by have := tot_len a0_9; omega) (fun x hx => by have := tot_in a0_9 x hx; omega)) ?_
  rintro _ H17 ⟨v_x8, rfl, o_x8, c17, n_x8, d_x8⟩
  have l17 := c17.1
  try simp at l17
  have b17_2 := box_chg b15_2 c17 (by simp)
  have b17_3 := box_chg b15_3 c17 (by simp)
  have b17_6 := box_chg b15_6 c17 (by simp)
  have b17_8 := box_chg b15_8 c17 (by simp)
  have b17_9 := box_chg b15_9 c17 (by simp)
  have b17_10 := box_chg b15_10 c17 (by simp)
  have o17_x0 := Dt.chg0 o15_x0 c17
  have o17_x1 := Dt.chg0 o15_x1 c17
  have o17_w2 := Dt.chg0 o15_w2 c17
  have o17_x3 := Dt.chg0 o15_x3 c17
  have o17_x4 := Dt.chg0 o15_x4 c17
  have o17_g5 := Dt.chg0 o15_g5 c17
  have o17_x6 := Dt.chg0 o15_x6 c17
  have o17_x7 := Dt.chg0 o15_x7 c17
  have cH17 : Chg H H17 [] := (cH15).trans c17
  have h_x8 := dNet.lt o_x8
  try simp at n_x8
  have one_x8 := dNet_one o_x8
  simp [VM.look, b17_2, b17_3, b17_6, b17_8, b17_9, b17_10, get_app' b17_2, get_app' b17_3, get_app' b17_6, get_app' b17_8, get_app' b17_9, get_app' b17_10, cH17.1, Nat.le_add_right_of_le cH17.1, one_x0, one_x1, one_w2, one_x3, one_x4, one_g5, one_x6, one_x7, one_x8, ro0_2, ro0_3, ro0_4, ro0_5, ro0_6, ro0_7, ro0_8, ro0_9, ro1_0, ro1_1, dNet_val, dClasses_val, f0, f1, fl12, fl13, fl15]
  refine wp_thn (toClasses_w u1_0 u1_1 a1_0 a1_1 (Rd.isI (Rd.chg r1_0 cH17 (by simp))) (Rd.isI (Rd.chg r1_1 cH17 (by simp))) (by omega) (by omega)) ?_
  rintro _ H18 ⟨v_x9, rfl, o_x9, c18, n_x9, d_x9⟩
  have l18 := c18.1
  try simp at l18
  have b18_2 := box_chg b17_2 c18 (by simp)
  have b18_3 := box_chg b17_3 c18 (by simp)
  have b18_6 := box_chg b17_6 c18 (by simp)
  have b18_8 := box_chg b17_8 c18 (by simp)
  have b18_9 := box_chg b17_9 c18 (by simp)
  have b18_10 := box_chg b17_10 c18 (by simp)
  have o18_x0 := Dt.chg0 o17_x0 c18
  have o18_x1 := Dt.chg0 o17_x1 c18
  have o18_w2 := Dt.chg0 o17_w2 c18
  have o18_x3 := Dt.chg0 o17_x3 c18
  have o18_x4 := Dt.chg0 o17_x4 c18
  have o18_g5 := Dt.chg0 o17_g5 c18
  have o18_x6 := Dt.chg0 o17_x6 c18
  have o18_x7 := Dt.chg0 o17_x7 c18
  have o18_x8 := Dt.chg0 o_x8 c18
  have cH18 : Chg H H18 [] := (cH17).trans c18
  have h_x9 := dClasses.lt o_x9
  try simp at n_x9
  have one_x9 := dClasses_one o_x9
  simp [VM.look, b18_2, b18_3, b18_6, b18_8, b18_9, b18_10, get_app' b18_2, get_app' b18_3, get_app' b18_6, get_app' b18_8, get_app' b18_9, get_app' b18_10, cH18.1, Nat.le_add_right_of_le cH18.1, one_x0, one_x1, one_w2, one_x3, one_x4, one_g5, one_x6, one_x7, one_x8, one_x9, ro0_2, ro0_3, ro0_4, ro0_5, ro0_6, ro0_7, ro0_8, ro0_9, ro1_0, ro1_1, dNet_val, dClasses_val, f0, f1, fl12, fl13, fl15]
  have ex19 := replace_d (frz := H.length) o18_x8 o_x9
  try simp only [dNet_val, dClasses_val] at ex19
  refine wp_thn ex19 ?_
  rintro _ H19 ⟨_, rfl, v_g10, rfl, o_g10, c19, n_g10, d_g10⟩
  clear ex19
  have l19 := c19.1
  try simp at l19
  have b19_2 := box_chg b18_2 c19 (by simp)
  have b19_3 := box_chg b18_3 c19 (by simp)
  have b19_6 := box_chg b18_6 c19 (by simp)
  have b19_8 := box_chg b18_8 c19 (by simp)
  have b19_9 := box_chg b18_9 c19 (by simp)
  have b19_10 := box_chg b18_10 c19 (by simp)
  have o19_x0 := Dt.chg0 o18_x0 c19
  have o19_x1 := Dt.chg0 o18_x1 c19
  have o19_w2 := Dt.chg0 o18_w2 c19
  have o19_x3 := Dt.chg0 o18_x3 c19
  have o19_x4 := Dt.chg0 o18_x4 c19
  have o19_g5 := Dt.chg0 o18_g5 c19
  have o19_x6 := Dt.chg0 o18_x6 c19
  have o19_x7 := Dt.chg0 o18_x7 c19
  have o19_x8 := Dt.chg0 o18_x8 c19
  have o19_x9 := Dt.chg0 o_x9 c19
  have cH19 : Chg H H19 [] := (cH18).trans c19
  have h_g10 := dNet.lt o_g10
  try simp at n_g10
  have one_g10 := dNet_one o_g10
  simp [VM.look, b19_2, b19_3, b19_6, b19_8, b19_9, b19_10, get_app' b19_2, get_app' b19_3, get_app' b19_6, get_app' b19_8, get_app' b19_9, get_app' b19_10, cH19.1, Nat.le_add_right_of_le cH19.1, one_x0, one_x1, one_w2, one_x3, one_x4, one_g5, one_x6, one_x7, one_x8, one_x9, one_g10, ro0_2, ro0_3, ro0_4, ro0_5, ro0_6, ro0_7, ro0_8, ro0_9, ro1_0, ro1_1, dNet_val, dClasses_val, f0, f1, fl12, fl13, fl15]
  have eq20 := fun F (L : Heap) => eqNet_d (frz := F) (H := H19 ++ L) (Dt.app o_g10) (Dt.app o19_w2)
  try simp only [dNet_val] at eq20
  simp [eq20, VM.look, b19_2, b19_3, b19_6, b19_8, b19_9, b19_10, get_app' b19_2, get_app' b19_3, get_app' b19_6, get_app' b19_8, get_app' b19_9, get_app' b19_10, cH19.1, Nat.le_add_right_of_le cH19.1, one_x0, one_x1, one_w2, one_x3, one_x4, one_g5, one_x6, one_x7, one_x8, one_x9, one_g10, ro0_2, ro0_3, ro0_4, ro0_5, ro0_6, ro0_7, ro0_8, ro0_9, ro1_0, ro1_1, dNet_val, dClasses_val, f0, f1, fl12, fl13, fl15]
  have hd21 := fun F (L : Heap) => he15 F (H19 ++ L) (Dt.app o19_g5)
  simp [hd21, VM.look, b19_2, b19_3, b19_6, b19_8, b19_9, b19_10, get_app' b19_2, get_app' b19_3, get_app' b19_6, get_app' b19_8, get_app' b19_9, get_app' b19_10, cH19.1, Nat.le_add_right_of_le cH19.1, one_x0, one_x1, one_w2, one_x3, one_x4, one_g5, one_x6, one_x7, one_x8, one_x9, one_g10, ro0_2, ro0_3, ro0_4, ro0_5, ro0_6, ro0_7, ro0_8, ro0_9, ro1_0, ro1_1, dNet_val, dClasses_val, f0, f1, fl12, fl13, fl15]
theorem law_FnExactReplaceClasses {a0_0 : Int} {a0_1 : Int} {a0_2 : List (Int)} {u0_2 : Value} {a0_3 : List (Int)} {u0_3 : Value} {a0_4 : List (Int)} {u0_4 : Value} {a0_5 : List (List (Int × Int × Int × Bool × Bool))} {u0_5 : Value} {a0_6 : List (Int)} {u0_6 : Value} {a0_7 : List (Int)} {u0_7 : Value} {a0_8 : List (List (Int × Int × Int × Bool × Bool))} {u0_8 : Value} {a0_9 : List (List (Int × Int × Int × Bool × Bool))} {u0_9 : Value} {a0_10 : Int} {a1_0 : List (Int)} {u1_0 : Value} {a1_1 : List (Int)} {u1_1 : Value} (s0_2 : IsS (Kn.int .i64) H u0_2 a0_2) (s0_3 : IsS (Kn.int .i64) H u0_3 a0_3) (s0_4 : IsS (Kn.int .i64) H u0_4 a0_4) (s0_5 : IsS (Kn.slice (Kn.pair (Kn.int .i64) (Kn.pair (Kn.int .i64) (Kn.pair (Kn.int .i64) (Kn.pair Kn.bool Kn.bool))))) H u0_5 a0_5) (s0_6 : IsS (Kn.int .i64) H u0_6 a0_6) (s0_7 : IsS (Kn.int .i64) H u0_7 a0_7) (s0_8 : IsS (Kn.slice (Kn.pair (Kn.int .i64) (Kn.pair (Kn.int .i64) (Kn.pair (Kn.int .i64) (Kn.pair Kn.bool Kn.bool))))) H u0_8 a0_8) (s0_9 : IsS (Kn.slice (Kn.pair (Kn.int .i64) (Kn.pair (Kn.int .i64) (Kn.pair (Kn.int .i64) (Kn.pair Kn.bool Kn.bool))))) H u0_9 a0_9) (s1_0 : IsS (Kn.int .i64) H u1_0 a1_0) (s1_1 : IsS (Kn.int .i64) H u1_1 a1_1)
    (w0 : ((((Lit.int .i64 a0_0).wf = true) ∧ ((Lit.int .i64 a0_1).wf = true)) ∧ (a0_2.length ≤ maxLen ∧ ∀ x1 ∈ a0_2, (Lit.int .i64 x1).wf = true)) ∧ (((a0_3.length ≤ maxLen ∧ ∀ x2 ∈ a0_3, (Lit.int .i64 x2).wf = true)) ∧ ((a0_4.length ≤ maxLen ∧ ∀ x3 ∈ a0_4, (Lit.int .i64 x3).wf = true))) ∧ (a0_5.length ≤ maxLen ∧ ∀ x4 ∈ a0_5, x4.length ≤ maxLen ∧ ∀ x5 ∈ x4, ((Lit.int .i64 x5.1).wf = true) ∧ ((Lit.int .i64 x5.2.1).wf = true) ∧ ((Lit.int .i64 x5.2.2.1).wf = true) ∧ (True) ∧ (True)) ∧ (a0_6.length ≤ maxLen ∧ ∀ x6 ∈ a0_6, (Lit.int .i64 x6).wf = true) ∧ (a0_7.length ≤ maxLen ∧ ∀ x7 ∈ a0_7, (Lit.int .i64 x7).wf = true) ∧ (a0_8.length ≤ maxLen ∧ ∀ x8 ∈ a0_8, x8.length ≤ maxLen ∧ ∀ x9 ∈ x8, ((Lit.int .i64 x9.1).wf = true) ∧ ((Lit.int .i64 x9.2.1).wf = true) ∧ ((Lit.int .i64 x9.2.2.1).wf = true) ∧ (True) ∧ (True)) ∧ (a0_9.length ≤ maxLen ∧ ∀ x10 ∈ a0_9, x10.length ≤ maxLen ∧ ∀ x11 ∈ x10, ((Lit.int .i64 x11.1).wf = true) ∧ ((Lit.int .i64 x11.2.1).wf = true) ∧ ((Lit.int .i64 x11.2.2.1).wf = true) ∧ (True) ∧ (True)) ∧ ((Lit.int .i64 a0_10).wf = true)) (w1 : ((a1_0.length ≤ maxLen ∧ ∀ x12 ∈ a1_0, (Lit.int .i64 x12).wf = true)) ∧ ((a1_1.length ≤ maxLen ∧ ∀ x13 ∈ a1_1, (Lit.int .i64 x13).wf = true))) :
    vcall C frz 7 [.agg #[.int .i64 a0_0, .int .i64 a0_1, u0_2, u0_3, u0_4, u0_5, u0_6, u0_7, u0_8, u0_9, .int .i64 a0_10], .agg #[u1_0, u1_1]] H = some (.bool true, H) :=
  (law_FnExactReplaceClasses_w s0_2 s0_3 s0_4 s0_5 s0_6 s0_7 s0_8 s0_9 s1_0 s1_1 w0 w1).exact (by simp) rfl
end Go.Proofs.Ytcigpclbhfkgaaa.V
