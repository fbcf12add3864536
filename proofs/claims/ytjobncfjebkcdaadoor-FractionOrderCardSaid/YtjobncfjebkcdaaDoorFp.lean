/- The walk of the law FractionOrder. -/
import Derived.Test.YtjobncfjebkcdaaDoorFc
import Derived.Test.YtjobncfjebkcdaaDoorFl
import Derived.Deep.DeepCutAuto
namespace Go.Proofs.YtjobncfjebkcdaaDoor
open Go Go.RowKit
set_option linter.unusedSimpArgs false

theorem rvalid_yes (w : World) {f : Fr} (h : FrOk f) : Calls Tryd.prog 13 #[frV f] w (OutB w (.bool true)) := by
  have := rvalid_any w f h.fi
  rwa [show decide (FrOk f) = true from by simp [h]] at this
theorem rvalid_no (w : World) {f : Fr} (hf : FI f) (h : ¬ FrOk f) : Calls Tryd.prog 13 #[frV f] w (OutB w (.bool false)) := by
  have := rvalid_any w f hf
  rwa [show decide (FrOk f) = false from by simp [h]] at this
theorem cmp_01 (a b : Fr) : cmpF a b = -1 ∨ cmpF a b = 0 ∨ cmpF a b = 1 := by
  unfold cmpF
  split
  · exact Or.inl rfl
  · split
    · exact Or.inr (Or.inr rfl)
    · exact Or.inr (Or.inl rfl)
def B3p (w y : World) (q1 q2 q3 : Nat) (a1 a2 b1 b2 c1 c2 : Int) : Prop := y.cell? ⟨q1, 0, none⟩ = some (.int .i64 a1) ∧ y.cell? ⟨q1, 1, none⟩ = some (.int .i64 a2) ∧ y.cell? ⟨q2, 0, none⟩ = some (.int .i64 b1) ∧ y.cell? ⟨q2, 1, none⟩ = some (.int .i64 b2) ∧ y.cell? ⟨q3, 0, none⟩ = some (.int .i64 c1) ∧ y.cell? ⟨q3, 1, none⟩ = some (.int .i64 c2) ∧ Hid (Bxs w y [(q1, ⟨a1, a2⟩), (q2, ⟨b1, b2⟩), (q3, ⟨c1, c2⟩)])
theorem keep3 {w y : World} {q1 q2 q3 : Nat} {a1 a2 b1 b2 c1 c2 : Int} (h : Bxs w y [(q1, ⟨a1, a2⟩), (q2, ⟨b1, b2⟩), (q3, ⟨c1, c2⟩)]) : B3p w y q1 q2 q3 a1 a2 b1 b2 c1 c2 := by
  have hc := h.cells
  simp only [BCells] at hc
  obtain ⟨h1, h2, _, h3, h4, _, h5, h6, _⟩ := hc
  exact ⟨h1, h2, h3, h4, h5, h6, h⟩
theorem last3 {w y : World} {A B C D E F : Prop} {l : List (Nat × Fr)} (h : A ∧ B ∧ C ∧ D ∧ E ∧ F ∧ Hid (Bxs w y l)) : Bxs w y l := h.2.2.2.2.2.2.out
theorem last2 {w y : World} {A B C D : Prop} {l : List (Nat × Fr)} (h : A ∧ B ∧ C ∧ D ∧ Hid (Bxs w y l)) : Bxs w y l := h.2.2.2.2.out
theorem keep4 {w y : World} {q1 q2 q3 q4 : Nat} {f3 f4 : Fr} {a1 a2 b1 b2 : Int} (h : Bxs w y [(q4, f4), (q3, f3), (q2, ⟨b1, b2⟩), (q1, ⟨a1, a2⟩)]) : y.cell? ⟨q2, 0, none⟩ = some (.int .i64 b1) ∧ y.cell? ⟨q2, 1, none⟩ = some (.int .i64 b2) ∧ y.cell? ⟨q1, 0, none⟩ = some (.int .i64 a1) ∧ y.cell? ⟨q1, 1, none⟩ = some (.int .i64 a2) ∧ Hid (Bxs w y [(q4, f4), (q3, f3), (q2, ⟨b1, b2⟩), (q1, ⟨a1, a2⟩)]) := by
  have hc := h.cells
  simp only [BCells] at hc
  obtain ⟨_, _, _, _, _, _, h1, h2, _, h3, h4, _⟩ := hc
  exact ⟨h1, h2, h3, h4, h⟩
theorem beq_no {a b c d : Int} (h : ¬ (a = b ∧ c = d)) : (a == b && c == d) = false := by
  rw [Bool.eq_false_iff]
  intro hh
  simp only [Bool.and_eq_true, beq_iff_eq] at hh
  exact h hh
theorem Bxs.drew1 {w0 w : World} {l : List (Nat × Fr)} (h : Bxs w0 w l) : Bxs w0 w.drew l := h.drew 1
set_option maxHeartbeats 8000000 in
set_option maxRecDepth 100000 in
theorem law_order (w : World) (a b c : Fr) (ha : FI a) (hb : FI b) (hc : FI c) (ht : Tb w) : Calls Tryd.prog 7 #[frV a, frV b, frV c] w (YesP w) := by
  have HT := Lib.hid ht
  clear ht
  by_cases hav : FrOk a
  rotate_left
  focus
    have VA := Lib.hid (fun w => rvalid_no w ha hav)
    clear hav ha hb hc
    obtain ⟨an, ad⟩ := a
    obtain ⟨bn, bd⟩ := b
    obtain ⟨cn, cd⟩ := c
    unfold frV at *
    go_enter Tryd.func7, Tryd.ntmps7
    go_wp2_with fail
    have HX := Lib.hid (show Bxs w (((w.alloc (.cells #[.int .i64 an, .int .i64 ad] 23)).alloc (.cells #[.int .i64 bn, .int .i64 bd] 23)).alloc (.cells #[.int .i64 cn, .int .i64 cd] 23)) _ from Bxs.three w ⟨an, ad⟩ ⟨bn, bd⟩ ⟨cn, cd⟩)
    generalize ((w.alloc (.cells #[.int .i64 an, .int .i64 ad] 23)).alloc (.cells #[.int .i64 bn, .int .i64 bd] 23)).alloc (.cells #[.int .i64 cn, .int .i64 cd] 23) = w0 at *
    have hc := HX.out.cells
    simp only [BCells] at hc
    go_wp2_with fail
    clear hc
    refine (VA.out w0).mono ?_
    rintro e9 w1 ⟨rfl, hb⟩
    have hc := (HX.out.keep hb).cells
    simp only [BCells] at hc
    replace HX := Lib.hid (HX.out.keep hb)
    clear hb
    go_wp2_with fail
    clear hc
    refine (awake_any w1 (HT.out.below HX.out.below)).mono ?_
    rintro e9 wc ⟨rfl, hb⟩
    replace HX := Lib.hid (HX.out.keep hb)
    clear hb
    go_wp2_with fail
    go_ret
    exact ⟨rfl, HX.out.below⟩
  have VA := Lib.hid (fun w => rvalid_yes w hav)
  by_cases hbv : FrOk b
  rotate_left
  focus
    have VB := Lib.hid (fun w => rvalid_no w hb hbv)
    clear hbv ha hb hc
    obtain ⟨an, ad⟩ := a
    obtain ⟨bn, bd⟩ := b
    obtain ⟨cn, cd⟩ := c
    unfold frV at *
    go_enter Tryd.func7, Tryd.ntmps7
    go_wp2_with fail
    have HX := Lib.hid (show Bxs w (((w.alloc (.cells #[.int .i64 an, .int .i64 ad] 23)).alloc (.cells #[.int .i64 bn, .int .i64 bd] 23)).alloc (.cells #[.int .i64 cn, .int .i64 cd] 23)) _ from Bxs.three w ⟨an, ad⟩ ⟨bn, bd⟩ ⟨cn, cd⟩)
    generalize ((w.alloc (.cells #[.int .i64 an, .int .i64 ad] 23)).alloc (.cells #[.int .i64 bn, .int .i64 bd] 23)).alloc (.cells #[.int .i64 cn, .int .i64 cd] 23) = w0 at *
    have hc := HX.out.cells
    simp only [BCells] at hc
    go_wp2_with fail
    clear hc
    refine (VA.out w0).mono ?_
    rintro e9 w1 ⟨rfl, hb⟩
    have hc := (HX.out.keep hb).cells
    simp only [BCells] at hc
    replace HX := Lib.hid (HX.out.keep hb)
    clear hb
    go_wp2_with fail
    clear hc
    refine (VB.out w1).mono ?_
    rintro e9 w2 ⟨rfl, hb⟩
    have hc := (HX.out.keep hb).cells
    simp only [BCells] at hc
    replace HX := Lib.hid (HX.out.keep hb)
    clear hb
    go_wp2_with fail
    clear hc
    refine (awake_any w2 (HT.out.below HX.out.below)).mono ?_
    rintro e9 wc ⟨rfl, hb⟩
    replace HX := Lib.hid (HX.out.keep hb)
    clear hb
    go_wp2_with fail
    go_ret
    exact ⟨rfl, HX.out.below⟩
  have VB := Lib.hid (fun w => rvalid_yes w hbv)
  by_cases hcv : FrOk c
  rotate_left
  focus
    have VC := Lib.hid (fun w => rvalid_no w hc hcv)
    clear hcv ha hb hc
    obtain ⟨an, ad⟩ := a
    obtain ⟨bn, bd⟩ := b
    obtain ⟨cn, cd⟩ := c
    unfold frV at *
    go_enter Tryd.func7, Tryd.ntmps7
    go_wp2_with fail
    have HX := Lib.hid (show Bxs w (((w.alloc (.cells #[.int .i64 an, .int .i64 ad] 23)).alloc (.cells #[.int .i64 bn, .int .i64 bd] 23)).alloc (.cells #[.int .i64 cn, .int .i64 cd] 23)) _ from Bxs.three w ⟨an, ad⟩ ⟨bn, bd⟩ ⟨cn, cd⟩)
    generalize ((w.alloc (.cells #[.int .i64 an, .int .i64 ad] 23)).alloc (.cells #[.int .i64 bn, .int .i64 bd] 23)).alloc (.cells #[.int .i64 cn, .int .i64 cd] 23) = w0 at *
    have hc := HX.out.cells
    simp only [BCells] at hc
    go_wp2_with fail
    clear hc
    refine (VA.out w0).mono ?_
    rintro e9 w1 ⟨rfl, hb⟩
    have hc := (HX.out.keep hb).cells
    simp only [BCells] at hc
    replace HX := Lib.hid (HX.out.keep hb)
    clear hb
    go_wp2_with fail
    clear hc
    refine (VB.out w1).mono ?_
    rintro e9 w2 ⟨rfl, hb⟩
    have hc := (HX.out.keep hb).cells
    simp only [BCells] at hc
    replace HX := Lib.hid (HX.out.keep hb)
    clear hb
    go_wp2_with fail
    clear hc
    refine (VC.out w2).mono ?_
    rintro e9 w3 ⟨rfl, hb⟩
    have hc := (HX.out.keep hb).cells
    simp only [BCells] at hc
    replace HX := Lib.hid (HX.out.keep hb)
    clear hb
    go_wp2_with fail
    clear hc
    refine (awake_any w3 (HT.out.below HX.out.below)).mono ?_
    rintro e9 wc ⟨rfl, hb⟩
    replace HX := Lib.hid (HX.out.keep hb)
    clear hb
    go_wp2_with fail
    go_ret
    exact ⟨rfl, HX.out.below⟩
  have VC := Lib.hid (fun w => rvalid_yes w hcv)
  have CX := Lib.hid (fun w => cmp_any w a b hav.fb hbv.fb)
  have CY := Lib.hid (fun w => cmp_any w b c hbv.fb hcv.fb)
  have CZ := Lib.hid (fun w => cmp_any w a c hav.fb hcv.fb)
  have CR := Lib.hid (fun w => rcmp_any w a b hav.fb hbv.fb)
  have CN := Lib.hid (fun w => cmp_any w b a hbv.fb hav.fb)
  have MI := Lib.hid (fun w => min_any w a b hav.fb hbv.fb)
  have RI := Lib.hid (fun w => rmin_any w a b hav.fb hbv.fb)
  have MA := Lib.hid (fun w => max_any w a b hav.fb hbv.fb)
  have RA := Lib.hid (fun w => rmax_any w a b hav.fb hbv.fb)
  have SU := Lib.hid (fun w => sub_any w b a hb ha)
  obtain ⟨⟨⟨s, t⟩, e⟩, hx⟩ : ∃ x, subF b a = x := ⟨_, rfl⟩
  rw [hx] at SU
  have h01 := cmp_01 a b
  have hzero := cmp_zero hav hbv
  have hsub : e = 0 → (0 < s ↔ cmpF a b < 0) := fun he => cmp_sub hav hbv (d := ⟨s, t⟩) (by rw [hx, he])
  have htr := fun h1 h2 => cmp_trans hav hbv hcv h1 h2
  have htr2 : 0 ≤ cmpF a b → 0 ≤ cmpF b c → 0 ≤ cmpF a c := fun h1 h2 => by
    have := cmp_trans hcv hbv hav (by rw [cmp_neg c b]; omega) (by rw [cmp_neg b a]; omega)
    rw [cmp_neg c a] at this
    omega
  rw [cmp_neg b a] at CN
  generalize minF a b = mi at *
  generalize maxF a b = ma at *
  generalize cmpF a b = x at *
  generalize cmpF b c = y at *
  generalize cmpF a c = z at *
  have H01 := Lib.hid h01
  have HZ := Lib.hid hzero
  have HSU := Lib.hid hsub
  have HTR := Lib.hid htr
  have HTR2 := Lib.hid htr2
  clear h01 hzero hsub htr htr2 hx hav hbv hcv ha hb hc
  obtain ⟨an, ad⟩ := a
  obtain ⟨bn, bd⟩ := b
  obtain ⟨cn, cd⟩ := c
  obtain ⟨m1, m2⟩ := mi
  obtain ⟨n1, n2⟩ := ma
  simp only [Fr.mk.injEq] at HZ
  unfold frV at *
  go_enter Tryd.func7, Tryd.ntmps7
  go_wp2_with fail
  have HX := Lib.hid (show Bxs w (((w.alloc (.cells #[.int .i64 an, .int .i64 ad] 23)).alloc (.cells #[.int .i64 bn, .int .i64 bd] 23)).alloc (.cells #[.int .i64 cn, .int .i64 cd] 23)) _ from Bxs.three w ⟨an, ad⟩ ⟨bn, bd⟩ ⟨cn, cd⟩)
  generalize ((w.alloc (.cells #[.int .i64 an, .int .i64 ad] 23)).alloc (.cells #[.int .i64 bn, .int .i64 bd] 23)).alloc (.cells #[.int .i64 cn, .int .i64 cd] 23) = w0 at *
  have hc := HX.out.cells
  simp only [BCells] at hc
  go_wp2_with fail
  clear hc
  refine (VA.out w0).mono ?_
  rintro e9 w1 ⟨rfl, hb⟩
  have hc := (HX.out.keep hb).cells
  simp only [BCells] at hc
  replace HX := Lib.hid (HX.out.keep hb)
  clear hb
  go_wp2_with fail
  clear hc
  refine (VB.out w1).mono ?_
  rintro e9 w2 ⟨rfl, hb⟩
  have hc := (HX.out.keep hb).cells
  simp only [BCells] at hc
  replace HX := Lib.hid (HX.out.keep hb)
  clear hb
  go_wp2_with fail
  clear hc
  refine (VC.out w2).mono ?_
  rintro e9 wv ⟨rfl, hb⟩
  replace HX := Lib.hid (HX.out.keep hb)
  clear hb
  go_upto_region 3 with fail
  have HXV := HX
  go_cut [7, 8, 9] (fun s7 s8 s9 wx => s7 = .int .i64 x ∧ s8 = .int .i64 y ∧ s9 = .int .i64 z ∧ Bxs w wx [(w.heap.size + 2, ⟨cn, cd⟩), (w.heap.size + 1, ⟨bn, bd⟩), (w.heap.size, ⟨an, ad⟩)])
  case first =>
    go_region_held3 (fun y => y.cell? ⟨w.heap.size + 2, 0, none⟩ = some (.int .i64 cn) ∧ y.cell? ⟨w.heap.size + 2, 1, none⟩ = some (.int .i64 cd) ∧ y.cell? ⟨w.heap.size + 1, 0, none⟩ = some (.int .i64 bn) ∧ y.cell? ⟨w.heap.size + 1, 1, none⟩ = some (.int .i64 bd) ∧ y.cell? ⟨w.heap.size, 0, none⟩ = some (.int .i64 an) ∧ y.cell? ⟨w.heap.size, 1, none⟩ = some (.int .i64 ad) ∧ Hid (Bxs w y [(w.heap.size + 2, ⟨cn, cd⟩), (w.heap.size + 1, ⟨bn, bd⟩), (w.heap.size, ⟨an, ad⟩)])) (first | (exact keep3 (Bxs.drew1 HX.out)) | (exact keep3 (Bxs.drew1 (last3 ‹_ ∧ _ ∧ _ ∧ _ ∧ _ ∧ _ ∧ Hid (Bxs w _ _)›))) | (exact keep3 (Bxs.keep (last3 ‹_ ∧ _ ∧ _ ∧ _ ∧ _ ∧ _ ∧ Hid (Bxs w _ _)›) hb9))) (first | (go_at_call 26; (with_reducible refine (CX.out _).mono ?_); rintro e9 w9 ⟨rfl, hb9⟩) | (go_at_call 26; (with_reducible refine (CY.out _).mono ?_); rintro e9 w9 ⟨rfl, hb9⟩) | (go_at_call 26; (with_reducible refine (CZ.out _).mono ?_); rintro e9 w9 ⟨rfl, hb9⟩))
    all_goals (have HE := Lib.hid (last3 ‹_ ∧ _ ∧ _ ∧ _ ∧ _ ∧ _ ∧ Hid (Bxs w _ _)›); go_wp2_with fail; go_meet; exact ⟨rfl, rfl, rfl, HE.out⟩)
  case rest =>
    obtain ⟨rfl, rfl, rfl, hX⟩ := hcut
    have HX := Lib.hid hX
    clear hX HXV
    obtain ⟨w3, hw3⟩ : ∃ w3, w3 = wc := ⟨_, rfl⟩
    subst hw3
    go_upto_region 4 with fail
    go_cut [55] (fun s55 wx => s55 = .bool false ∧ Bxs w wx [(w.heap.size + 2, ⟨cn, cd⟩), (w.heap.size + 1, ⟨bn, bd⟩), (w.heap.size, ⟨an, ad⟩)])
    case first =>
      rcases H01.out with h | h | h
      focus
        subst h
        have CN1 : Hid (∀ w, Calls Tryd.prog 26 #[.agg #[.int .i64 bn, .int .i64 bd], .agg #[.int .i64 an, .int .i64 ad]] w (OutB w (.int .i64 (1)))) := CN
        have hne : ¬ (an = bn ∧ ad = bd) := fun h => absurd (HZ.out.2 h) (by decide)
        by_cases hn : an = bn
        focus
          have hd : ad ≠ bd := fun h => hne ⟨hn, h⟩
          have t1 : (ad == bd) = false := beq_eq_false_iff_ne.2 hd
          subst hn
          clear hne hd
          have hc := HX.out.cells
          simp only [BCells] at hc
          go_wp2_with fail
          clear hc
          refine (CR.out _).mono ?_
          rintro e9 w4 ⟨rfl, hb⟩
          replace HX := Lib.hid (HX.out.keep hb)
          have hc := HX.out.cells
          simp only [BCells] at hc
          clear hb
          go_wp2_with fail
          clear hc
          refine (CN1.out _).mono ?_
          rintro e9 w5 ⟨rfl, hb⟩
          replace HX := Lib.hid (HX.out.keep hb)
          have hc := HX.out.cells
          simp only [BCells] at hc
          clear hb
          go_wp2_with fail
          go_meet
          exact ⟨rfl, HX.out⟩
        focus
          have t1 : (an == bn) = false := beq_eq_false_iff_ne.2 hn
          clear hne hn
          have hc := HX.out.cells
          simp only [BCells] at hc
          go_wp2_with fail
          clear hc
          refine (CR.out _).mono ?_
          rintro e9 w4 ⟨rfl, hb⟩
          replace HX := Lib.hid (HX.out.keep hb)
          have hc := HX.out.cells
          simp only [BCells] at hc
          clear hb
          go_wp2_with fail
          clear hc
          refine (CN1.out _).mono ?_
          rintro e9 w5 ⟨rfl, hb⟩
          replace HX := Lib.hid (HX.out.keep hb)
          have hc := HX.out.cells
          simp only [BCells] at hc
          clear hb
          go_wp2_with fail
          go_meet
          exact ⟨rfl, HX.out⟩
      focus
        subst h
        have CN1 : Hid (∀ w, Calls Tryd.prog 26 #[.agg #[.int .i64 bn, .int .i64 bd], .agg #[.int .i64 an, .int .i64 ad]] w (OutB w (.int .i64 (0)))) := CN
        obtain ⟨h1, h2⟩ := HZ.out.1 rfl
        subst h1 h2
        have hc := HX.out.cells
        simp only [BCells] at hc
        go_wp2_with fail
        clear hc
        refine (CR.out _).mono ?_
        rintro e9 w4 ⟨rfl, hb⟩
        replace HX := Lib.hid (HX.out.keep hb)
        have hc := HX.out.cells
        simp only [BCells] at hc
        clear hb
        go_wp2_with fail
        clear hc
        refine (CN1.out _).mono ?_
        rintro e9 w5 ⟨rfl, hb⟩
        replace HX := Lib.hid (HX.out.keep hb)
        have hc := HX.out.cells
        simp only [BCells] at hc
        clear hb
        go_wp2_with fail
        go_meet
        exact ⟨rfl, HX.out⟩
      focus
        subst h
        have CN1 : Hid (∀ w, Calls Tryd.prog 26 #[.agg #[.int .i64 bn, .int .i64 bd], .agg #[.int .i64 an, .int .i64 ad]] w (OutB w (.int .i64 (-1)))) := CN
        have hne : ¬ (an = bn ∧ ad = bd) := fun h => absurd (HZ.out.2 h) (by decide)
        by_cases hn : an = bn
        focus
          have hd : ad ≠ bd := fun h => hne ⟨hn, h⟩
          have t1 : (ad == bd) = false := beq_eq_false_iff_ne.2 hd
          subst hn
          clear hne hd
          have hc := HX.out.cells
          simp only [BCells] at hc
          go_wp2_with fail
          clear hc
          refine (CR.out _).mono ?_
          rintro e9 w4 ⟨rfl, hb⟩
          replace HX := Lib.hid (HX.out.keep hb)
          have hc := HX.out.cells
          simp only [BCells] at hc
          clear hb
          go_wp2_with fail
          clear hc
          refine (CN1.out _).mono ?_
          rintro e9 w5 ⟨rfl, hb⟩
          replace HX := Lib.hid (HX.out.keep hb)
          have hc := HX.out.cells
          simp only [BCells] at hc
          clear hb
          go_wp2_with fail
          go_meet
          exact ⟨rfl, HX.out⟩
        focus
          have t1 : (an == bn) = false := beq_eq_false_iff_ne.2 hn
          clear hne hn
          have hc := HX.out.cells
          simp only [BCells] at hc
          go_wp2_with fail
          clear hc
          refine (CR.out _).mono ?_
          rintro e9 w4 ⟨rfl, hb⟩
          replace HX := Lib.hid (HX.out.keep hb)
          have hc := HX.out.cells
          simp only [BCells] at hc
          clear hb
          go_wp2_with fail
          clear hc
          refine (CN1.out _).mono ?_
          rintro e9 w5 ⟨rfl, hb⟩
          replace HX := Lib.hid (HX.out.keep hb)
          have hc := HX.out.cells
          simp only [BCells] at hc
          clear hb
          go_wp2_with fail
          go_meet
          exact ⟨rfl, HX.out⟩
    case rest =>
      obtain ⟨rfl, hX⟩ := hcut
      replace HX := Lib.hid hX
      clear hX
      obtain ⟨w6, hw6⟩ : ∃ w6, w6 = wc := ⟨_, rfl⟩
      subst hw6
      go_upto_region 6 with fail
      go_cut [77] (fun s77 wx => s77 = .bool false ∧ Bxs w wx [(w.heap.size + 2, ⟨cn, cd⟩), (w.heap.size + 1, ⟨bn, bd⟩), (w.heap.size, ⟨an, ad⟩)])
      case first =>
        rcases H01.out with h | h | h
        focus
          subst h
          by_cases hy0 : y ≤ 0
          focus
            have t0 : decide (y ≤ 0) = true := by simp; omega
            have t1 : decide (0 < z) = false := by have := HTR.out (by omega) (by omega); simp; omega
            clear hy0
            go_wp2_with fail
            go_meet
            exact ⟨rfl, HX.out⟩
          focus
            have hy1 : ¬ y ≤ 0 := by omega
            have t0 : decide (y ≤ 0) = false := by simp; omega
            clear hy0 hy1
            go_wp2_with fail
            go_meet
            exact ⟨rfl, HX.out⟩
        focus
          subst h
          by_cases hy0 : y < 0
          focus
            have t0 : decide (y ≤ 0) = true := by simp; omega
            have t1 : decide (0 < z) = false := by have := HTR.out (by omega) (by omega); simp; omega
            have t2 : decide (0 ≤ y) = false := by simp; omega
            clear hy0
            go_wp2_with fail
            go_meet
            exact ⟨rfl, HX.out⟩
          by_cases hy1 : y = 0
          focus
            have t0 : decide (y ≤ 0) = true := by simp; omega
            have t1 : decide (0 < z) = false := by have := HTR.out (by omega) (by omega); simp; omega
            have t2 : decide (0 ≤ y) = true := by simp; omega
            have t3 : decide (z < 0) = false := by have := HTR2.out (by omega) (by omega); simp; omega
            clear hy0 hy1
            go_wp2_with fail
            go_meet
            exact ⟨rfl, HX.out⟩
          focus
            have hy2 : 0 < y := by omega
            have t0 : decide (y ≤ 0) = false := by simp; omega
            have t1 : decide (0 ≤ y) = true := by simp; omega
            have t2 : decide (z < 0) = false := by have := HTR2.out (by omega) (by omega); simp; omega
            clear hy0 hy1 hy2
            go_wp2_with fail
            go_meet
            exact ⟨rfl, HX.out⟩
        focus
          subst h
          by_cases hy0 : 0 ≤ y
          focus
            have t0 : decide (0 ≤ y) = true := by simp; omega
            have t1 : decide (z < 0) = false := by have := HTR2.out (by omega) (by omega); simp; omega
            clear hy0
            go_wp2_with fail
            go_meet
            exact ⟨rfl, HX.out⟩
          focus
            have hy1 : ¬ 0 ≤ y := by omega
            have t0 : decide (0 ≤ y) = false := by simp; omega
            clear hy0 hy1
            go_wp2_with fail
            go_meet
            exact ⟨rfl, HX.out⟩
      case rest =>
        obtain ⟨rfl, hX⟩ := hcut
        replace HX := Lib.hid hX
        have hc := HX.out.cells
        simp only [BCells] at hc
        clear hX
        go_wp2_with fail
        clear hc
        refine (SU.out _).mono ?_
        rintro e9 wd ⟨rfl, hb⟩
        unfold frV
        replace HX := Lib.hid (show Bxs w (wd.alloc (.cells #[.int .i64 s, .int .i64 t] 23)) _ from HX.out.step hb ⟨s, t⟩)
        clear hb
        go_upto_region 9 with fail
        generalize wd.alloc (.cells #[.int .i64 s, .int .i64 t] 23) = w7 at *
        generalize wd.heap.size = q7 at *
        go_cut [93] (fun s93 wx => s93 = .bool false ∧ Bxs w wx ((q7, ⟨s, t⟩) :: [(w.heap.size + 2, ⟨cn, cd⟩), (w.heap.size + 1, ⟨bn, bd⟩), (w.heap.size, ⟨an, ad⟩)]))
        case first =>
          have hc := HX.out.cells
          simp only [BCells] at hc
          by_cases he : e = 0
          rotate_left
          focus
            have t1 : (e == 0) = false := beq_eq_false_iff_ne.2 he
            clear he
            go_wp2_with fail
            go_meet
            exact ⟨rfl, HX.out⟩
          have hs := HSU.out he
          subst he
          by_cases h0 : x < 0
          focus
            have t1 : decide (x < 0) = true := by simpa using h0
            have t2 : decide (0 < s) = true := by simpa using hs.2 h0
            clear hs h0
            go_wp2_with fail
            go_meet
            exact ⟨rfl, HX.out⟩
          focus
            have t1 : decide (x < 0) = false := by simpa using h0
            have t2 : decide (0 < s) = false := decide_eq_false (fun h => h0 (hs.1 h))
            clear hs h0
            go_wp2_with fail
            go_meet
            exact ⟨rfl, HX.out⟩
        case rest =>
          obtain ⟨rfl, hX⟩ := hcut
          replace HX := Lib.hid hX
          clear hX
          obtain ⟨w8, hw8⟩ : ∃ w8, w8 = wc := ⟨_, rfl⟩
          subst hw8
          have HCA := Lib.hid (fun (y : World) (hy : Bxs w y ((q7, ⟨s, t⟩) :: [(w.heap.size + 2, ⟨cn, cd⟩), (w.heap.size + 1, ⟨bn, bd⟩), (w.heap.size, ⟨an, ad⟩)])) => awake_any y (HT.out.below hy.below))
          go_upto_region 11 with fail
          go_region_held3 (fun y => y.cell? ⟨w.heap.size + 1, 0, none⟩ = some (.int .i64 bn) ∧ y.cell? ⟨w.heap.size + 1, 1, none⟩ = some (.int .i64 bd) ∧ y.cell? ⟨w.heap.size, 0, none⟩ = some (.int .i64 an) ∧ y.cell? ⟨w.heap.size, 1, none⟩ = some (.int .i64 ad) ∧ Hid (Bxs w y ((q7, ⟨s, t⟩) :: [(w.heap.size + 2, ⟨cn, cd⟩), (w.heap.size + 1, ⟨bn, bd⟩), (w.heap.size, ⟨an, ad⟩)]))) (first | (exact keep4 (Bxs.drew1 HX.out)) | (exact keep4 (Bxs.drew1 (last2 ‹_ ∧ _ ∧ _ ∧ _ ∧ Hid (Bxs w _ _)›))) | (exact keep4 (Bxs.keep (last2 ‹_ ∧ _ ∧ _ ∧ _ ∧ Hid (Bxs w _ _)›) hb9))) (first | (go_at_call 28; (with_reducible refine (MI.out _).mono ?_); rintro e9 w9 ⟨rfl, hb9⟩) | (go_at_call 29; (with_reducible refine (RI.out _).mono ?_); rintro e9 w9 ⟨rfl, hb9⟩) | (go_at_call 30; (with_reducible refine (MA.out _).mono ?_); rintro e9 w9 ⟨rfl, hb9⟩) | (go_at_call 31; (with_reducible refine (RA.out _).mono ?_); rintro e9 w9 ⟨rfl, hb9⟩) | (go_at_call 14; (with_reducible refine (HCA.out _ (last2 ‹_ ∧ _ ∧ _ ∧ _ ∧ Hid (Bxs w _ _)›)).mono ?_); rintro e9 w9 ⟨rfl, hb9⟩))
          all_goals (have HE := Lib.hid (last2 ‹_ ∧ _ ∧ _ ∧ _ ∧ Hid (Bxs w _ _)›); go_wp2_with fail; go_ret; exact ⟨rfl, HE.out.below⟩)
end Go.Proofs.YtjobncfjebkcdaaDoor
