/- The walk of the law FractionRounds. -/
import Derived.Test.YtjobncfjebkcdaaDoorFc
namespace Go.Proofs.YtjobncfjebkcdaaDoor
open Go Go.RowKit
set_option linter.unusedSimpArgs false

set_option maxHeartbeats 8000000 in
set_option maxRecDepth 100000 in
theorem law_rounds (w : World) (f : Fr) (den : Int) (hf : FI f) (hd : I64 den) (ht : Tb w) : Calls Tryd.prog 6 #[frV f, .int .i64 den] w (YesP w) := by
  have HT := Lib.hid ht
  clear ht
  have P0 := Lib.hid (fun w => round_any w f den hf hd)
  have R0 := Lib.hid (fun w => rround_any w f den hf hd)
  obtain ⟨⟨⟨s, t⟩, e0⟩, hx0⟩ : ∃ x, roundF f den = x := ⟨_, rfl⟩
  rw [hx0] at P0 R0
  by_cases h0 : e0 = 0
  rotate_left
  focus
    have t1 : (e0 == 0) = false := beq_eq_false_iff_ne.2 h0
    have t2 : (e0 != 0) = true := bne_iff_ne.2 h0
    clear h0 hx0 hf hd
    obtain ⟨n, d⟩ := f
    unfold frV at *
    go_enter Tryd.func6, Tryd.ntmps6
    go_wp2_with fail
    have HX := Lib.hid (show Bxs w (w.alloc (.cells #[.int .i64 n, .int .i64 d] 23)) _ from Bxs.one w ⟨n, d⟩)
    generalize w.alloc (.cells #[.int .i64 n, .int .i64 d] 23) = w0 at *
    have hc := HX.out.cells
    simp only [BCells] at hc
    go_wp2_with fail
    clear hc
    refine (P0.out w0).mono ?_
    rintro e9 wc ⟨rfl, hb⟩
    unfold frV
    have hc := (HX.out.keep hb).cells
    simp only [BCells] at hc
    replace HX := Lib.hid (show Bxs w (wc.alloc (.cells #[.int .i64 s, .int .i64 t] 23)) _ from HX.out.step hb ⟨s, t⟩)
    clear hb
    go_wp2_with fail
    clear hc
    generalize wc.alloc (.cells #[.int .i64 s, .int .i64 t] 23) = w1 at *
    generalize wc.heap.size = q1 at *
    refine (R0.out w1).mono ?_
    rintro e9 wc ⟨rfl, hb⟩
    unfold frV
    have hc := (HX.out.keep hb).cells
    simp only [BCells] at hc
    replace HX := Lib.hid (show Bxs w (wc.alloc (.cells #[.int .i64 s, .int .i64 t] 23)) _ from HX.out.step hb ⟨s, t⟩)
    clear hb
    go_wp2_with fail
    clear hc
    generalize wc.alloc (.cells #[.int .i64 s, .int .i64 t] 23) = w2 at *
    generalize wc.heap.size = q2 at *
    refine (awake_any w2 (HT.out.below HX.out.below)).mono ?_
    rintro e9 wc ⟨rfl, hb⟩
    replace HX := Lib.hid (HX.out.keep hb)
    clear hb
    go_wp2_with fail
    go_ret
    exact ⟨rfl, HX.out.below⟩
  subst h0
  have hfv : FrOk f := by
    by_cases h : FrOk f
    · exact h
    · unfold roundF at hx0
      rw [if_neg h] at hx0
      simp at hx0
  have hden : 1 ≤ den ∧ den ≤ 1073741824 := by
    unfold roundF at hx0
    rw [if_pos hfv] at hx0
    split at hx0
    · simp at hx0
    · omega
  have hs : FrOk ⟨s, t⟩ := by
    unfold roundF at hx0
    rw [if_pos hfv, if_neg (by omega)] at hx0
    exact mkF_ok hx0
  have P1 := Lib.hid (fun w => sub_any w ⟨s, t⟩ f hs.fi hf)
  obtain ⟨⟨⟨x1, y1⟩, e1⟩, hx1⟩ : ∃ x, subF ⟨s, t⟩ f = x := ⟨_, rfl⟩
  rw [hx1] at P1
  by_cases h1 : e1 = 0
  rotate_left
  focus
    have t1 : (e1 == 0) = false := beq_eq_false_iff_ne.2 h1
    have t2 : (e1 != 0) = true := bne_iff_ne.2 h1
    clear h1 hx0 hx1 hf hd hs hfv hden
    obtain ⟨n, d⟩ := f
    unfold frV at *
    go_enter Tryd.func6, Tryd.ntmps6
    go_wp2_with fail
    have HX := Lib.hid (show Bxs w (w.alloc (.cells #[.int .i64 n, .int .i64 d] 23)) _ from Bxs.one w ⟨n, d⟩)
    generalize w.alloc (.cells #[.int .i64 n, .int .i64 d] 23) = w0 at *
    have hc := HX.out.cells
    simp only [BCells] at hc
    go_wp2_with fail
    clear hc
    refine (P0.out w0).mono ?_
    rintro e9 wc ⟨rfl, hb⟩
    unfold frV
    have hc := (HX.out.keep hb).cells
    simp only [BCells] at hc
    replace HX := Lib.hid (show Bxs w (wc.alloc (.cells #[.int .i64 s, .int .i64 t] 23)) _ from HX.out.step hb ⟨s, t⟩)
    clear hb
    go_wp2_with fail
    clear hc
    generalize wc.alloc (.cells #[.int .i64 s, .int .i64 t] 23) = w1 at *
    generalize wc.heap.size = q1 at *
    refine (R0.out w1).mono ?_
    rintro e9 wc ⟨rfl, hb⟩
    unfold frV
    have hc := (HX.out.keep hb).cells
    simp only [BCells] at hc
    replace HX := Lib.hid (show Bxs w (wc.alloc (.cells #[.int .i64 s, .int .i64 t] 23)) _ from HX.out.step hb ⟨s, t⟩)
    clear hb
    go_wp2_with fail
    clear hc
    generalize wc.alloc (.cells #[.int .i64 s, .int .i64 t] 23) = w2 at *
    generalize wc.heap.size = q2 at *
    refine (P1.out w2).mono ?_
    rintro e9 wc ⟨rfl, hb⟩
    unfold frV
    have hc := (HX.out.keep hb).cells
    simp only [BCells] at hc
    replace HX := Lib.hid (show Bxs w (wc.alloc (.cells #[.int .i64 x1, .int .i64 y1] 23)) _ from HX.out.step hb ⟨x1, y1⟩)
    clear hb
    go_wp2_with fail
    clear hc
    generalize wc.alloc (.cells #[.int .i64 x1, .int .i64 y1] 23) = w3 at *
    generalize wc.heap.size = q3 at *
    refine (awake_any w3 (HT.out.below HX.out.below)).mono ?_
    rintro e9 wc ⟨rfl, hb⟩
    replace HX := Lib.hid (HX.out.keep hb)
    clear hb
    go_wp2_with fail
    go_ret
    exact ⟨rfl, HX.out.below⟩
  subst h1
  have h1v := ((subF_iff hs hfv).1 hx1).1
  have P2 := Lib.hid (fun w => mul_any w ⟨x1, y1⟩ ⟨2, 1⟩ h1v.fi ⟨⟨by decide, by decide⟩, ⟨by decide, by decide⟩⟩)
  obtain ⟨⟨⟨x2, y2⟩, e2⟩, hx2⟩ : ∃ x, mulF ⟨x1, y1⟩ ⟨2, 1⟩ = x := ⟨_, rfl⟩
  rw [hx2] at P2
  by_cases h2 : e2 = 0
  rotate_left
  focus
    have t1 : (e2 == 0) = false := beq_eq_false_iff_ne.2 h2
    have t2 : (e2 != 0) = true := bne_iff_ne.2 h2
    clear h2 hx0 hx1 hx2 hf hd hs hfv hden h1v
    obtain ⟨n, d⟩ := f
    unfold frV at *
    go_enter Tryd.func6, Tryd.ntmps6
    go_wp2_with fail
    have HX := Lib.hid (show Bxs w (w.alloc (.cells #[.int .i64 n, .int .i64 d] 23)) _ from Bxs.one w ⟨n, d⟩)
    generalize w.alloc (.cells #[.int .i64 n, .int .i64 d] 23) = w0 at *
    have hc := HX.out.cells
    simp only [BCells] at hc
    go_wp2_with fail
    clear hc
    refine (P0.out w0).mono ?_
    rintro e9 wc ⟨rfl, hb⟩
    unfold frV
    have hc := (HX.out.keep hb).cells
    simp only [BCells] at hc
    replace HX := Lib.hid (show Bxs w (wc.alloc (.cells #[.int .i64 s, .int .i64 t] 23)) _ from HX.out.step hb ⟨s, t⟩)
    clear hb
    go_wp2_with fail
    clear hc
    generalize wc.alloc (.cells #[.int .i64 s, .int .i64 t] 23) = w1 at *
    generalize wc.heap.size = q1 at *
    refine (R0.out w1).mono ?_
    rintro e9 wc ⟨rfl, hb⟩
    unfold frV
    have hc := (HX.out.keep hb).cells
    simp only [BCells] at hc
    replace HX := Lib.hid (show Bxs w (wc.alloc (.cells #[.int .i64 s, .int .i64 t] 23)) _ from HX.out.step hb ⟨s, t⟩)
    clear hb
    go_wp2_with fail
    clear hc
    generalize wc.alloc (.cells #[.int .i64 s, .int .i64 t] 23) = w2 at *
    generalize wc.heap.size = q2 at *
    refine (P1.out w2).mono ?_
    rintro e9 wc ⟨rfl, hb⟩
    unfold frV
    have hc := (HX.out.keep hb).cells
    simp only [BCells] at hc
    replace HX := Lib.hid (show Bxs w (wc.alloc (.cells #[.int .i64 x1, .int .i64 y1] 23)) _ from HX.out.step hb ⟨x1, y1⟩)
    clear hb
    go_wp2_with fail
    clear hc
    generalize wc.alloc (.cells #[.int .i64 x1, .int .i64 y1] 23) = w3 at *
    generalize wc.heap.size = q3 at *
    refine (P2.out w3).mono ?_
    rintro e9 wc ⟨rfl, hb⟩
    unfold frV
    replace HX := Lib.hid (HX.out.keep hb)
    have hc := HX.out.cells
    have hz := HX.out.froz
    simp only [BCells] at hc
    clear hb
    go_wp2_with fail
    clear hc hz
    replace HX := Lib.hid (show Bxs w ((wc.setCell ⟨q3, 0, none⟩ (.int .i64 x2)).setCell ⟨q3, 1, none⟩ (.int .i64 y2)) _ from HX.out.put x2 y2)
    generalize (wc.setCell ⟨q3, 0, none⟩ (.int .i64 x2)).setCell ⟨q3, 1, none⟩ (.int .i64 y2) = w4 at *
    refine (awake_any w4 (HT.out.below HX.out.below)).mono ?_
    rintro e9 wc ⟨rfl, hb⟩
    replace HX := Lib.hid (HX.out.keep hb)
    clear hb
    go_wp2_with fail
    go_ret
    exact ⟨rfl, HX.out.below⟩
  subst h2
  obtain ⟨_, _, h2v, l1, l2⟩ := round_law hfv hx0 hx1 hx2
  simp only at l1 l2
  have hone : FrOk ⟨1, 1⟩ := by decide
  have hbd : FB ⟨1, den⟩ := ⟨⟨by simp, by simp⟩, by show -1073741824 ≤ den; omega, hden.2⟩
  have hb2 := h2v.fb
  by_cases hn : x2 < 0
  focus
    have hb3 : FB ⟨-x2, y2⟩ := ⟨by have := hb2.1; simp only at this ⊢; omega, hb2.2⟩
    have C := Lib.hid (fun w => cmp_any w ⟨-x2, y2⟩ ⟨1, den⟩ hb3 hbd)
    have hk : cmpF ⟨-x2, y2⟩ ⟨1, den⟩ ≤ 0 := by rw [cmp_le]; simp only; rw [Int.neg_mul]; omega
    generalize cmpF ⟨-x2, y2⟩ ⟨1, den⟩ = k at *
    have t1 : decide (x2 < 0) = true := by simpa using hn
    have t2 : decide (k ≤ 0) = true := by simpa using hk
    have b1 : -1073741824 ≤ x2 := hb2.1.1
    have b2 : x2 ≤ 1073741824 := hb2.1.2
    clear hn hk hb2 hb3 hbd hone l1 l2 h2v hx0 hx1 hx2 hf hd hs hfv hden h1v
    obtain ⟨n, d⟩ := f
    unfold frV at *
    go_enter Tryd.func6, Tryd.ntmps6
    go_wp2_with fail
    have HX := Lib.hid (show Bxs w (w.alloc (.cells #[.int .i64 n, .int .i64 d] 23)) _ from Bxs.one w ⟨n, d⟩)
    generalize w.alloc (.cells #[.int .i64 n, .int .i64 d] 23) = w0 at *
    have hc := HX.out.cells
    simp only [BCells] at hc
    go_wp2_with fail
    clear hc
    refine (P0.out w0).mono ?_
    rintro e9 wc ⟨rfl, hb⟩
    unfold frV
    have hc := (HX.out.keep hb).cells
    simp only [BCells] at hc
    replace HX := Lib.hid (show Bxs w (wc.alloc (.cells #[.int .i64 s, .int .i64 t] 23)) _ from HX.out.step hb ⟨s, t⟩)
    clear hb
    go_wp2_with fail
    clear hc
    generalize wc.alloc (.cells #[.int .i64 s, .int .i64 t] 23) = w1 at *
    generalize wc.heap.size = q1 at *
    refine (R0.out w1).mono ?_
    rintro e9 wc ⟨rfl, hb⟩
    unfold frV
    have hc := (HX.out.keep hb).cells
    simp only [BCells] at hc
    replace HX := Lib.hid (show Bxs w (wc.alloc (.cells #[.int .i64 s, .int .i64 t] 23)) _ from HX.out.step hb ⟨s, t⟩)
    clear hb
    go_wp2_with fail
    clear hc
    generalize wc.alloc (.cells #[.int .i64 s, .int .i64 t] 23) = w2 at *
    generalize wc.heap.size = q2 at *
    refine (P1.out w2).mono ?_
    rintro e9 wc ⟨rfl, hb⟩
    unfold frV
    have hc := (HX.out.keep hb).cells
    simp only [BCells] at hc
    replace HX := Lib.hid (show Bxs w (wc.alloc (.cells #[.int .i64 x1, .int .i64 y1] 23)) _ from HX.out.step hb ⟨x1, y1⟩)
    clear hb
    go_wp2_with fail
    clear hc
    generalize wc.alloc (.cells #[.int .i64 x1, .int .i64 y1] 23) = w3 at *
    generalize wc.heap.size = q3 at *
    refine (P2.out w3).mono ?_
    rintro e9 wc ⟨rfl, hb⟩
    unfold frV
    replace HX := Lib.hid (HX.out.keep hb)
    have hc := HX.out.cells
    have hz := HX.out.froz
    simp only [BCells] at hc
    clear hb
    go_wp2_with fail
    clear hc hz
    replace HX := Lib.hid (show Bxs w (((wc.setCell ⟨q3, 0, none⟩ (.int .i64 x2)).setCell ⟨q3, 1, none⟩ (.int .i64 y2)).setCell ⟨q3, 0, none⟩ (.int .i64 (-x2))) _ from (HX.out.put x2 y2).put0 (-x2))
    generalize ((wc.setCell ⟨q3, 0, none⟩ (.int .i64 x2)).setCell ⟨q3, 1, none⟩ (.int .i64 y2)).setCell ⟨q3, 0, none⟩ (.int .i64 (-x2)) = w4 at *
    refine (C.out w4).mono ?_
    rintro e9 w5 ⟨rfl, hb⟩
    have hc := (HX.out.keep hb).cells
    simp only [BCells] at hc
    replace HX := Lib.hid (HX.out.keep hb)
    clear hb
    go_wp2_with fail
    clear hc
    refine (awake_any w5 (HT.out.below HX.out.below)).mono ?_
    rintro e9 wc ⟨rfl, hb⟩
    replace HX := Lib.hid (HX.out.keep hb)
    clear hb
    go_wp2_with fail
    go_ret
    exact ⟨rfl, HX.out.below⟩
  focus
    have C := Lib.hid (fun w => cmp_any w ⟨x2, y2⟩ ⟨1, den⟩ hb2 hbd)
    have hk : cmpF ⟨x2, y2⟩ ⟨1, den⟩ ≤ 0 := by rw [cmp_le]; simp only; omega
    generalize cmpF ⟨x2, y2⟩ ⟨1, den⟩ = k at *
    have t1 : decide (x2 < 0) = false := by simpa using hn
    have t2 : decide (k ≤ 0) = true := by simpa using hk
    clear hn hk hb2 hbd hone l1 l2 h2v hx0 hx1 hx2 hf hd hs hfv hden h1v
    obtain ⟨n, d⟩ := f
    unfold frV at *
    go_enter Tryd.func6, Tryd.ntmps6
    go_wp2_with fail
    have HX := Lib.hid (show Bxs w (w.alloc (.cells #[.int .i64 n, .int .i64 d] 23)) _ from Bxs.one w ⟨n, d⟩)
    generalize w.alloc (.cells #[.int .i64 n, .int .i64 d] 23) = w0 at *
    have hc := HX.out.cells
    simp only [BCells] at hc
    go_wp2_with fail
    clear hc
    refine (P0.out w0).mono ?_
    rintro e9 wc ⟨rfl, hb⟩
    unfold frV
    have hc := (HX.out.keep hb).cells
    simp only [BCells] at hc
    replace HX := Lib.hid (show Bxs w (wc.alloc (.cells #[.int .i64 s, .int .i64 t] 23)) _ from HX.out.step hb ⟨s, t⟩)
    clear hb
    go_wp2_with fail
    clear hc
    generalize wc.alloc (.cells #[.int .i64 s, .int .i64 t] 23) = w1 at *
    generalize wc.heap.size = q1 at *
    refine (R0.out w1).mono ?_
    rintro e9 wc ⟨rfl, hb⟩
    unfold frV
    have hc := (HX.out.keep hb).cells
    simp only [BCells] at hc
    replace HX := Lib.hid (show Bxs w (wc.alloc (.cells #[.int .i64 s, .int .i64 t] 23)) _ from HX.out.step hb ⟨s, t⟩)
    clear hb
    go_wp2_with fail
    clear hc
    generalize wc.alloc (.cells #[.int .i64 s, .int .i64 t] 23) = w2 at *
    generalize wc.heap.size = q2 at *
    refine (P1.out w2).mono ?_
    rintro e9 wc ⟨rfl, hb⟩
    unfold frV
    have hc := (HX.out.keep hb).cells
    simp only [BCells] at hc
    replace HX := Lib.hid (show Bxs w (wc.alloc (.cells #[.int .i64 x1, .int .i64 y1] 23)) _ from HX.out.step hb ⟨x1, y1⟩)
    clear hb
    go_wp2_with fail
    clear hc
    generalize wc.alloc (.cells #[.int .i64 x1, .int .i64 y1] 23) = w3 at *
    generalize wc.heap.size = q3 at *
    refine (P2.out w3).mono ?_
    rintro e9 wc ⟨rfl, hb⟩
    unfold frV
    replace HX := Lib.hid (HX.out.keep hb)
    have hc := HX.out.cells
    have hz := HX.out.froz
    simp only [BCells] at hc
    clear hb
    go_wp2_with fail
    clear hc hz
    replace HX := Lib.hid (show Bxs w ((wc.setCell ⟨q3, 0, none⟩ (.int .i64 x2)).setCell ⟨q3, 1, none⟩ (.int .i64 y2)) _ from HX.out.put x2 y2)
    generalize (wc.setCell ⟨q3, 0, none⟩ (.int .i64 x2)).setCell ⟨q3, 1, none⟩ (.int .i64 y2) = w4 at *
    refine (C.out w4).mono ?_
    rintro e9 w5 ⟨rfl, hb⟩
    have hc := (HX.out.keep hb).cells
    simp only [BCells] at hc
    replace HX := Lib.hid (HX.out.keep hb)
    clear hb
    go_wp2_with fail
    clear hc
    refine (awake_any w5 (HT.out.below HX.out.below)).mono ?_
    rintro e9 wc ⟨rfl, hb⟩
    replace HX := Lib.hid (HX.out.keep hb)
    clear hb
    go_wp2_with fail
    go_ret
    exact ⟨rfl, HX.out.below⟩
end Go.Proofs.YtjobncfjebkcdaaDoor
