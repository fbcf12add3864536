/- The walks of distributes and of the law FractionLaws. -/
import Derived.Test.YtjobncfjebkcdaaDoorFb
namespace Go.Proofs.YtjobncfjebkcdaaDoor
open Go Go.RowKit
set_option linter.unusedSimpArgs false

def TrueB (w : World) (e : Ending) (w' : World) : Prop := e = .returned (.bool true) ∧ Below w.heap.size w w'
theorem valid_yes (w : World) {f : Fr} (h : FrOk f) : Calls Tryd.prog 12 #[frV f] w (OutB w (.bool true)) := by
  have := valid_any w f h.fi
  rwa [show decide (FrOk f) = true from by simp [h]] at this
theorem valid_no (w : World) {f : Fr} (hf : FI f) (h : ¬ FrOk f) : Calls Tryd.prog 12 #[frV f] w (OutB w (.bool false)) := by
  have := valid_any w f hf
  rwa [show decide (FrOk f) = false from by simp [h]] at this
set_option maxHeartbeats 8000000 in
set_option maxRecDepth 100000 in
theorem dist_any (w : World) (a b c : Fr) (ha : FrOk a) (hb : FrOk b) (hc : FrOk c) : Calls Tryd.prog 23 #[frV a, frV b, frV c] w (TrueB w) := by
  have P0 := Lib.hid (fun w => add_any w a b ha.fi hb.fi)
  have P2 := Lib.hid (fun w => mul_any w a c ha.fi hc.fi)
  have P3 := Lib.hid (fun w => mul_any w b c hb.fi hc.fi)
  obtain ⟨⟨⟨s, t⟩, e0⟩, hx0⟩ : ∃ x, addF a b = x := ⟨_, rfl⟩
  obtain ⟨⟨⟨x2, y2⟩, e2⟩, hx2⟩ : ∃ x, mulF a c = x := ⟨_, rfl⟩
  obtain ⟨⟨⟨x3, y3⟩, e3⟩, hx3⟩ : ∃ x, mulF b c = x := ⟨_, rfl⟩
  rw [hx0] at P0
  rw [hx2] at P2
  rw [hx3] at P3
  by_cases h0 : e0 = 0
  rotate_left
  focus
    have t1 : (e0 == 0) = false := beq_eq_false_iff_ne.2 h0
    have t2 : (e0 != 0) = true := bne_iff_ne.2 h0
    clear h0 hx0 hx2 hx3 ha hb hc P2 P3
    obtain ⟨an, ad⟩ := a
    obtain ⟨bn, bd⟩ := b
    obtain ⟨cn, cd⟩ := c
    unfold frV at *
    go_enter Tryd.func23, Tryd.ntmps23
    go_wp2_with fail
    have HX := Lib.hid (show Bxs w (((w.alloc (.cells #[.int .i64 an, .int .i64 ad] 23)).alloc (.cells #[.int .i64 bn, .int .i64 bd] 23)).alloc (.cells #[.int .i64 cn, .int .i64 cd] 23)) _ from Bxs.three w ⟨an, ad⟩ ⟨bn, bd⟩ ⟨cn, cd⟩)
    generalize ((w.alloc (.cells #[.int .i64 an, .int .i64 ad] 23)).alloc (.cells #[.int .i64 bn, .int .i64 bd] 23)).alloc (.cells #[.int .i64 cn, .int .i64 cd] 23) = w0 at *
    have hc := HX.out.cells
    simp only [BCells] at hc
    go_wp2_with fail
    clear hc
    refine (P0.out w0).mono ?_
    rintro e9 wc ⟨rfl, hb⟩
    unfold frV
    have hc := (HX.out.keep hb).cells
    simp only [BCells] at hc
    replace HX := Lib.hid (show Bxs w (wc.alloc (.cells #[.int .i64 s, .int .i64 t] 23)) _ from HX.out.step hb ⟨s, t⟩)
    clear hb
    go_wp2_with fail
    clear hc
    generalize wc.alloc (.cells #[.int .i64 s, .int .i64 t] 23) = w1 at *
    generalize wc.heap.size = q1 at *
    go_ret
    exact ⟨rfl, HX.out.below⟩
  subst h0
  have hs := ((addF_iff ha hb).1 hx0).1
  have P1 := Lib.hid (fun w => mul_any w ⟨s, t⟩ c hs.fi hc.fi)
  obtain ⟨⟨⟨x1, y1⟩, e1⟩, hx1⟩ : ∃ x, mulF ⟨s, t⟩ c = x := ⟨_, rfl⟩
  rw [hx1] at P1
  by_cases h1 : e1 = 0
  rotate_left
  focus
    have t1 : (e1 == 0) = false := beq_eq_false_iff_ne.2 h1
    have t2 : (e1 != 0) = true := bne_iff_ne.2 h1
    clear h1 hs hx0 hx1 hx2 hx3 ha hb hc
    obtain ⟨an, ad⟩ := a
    obtain ⟨bn, bd⟩ := b
    obtain ⟨cn, cd⟩ := c
    unfold frV at *
    go_enter Tryd.func23, Tryd.ntmps23
    go_wp2_with fail
    have HX := Lib.hid (show Bxs w (((w.alloc (.cells #[.int .i64 an, .int .i64 ad] 23)).alloc (.cells #[.int .i64 bn, .int .i64 bd] 23)).alloc (.cells #[.int .i64 cn, .int .i64 cd] 23)) _ from Bxs.three w ⟨an, ad⟩ ⟨bn, bd⟩ ⟨cn, cd⟩)
    generalize ((w.alloc (.cells #[.int .i64 an, .int .i64 ad] 23)).alloc (.cells #[.int .i64 bn, .int .i64 bd] 23)).alloc (.cells #[.int .i64 cn, .int .i64 cd] 23) = w0 at *
    have hc := HX.out.cells
    simp only [BCells] at hc
    go_wp2_with fail
    clear hc
    refine (P0.out w0).mono ?_
    rintro e9 wc ⟨rfl, hb⟩
    unfold frV
    have hc := (HX.out.keep hb).cells
    simp only [BCells] at hc
    replace HX := Lib.hid (show Bxs w (wc.alloc (.cells #[.int .i64 s, .int .i64 t] 23)) _ from HX.out.step hb ⟨s, t⟩)
    clear hb
    go_wp2_with fail
    clear hc
    generalize wc.alloc (.cells #[.int .i64 s, .int .i64 t] 23) = w1 at *
    generalize wc.heap.size = q1 at *
    refine (P1.out w1).mono ?_
    rintro e9 wc ⟨rfl, hb⟩
    unfold frV
    have hc := (HX.out.keep hb).cells
    simp only [BCells] at hc
    replace HX := Lib.hid (show Bxs w (wc.alloc (.cells #[.int .i64 x1, .int .i64 y1] 23)) _ from HX.out.step hb ⟨x1, y1⟩)
    clear hb
    go_wp2_with fail
    clear hc
    generalize wc.alloc (.cells #[.int .i64 x1, .int .i64 y1] 23) = w2 at *
    generalize wc.heap.size = q2 at *
    refine (P2.out w2).mono ?_
    rintro e9 wc ⟨rfl, hb⟩
    unfold frV
    have hc := (HX.out.keep hb).cells
    simp only [BCells] at hc
    replace HX := Lib.hid (show Bxs w (wc.alloc (.cells #[.int .i64 x2, .int .i64 y2] 23)) _ from HX.out.step hb ⟨x2, y2⟩)
    clear hb
    go_wp2_with fail
    clear hc
    generalize wc.alloc (.cells #[.int .i64 x2, .int .i64 y2] 23) = w3 at *
    generalize wc.heap.size = q3 at *
    refine (P3.out w3).mono ?_
    rintro e9 wc ⟨rfl, hb⟩
    unfold frV
    have hc := (HX.out.keep hb).cells
    simp only [BCells] at hc
    replace HX := Lib.hid (show Bxs w (wc.alloc (.cells #[.int .i64 x3, .int .i64 y3] 23)) _ from HX.out.step hb ⟨x3, y3⟩)
    clear hb
    go_wp2_with fail
    clear hc
    generalize wc.alloc (.cells #[.int .i64 x3, .int .i64 y3] 23) = w4 at *
    generalize wc.heap.size = q4 at *
    go_ret
    exact ⟨rfl, HX.out.below⟩
  subst h1
  by_cases h2 : e2 = 0
  rotate_left
  focus
    have t1 : (e2 == 0) = false := beq_eq_false_iff_ne.2 h2
    have t2 : (e2 != 0) = true := bne_iff_ne.2 h2
    clear h2 hs hx0 hx1 hx2 hx3 ha hb hc
    obtain ⟨an, ad⟩ := a
    obtain ⟨bn, bd⟩ := b
    obtain ⟨cn, cd⟩ := c
    unfold frV at *
    go_enter Tryd.func23, Tryd.ntmps23
    go_wp2_with fail
    have HX := Lib.hid (show Bxs w (((w.alloc (.cells #[.int .i64 an, .int .i64 ad] 23)).alloc (.cells #[.int .i64 bn, .int .i64 bd] 23)).alloc (.cells #[.int .i64 cn, .int .i64 cd] 23)) _ from Bxs.three w ⟨an, ad⟩ ⟨bn, bd⟩ ⟨cn, cd⟩)
    generalize ((w.alloc (.cells #[.int .i64 an, .int .i64 ad] 23)).alloc (.cells #[.int .i64 bn, .int .i64 bd] 23)).alloc (.cells #[.int .i64 cn, .int .i64 cd] 23) = w0 at *
    have hc := HX.out.cells
    simp only [BCells] at hc
    go_wp2_with fail
    clear hc
    refine (P0.out w0).mono ?_
    rintro e9 wc ⟨rfl, hb⟩
    unfold frV
    have hc := (HX.out.keep hb).cells
    simp only [BCells] at hc
    replace HX := Lib.hid (show Bxs w (wc.alloc (.cells #[.int .i64 s, .int .i64 t] 23)) _ from HX.out.step hb ⟨s, t⟩)
    clear hb
    go_wp2_with fail
    clear hc
    generalize wc.alloc (.cells #[.int .i64 s, .int .i64 t] 23) = w1 at *
    generalize wc.heap.size = q1 at *
    refine (P1.out w1).mono ?_
    rintro e9 wc ⟨rfl, hb⟩
    unfold frV
    have hc := (HX.out.keep hb).cells
    simp only [BCells] at hc
    replace HX := Lib.hid (show Bxs w (wc.alloc (.cells #[.int .i64 x1, .int .i64 y1] 23)) _ from HX.out.step hb ⟨x1, y1⟩)
    clear hb
    go_wp2_with fail
    clear hc
    generalize wc.alloc (.cells #[.int .i64 x1, .int .i64 y1] 23) = w2 at *
    generalize wc.heap.size = q2 at *
    refine (P2.out w2).mono ?_
    rintro e9 wc ⟨rfl, hb⟩
    unfold frV
    have hc := (HX.out.keep hb).cells
    simp only [BCells] at hc
    replace HX := Lib.hid (show Bxs w (wc.alloc (.cells #[.int .i64 x2, .int .i64 y2] 23)) _ from HX.out.step hb ⟨x2, y2⟩)
    clear hb
    go_wp2_with fail
    clear hc
    generalize wc.alloc (.cells #[.int .i64 x2, .int .i64 y2] 23) = w3 at *
    generalize wc.heap.size = q3 at *
    refine (P3.out w3).mono ?_
    rintro e9 wc ⟨rfl, hb⟩
    unfold frV
    have hc := (HX.out.keep hb).cells
    simp only [BCells] at hc
    replace HX := Lib.hid (show Bxs w (wc.alloc (.cells #[.int .i64 x3, .int .i64 y3] 23)) _ from HX.out.step hb ⟨x3, y3⟩)
    clear hb
    go_wp2_with fail
    clear hc
    generalize wc.alloc (.cells #[.int .i64 x3, .int .i64 y3] 23) = w4 at *
    generalize wc.heap.size = q4 at *
    go_ret
    exact ⟨rfl, HX.out.below⟩
  subst h2
  by_cases h3 : e3 = 0
  rotate_left
  focus
    have t1 : (e3 == 0) = false := beq_eq_false_iff_ne.2 h3
    have t2 : (e3 != 0) = true := bne_iff_ne.2 h3
    clear h3 hs hx0 hx1 hx2 hx3 ha hb hc
    obtain ⟨an, ad⟩ := a
    obtain ⟨bn, bd⟩ := b
    obtain ⟨cn, cd⟩ := c
    unfold frV at *
    go_enter Tryd.func23, Tryd.ntmps23
    go_wp2_with fail
    have HX := Lib.hid (show Bxs w (((w.alloc (.cells #[.int .i64 an, .int .i64 ad] 23)).alloc (.cells #[.int .i64 bn, .int .i64 bd] 23)).alloc (.cells #[.int .i64 cn, .int .i64 cd] 23)) _ from Bxs.three w ⟨an, ad⟩ ⟨bn, bd⟩ ⟨cn, cd⟩)
    generalize ((w.alloc (.cells #[.int .i64 an, .int .i64 ad] 23)).alloc (.cells #[.int .i64 bn, .int .i64 bd] 23)).alloc (.cells #[.int .i64 cn, .int .i64 cd] 23) = w0 at *
    have hc := HX.out.cells
    simp only [BCells] at hc
    go_wp2_with fail
    clear hc
    refine (P0.out w0).mono ?_
    rintro e9 wc ⟨rfl, hb⟩
    unfold frV
    have hc := (HX.out.keep hb).cells
    simp only [BCells] at hc
    replace HX := Lib.hid (show Bxs w (wc.alloc (.cells #[.int .i64 s, .int .i64 t] 23)) _ from HX.out.step hb ⟨s, t⟩)
    clear hb
    go_wp2_with fail
    clear hc
    generalize wc.alloc (.cells #[.int .i64 s, .int .i64 t] 23) = w1 at *
    generalize wc.heap.size = q1 at *
    refine (P1.out w1).mono ?_
    rintro e9 wc ⟨rfl, hb⟩
    unfold frV
    have hc := (HX.out.keep hb).cells
    simp only [BCells] at hc
    replace HX := Lib.hid (show Bxs w (wc.alloc (.cells #[.int .i64 x1, .int .i64 y1] 23)) _ from HX.out.step hb ⟨x1, y1⟩)
    clear hb
    go_wp2_with fail
    clear hc
    generalize wc.alloc (.cells #[.int .i64 x1, .int .i64 y1] 23) = w2 at *
    generalize wc.heap.size = q2 at *
    refine (P2.out w2).mono ?_
    rintro e9 wc ⟨rfl, hb⟩
    unfold frV
    have hc := (HX.out.keep hb).cells
    simp only [BCells] at hc
    replace HX := Lib.hid (show Bxs w (wc.alloc (.cells #[.int .i64 x2, .int .i64 y2] 23)) _ from HX.out.step hb ⟨x2, y2⟩)
    clear hb
    go_wp2_with fail
    clear hc
    generalize wc.alloc (.cells #[.int .i64 x2, .int .i64 y2] 23) = w3 at *
    generalize wc.heap.size = q3 at *
    refine (P3.out w3).mono ?_
    rintro e9 wc ⟨rfl, hb⟩
    unfold frV
    have hc := (HX.out.keep hb).cells
    simp only [BCells] at hc
    replace HX := Lib.hid (show Bxs w (wc.alloc (.cells #[.int .i64 x3, .int .i64 y3] 23)) _ from HX.out.step hb ⟨x3, y3⟩)
    clear hb
    go_wp2_with fail
    clear hc
    generalize wc.alloc (.cells #[.int .i64 x3, .int .i64 y3] 23) = w4 at *
    generalize wc.heap.size = q4 at *
    go_ret
    exact ⟨rfl, HX.out.below⟩
  subst h3
  have hd := distrib ha hb hc hx0 hx1 hx2 hx3
  have k2 := ((mulF_iff ha hc).1 hx2).1
  have k3 := ((mulF_iff hb hc).1 hx3).1
  have P4 := Lib.hid (fun w => add_any w ⟨x2, y2⟩ ⟨x3, y3⟩ k2.fi k3.fi)
  rw [hd] at P4
  focus
    clear hd k2 k3 hs hx0 hx1 hx2 hx3 ha hb hc
    obtain ⟨an, ad⟩ := a
    obtain ⟨bn, bd⟩ := b
    obtain ⟨cn, cd⟩ := c
    unfold frV at *
    go_enter Tryd.func23, Tryd.ntmps23
    go_wp2_with fail
    have HX := Lib.hid (show Bxs w (((w.alloc (.cells #[.int .i64 an, .int .i64 ad] 23)).alloc (.cells #[.int .i64 bn, .int .i64 bd] 23)).alloc (.cells #[.int .i64 cn, .int .i64 cd] 23)) _ from Bxs.three w ⟨an, ad⟩ ⟨bn, bd⟩ ⟨cn, cd⟩)
    generalize ((w.alloc (.cells #[.int .i64 an, .int .i64 ad] 23)).alloc (.cells #[.int .i64 bn, .int .i64 bd] 23)).alloc (.cells #[.int .i64 cn, .int .i64 cd] 23) = w0 at *
    have hc := HX.out.cells
    simp only [BCells] at hc
    go_wp2_with fail
    clear hc
    refine (P0.out w0).mono ?_
    rintro e9 wc ⟨rfl, hb⟩
    unfold frV
    have hc := (HX.out.keep hb).cells
    simp only [BCells] at hc
    replace HX := Lib.hid (show Bxs w (wc.alloc (.cells #[.int .i64 s, .int .i64 t] 23)) _ from HX.out.step hb ⟨s, t⟩)
    clear hb
    go_wp2_with fail
    clear hc
    generalize wc.alloc (.cells #[.int .i64 s, .int .i64 t] 23) = w1 at *
    generalize wc.heap.size = q1 at *
    refine (P1.out w1).mono ?_
    rintro e9 wc ⟨rfl, hb⟩
    unfold frV
    have hc := (HX.out.keep hb).cells
    simp only [BCells] at hc
    replace HX := Lib.hid (show Bxs w (wc.alloc (.cells #[.int .i64 x1, .int .i64 y1] 23)) _ from HX.out.step hb ⟨x1, y1⟩)
    clear hb
    go_wp2_with fail
    clear hc
    generalize wc.alloc (.cells #[.int .i64 x1, .int .i64 y1] 23) = w2 at *
    generalize wc.heap.size = q2 at *
    refine (P2.out w2).mono ?_
    rintro e9 wc ⟨rfl, hb⟩
    unfold frV
    have hc := (HX.out.keep hb).cells
    simp only [BCells] at hc
    replace HX := Lib.hid (show Bxs w (wc.alloc (.cells #[.int .i64 x2, .int .i64 y2] 23)) _ from HX.out.step hb ⟨x2, y2⟩)
    clear hb
    go_wp2_with fail
    clear hc
    generalize wc.alloc (.cells #[.int .i64 x2, .int .i64 y2] 23) = w3 at *
    generalize wc.heap.size = q3 at *
    refine (P3.out w3).mono ?_
    rintro e9 wc ⟨rfl, hb⟩
    unfold frV
    have hc := (HX.out.keep hb).cells
    simp only [BCells] at hc
    replace HX := Lib.hid (show Bxs w (wc.alloc (.cells #[.int .i64 x3, .int .i64 y3] 23)) _ from HX.out.step hb ⟨x3, y3⟩)
    clear hb
    go_wp2_with fail
    clear hc
    generalize wc.alloc (.cells #[.int .i64 x3, .int .i64 y3] 23) = w4 at *
    generalize wc.heap.size = q4 at *
    refine (P4.out w4).mono ?_
    rintro e9 wc ⟨rfl, hb⟩
    unfold frV
    have hc := (HX.out.keep hb).cells
    simp only [BCells] at hc
    replace HX := Lib.hid (show Bxs w (wc.alloc (.cells #[.int .i64 x1, .int .i64 y1] 23)) _ from HX.out.step hb ⟨x1, y1⟩)
    clear hb
    go_wp2_with fail
    clear hc
    generalize wc.alloc (.cells #[.int .i64 x1, .int .i64 y1] 23) = w5 at *
    generalize wc.heap.size = q5 at *
    go_ret
    exact ⟨rfl, HX.out.below⟩

set_option maxHeartbeats 8000000 in
set_option maxRecDepth 100000 in
theorem law_laws (w : World) (a b c : Fr) (ha : FI a) (hb : FI b) (hc : FI c) (ht : Tb w) : Calls Tryd.prog 5 #[frV a, frV b, frV c] w (YesP w) := by
  have HT := Lib.hid ht
  clear ht
  by_cases hav : FrOk a
  rotate_left
  focus
    have VA := Lib.hid (fun w => valid_no w ha hav)
    clear hav ha hb hc
    obtain ⟨an, ad⟩ := a
    obtain ⟨bn, bd⟩ := b
    obtain ⟨cn, cd⟩ := c
    unfold frV at *
    go_enter Tryd.func5, Tryd.ntmps5
    go_wp2_with fail
    have HX := Lib.hid (show Bxs w (((w.alloc (.cells #[.int .i64 an, .int .i64 ad] 23)).alloc (.cells #[.int .i64 bn, .int .i64 bd] 23)).alloc (.cells #[.int .i64 cn, .int .i64 cd] 23)) _ from Bxs.three w ⟨an, ad⟩ ⟨bn, bd⟩ ⟨cn, cd⟩)
    generalize ((w.alloc (.cells #[.int .i64 an, .int .i64 ad] 23)).alloc (.cells #[.int .i64 bn, .int .i64 bd] 23)).alloc (.cells #[.int .i64 cn, .int .i64 cd] 23) = w0 at *
    have hc := HX.out.cells
    simp only [BCells] at hc
    go_wp2_with fail
    clear hc
    refine (VA.out w0).mono ?_
    rintro e9 w1 ⟨rfl, hb⟩
    have hc := (HX.out.keep hb).cells
    simp only [BCells] at hc
    replace HX := Lib.hid (HX.out.keep hb)
    clear hb
    go_wp2_with fail
    clear hc
    refine (awake_any w1 (HT.out.below HX.out.below)).mono ?_
    rintro e9 wc ⟨rfl, hb⟩
    replace HX := Lib.hid (HX.out.keep hb)
    clear hb
    go_wp2_with fail
    go_ret
    exact ⟨rfl, HX.out.below⟩
  have VA := Lib.hid (fun w => valid_yes w hav)
  by_cases hbv : FrOk b
  rotate_left
  focus
    have VB := Lib.hid (fun w => valid_no w hb hbv)
    clear hbv ha hb hc
    obtain ⟨an, ad⟩ := a
    obtain ⟨bn, bd⟩ := b
    obtain ⟨cn, cd⟩ := c
    unfold frV at *
    go_enter Tryd.func5, Tryd.ntmps5
    go_wp2_with fail
    have HX := Lib.hid (show Bxs w (((w.alloc (.cells #[.int .i64 an, .int .i64 ad] 23)).alloc (.cells #[.int .i64 bn, .int .i64 bd] 23)).alloc (.cells #[.int .i64 cn, .int .i64 cd] 23)) _ from Bxs.three w ⟨an, ad⟩ ⟨bn, bd⟩ ⟨cn, cd⟩)
    generalize ((w.alloc (.cells #[.int .i64 an, .int .i64 ad] 23)).alloc (.cells #[.int .i64 bn, .int .i64 bd] 23)).alloc (.cells #[.int .i64 cn, .int .i64 cd] 23) = w0 at *
    have hc := HX.out.cells
    simp only [BCells] at hc
    go_wp2_with fail
    clear hc
    refine (VA.out w0).mono ?_
    rintro e9 w1 ⟨rfl, hb⟩
    have hc := (HX.out.keep hb).cells
    simp only [BCells] at hc
    replace HX := Lib.hid (HX.out.keep hb)
    clear hb
    go_wp2_with fail
    clear hc
    refine (VB.out w1).mono ?_
    rintro e9 w2 ⟨rfl, hb⟩
    have hc := (HX.out.keep hb).cells
    simp only [BCells] at hc
    replace HX := Lib.hid (HX.out.keep hb)
    clear hb
    go_wp2_with fail
    clear hc
    refine (awake_any w2 (HT.out.below HX.out.below)).mono ?_
    rintro e9 wc ⟨rfl, hb⟩
    replace HX := Lib.hid (HX.out.keep hb)
    clear hb
    go_wp2_with fail
    go_ret
    exact ⟨rfl, HX.out.below⟩
  have VB := Lib.hid (fun w => valid_yes w hbv)
  by_cases hcv : FrOk c
  rotate_left
  focus
    have VC := Lib.hid (fun w => valid_no w hc hcv)
    clear hcv ha hb hc
    obtain ⟨an, ad⟩ := a
    obtain ⟨bn, bd⟩ := b
    obtain ⟨cn, cd⟩ := c
    unfold frV at *
    go_enter Tryd.func5, Tryd.ntmps5
    go_wp2_with fail
    have HX := Lib.hid (show Bxs w (((w.alloc (.cells #[.int .i64 an, .int .i64 ad] 23)).alloc (.cells #[.int .i64 bn, .int .i64 bd] 23)).alloc (.cells #[.int .i64 cn, .int .i64 cd] 23)) _ from Bxs.three w ⟨an, ad⟩ ⟨bn, bd⟩ ⟨cn, cd⟩)
    generalize ((w.alloc (.cells #[.int .i64 an, .int .i64 ad] 23)).alloc (.cells #[.int .i64 bn, .int .i64 bd] 23)).alloc (.cells #[.int .i64 cn, .int .i64 cd] 23) = w0 at *
    have hc := HX.out.cells
    simp only [BCells] at hc
    go_wp2_with fail
    clear hc
    refine (VA.out w0).mono ?_
    rintro e9 w1 ⟨rfl, hb⟩
    have hc := (HX.out.keep hb).cells
    simp only [BCells] at hc
    replace HX := Lib.hid (HX.out.keep hb)
    clear hb
    go_wp2_with fail
    clear hc
    refine (VB.out w1).mono ?_
    rintro e9 w2 ⟨rfl, hb⟩
    have hc := (HX.out.keep hb).cells
    simp only [BCells] at hc
    replace HX := Lib.hid (HX.out.keep hb)
    clear hb
    go_wp2_with fail
    clear hc
    refine (VC.out w2).mono ?_
    rintro e9 w3 ⟨rfl, hb⟩
    have hc := (HX.out.keep hb).cells
    simp only [BCells] at hc
    replace HX := Lib.hid (HX.out.keep hb)
    clear hb
    go_wp2_with fail
    clear hc
    refine (awake_any w3 (HT.out.below HX.out.below)).mono ?_
    rintro e9 wc ⟨rfl, hb⟩
    replace HX := Lib.hid (HX.out.keep hb)
    clear hb
    go_wp2_with fail
    go_ret
    exact ⟨rfl, HX.out.below⟩
  have VC := Lib.hid (fun w => valid_yes w hcv)
  have DI := Lib.hid (fun w => dist_any w a b c hav hbv hcv)
  have P0 := Lib.hid (fun w => add_any w a b ha hb)
  have P1 := Lib.hid (fun w => add_any w b a hb ha)
  rw [addF_comm b a] at P1
  have P3 := Lib.hid (fun w => mul_any w a b ha hb)
  have P4 := Lib.hid (fun w => mul_any w b a hb ha)
  rw [mulF_comm b a] at P4
  obtain ⟨⟨⟨s, t⟩, e0⟩, hx0⟩ : ∃ x, addF a b = x := ⟨_, rfl⟩
  obtain ⟨⟨⟨u, v⟩, e1⟩, hx1⟩ : ∃ x, mulF a b = x := ⟨_, rfl⟩
  rw [hx0] at P0 P1
  rw [hx1] at P3 P4
  by_cases h0 : e0 = 0
  focus
    subst h0
    have hs := ((addF_iff hav hbv).1 hx0).1
    have P2 := Lib.hid (fun w => sub_any w ⟨s, t⟩ b hs.fi hb)
    rw [add_sub hav hbv hx0] at P2
    clear hs
    by_cases h1 : e1 = 0
    rotate_left
    focus
      have t3 : (e1 == 0) = false := beq_eq_false_iff_ne.2 h1
      have t4 : (e1 != 0) = true := bne_iff_ne.2 h1
      clear h1 hx0 hx1 hav hbv hcv ha hb hc
      obtain ⟨an, ad⟩ := a
      obtain ⟨bn, bd⟩ := b
      obtain ⟨cn, cd⟩ := c
      unfold frV at *
      go_enter Tryd.func5, Tryd.ntmps5
      go_wp2_with fail
      have HX := Lib.hid (show Bxs w (((w.alloc (.cells #[.int .i64 an, .int .i64 ad] 23)).alloc (.cells #[.int .i64 bn, .int .i64 bd] 23)).alloc (.cells #[.int .i64 cn, .int .i64 cd] 23)) _ from Bxs.three w ⟨an, ad⟩ ⟨bn, bd⟩ ⟨cn, cd⟩)
      generalize ((w.alloc (.cells #[.int .i64 an, .int .i64 ad] 23)).alloc (.cells #[.int .i64 bn, .int .i64 bd] 23)).alloc (.cells #[.int .i64 cn, .int .i64 cd] 23) = w0 at *
      have hc := HX.out.cells
      simp only [BCells] at hc
      go_wp2_with fail
      clear hc
      refine (VA.out w0).mono ?_
      rintro e9 w1 ⟨rfl, hb⟩
      have hc := (HX.out.keep hb).cells
      simp only [BCells] at hc
      replace HX := Lib.hid (HX.out.keep hb)
      clear hb
      go_wp2_with fail
      clear hc
      refine (VB.out w1).mono ?_
      rintro e9 w2 ⟨rfl, hb⟩
      have hc := (HX.out.keep hb).cells
      simp only [BCells] at hc
      replace HX := Lib.hid (HX.out.keep hb)
      clear hb
      go_wp2_with fail
      clear hc
      refine (VC.out w2).mono ?_
      rintro e9 w3 ⟨rfl, hb⟩
      have hc := (HX.out.keep hb).cells
      simp only [BCells] at hc
      replace HX := Lib.hid (HX.out.keep hb)
      clear hb
      go_wp2_with fail
      clear hc
      refine (P0.out w3).mono ?_
      rintro e9 wc ⟨rfl, hb⟩
      unfold frV
      have hc := (HX.out.keep hb).cells
      simp only [BCells] at hc
      replace HX := Lib.hid (show Bxs w (wc.alloc (.cells #[.int .i64 s, .int .i64 t] 23)) _ from HX.out.step hb ⟨s, t⟩)
      clear hb
      go_wp2_with fail
      clear hc
      generalize wc.alloc (.cells #[.int .i64 s, .int .i64 t] 23) = w4 at *
      generalize wc.heap.size = q4 at *
      refine (P1.out w4).mono ?_
      rintro e9 wc ⟨rfl, hb⟩
      unfold frV
      have hc := (HX.out.keep hb).cells
      simp only [BCells] at hc
      replace HX := Lib.hid (show Bxs w (wc.alloc (.cells #[.int .i64 s, .int .i64 t] 23)) _ from HX.out.step hb ⟨s, t⟩)
      clear hb
      go_wp2_with fail
      clear hc
      generalize wc.alloc (.cells #[.int .i64 s, .int .i64 t] 23) = w5 at *
      generalize wc.heap.size = q5 at *
      refine (P2.out w5).mono ?_
      rintro e9 wc ⟨rfl, hb⟩
      unfold frV
      have hc := (HX.out.keep hb).cells
      simp only [BCells] at hc
      replace HX := Lib.hid (show Bxs w (wc.alloc (.cells #[.int .i64 an, .int .i64 ad] 23)) _ from HX.out.step hb ⟨an, ad⟩)
      clear hb
      go_wp2_with fail
      clear hc
      generalize wc.alloc (.cells #[.int .i64 an, .int .i64 ad] 23) = w6 at *
      generalize wc.heap.size = q6 at *
      refine (P3.out w6).mono ?_
      rintro e9 wc ⟨rfl, hb⟩
      unfold frV
      have hc := (HX.out.keep hb).cells
      simp only [BCells] at hc
      replace HX := Lib.hid (show Bxs w (wc.alloc (.cells #[.int .i64 u, .int .i64 v] 23)) _ from HX.out.step hb ⟨u, v⟩)
      clear hb
      go_wp2_with fail
      clear hc
      generalize wc.alloc (.cells #[.int .i64 u, .int .i64 v] 23) = w7 at *
      generalize wc.heap.size = q7 at *
      refine (P4.out w7).mono ?_
      rintro e9 wc ⟨rfl, hb⟩
      unfold frV
      have hc := (HX.out.keep hb).cells
      simp only [BCells] at hc
      replace HX := Lib.hid (show Bxs w (wc.alloc (.cells #[.int .i64 u, .int .i64 v] 23)) _ from HX.out.step hb ⟨u, v⟩)
      clear hb
      go_wp2_with fail
      clear hc
      generalize wc.alloc (.cells #[.int .i64 u, .int .i64 v] 23) = w8 at *
      generalize wc.heap.size = q8 at *
      refine (DI.out w8).mono ?_
      rintro e9 w9 ⟨rfl, hb⟩
      have hc := (HX.out.keep hb).cells
      simp only [BCells] at hc
      replace HX := Lib.hid (HX.out.keep hb)
      clear hb
      go_wp2_with fail
      clear hc
      refine (awake_any w9 (HT.out.below HX.out.below)).mono ?_
      rintro e9 wc ⟨rfl, hb⟩
      replace HX := Lib.hid (HX.out.keep hb)
      clear hb
      go_wp2_with fail
      go_ret
      exact ⟨rfl, HX.out.below⟩
    subst h1
    by_cases hz : b.num = 0
    focus
      obtain ⟨bn, bd⟩ := b
      simp only at hz
      subst hz
      clear hx0 hx1 hav hbv hcv ha hb hc
      obtain ⟨an, ad⟩ := a
      obtain ⟨cn, cd⟩ := c
      unfold frV at *
      go_enter Tryd.func5, Tryd.ntmps5
      go_wp2_with fail
      have HX := Lib.hid (show Bxs w (((w.alloc (.cells #[.int .i64 an, .int .i64 ad] 23)).alloc (.cells #[.int .i64 0, .int .i64 bd] 23)).alloc (.cells #[.int .i64 cn, .int .i64 cd] 23)) _ from Bxs.three w ⟨an, ad⟩ ⟨0, bd⟩ ⟨cn, cd⟩)
      generalize ((w.alloc (.cells #[.int .i64 an, .int .i64 ad] 23)).alloc (.cells #[.int .i64 0, .int .i64 bd] 23)).alloc (.cells #[.int .i64 cn, .int .i64 cd] 23) = w0 at *
      have hc := HX.out.cells
      simp only [BCells] at hc
      go_wp2_with fail
      clear hc
      refine (VA.out w0).mono ?_
      rintro e9 w1 ⟨rfl, hb⟩
      have hc := (HX.out.keep hb).cells
      simp only [BCells] at hc
      replace HX := Lib.hid (HX.out.keep hb)
      clear hb
      go_wp2_with fail
      clear hc
      refine (VB.out w1).mono ?_
      rintro e9 w2 ⟨rfl, hb⟩
      have hc := (HX.out.keep hb).cells
      simp only [BCells] at hc
      replace HX := Lib.hid (HX.out.keep hb)
      clear hb
      go_wp2_with fail
      clear hc
      refine (VC.out w2).mono ?_
      rintro e9 w3 ⟨rfl, hb⟩
      have hc := (HX.out.keep hb).cells
      simp only [BCells] at hc
      replace HX := Lib.hid (HX.out.keep hb)
      clear hb
      go_wp2_with fail
      clear hc
      refine (P0.out w3).mono ?_
      rintro e9 wc ⟨rfl, hb⟩
      unfold frV
      have hc := (HX.out.keep hb).cells
      simp only [BCells] at hc
      replace HX := Lib.hid (show Bxs w (wc.alloc (.cells #[.int .i64 s, .int .i64 t] 23)) _ from HX.out.step hb ⟨s, t⟩)
      clear hb
      go_wp2_with fail
      clear hc
      generalize wc.alloc (.cells #[.int .i64 s, .int .i64 t] 23) = w4 at *
      generalize wc.heap.size = q4 at *
      refine (P1.out w4).mono ?_
      rintro e9 wc ⟨rfl, hb⟩
      unfold frV
      have hc := (HX.out.keep hb).cells
      simp only [BCells] at hc
      replace HX := Lib.hid (show Bxs w (wc.alloc (.cells #[.int .i64 s, .int .i64 t] 23)) _ from HX.out.step hb ⟨s, t⟩)
      clear hb
      go_wp2_with fail
      clear hc
      generalize wc.alloc (.cells #[.int .i64 s, .int .i64 t] 23) = w5 at *
      generalize wc.heap.size = q5 at *
      refine (P2.out w5).mono ?_
      rintro e9 wc ⟨rfl, hb⟩
      unfold frV
      have hc := (HX.out.keep hb).cells
      simp only [BCells] at hc
      replace HX := Lib.hid (show Bxs w (wc.alloc (.cells #[.int .i64 an, .int .i64 ad] 23)) _ from HX.out.step hb ⟨an, ad⟩)
      clear hb
      go_wp2_with fail
      clear hc
      generalize wc.alloc (.cells #[.int .i64 an, .int .i64 ad] 23) = w6 at *
      generalize wc.heap.size = q6 at *
      refine (P3.out w6).mono ?_
      rintro e9 wc ⟨rfl, hb⟩
      unfold frV
      have hc := (HX.out.keep hb).cells
      simp only [BCells] at hc
      replace HX := Lib.hid (show Bxs w (wc.alloc (.cells #[.int .i64 u, .int .i64 v] 23)) _ from HX.out.step hb ⟨u, v⟩)
      clear hb
      go_wp2_with fail
      clear hc
      generalize wc.alloc (.cells #[.int .i64 u, .int .i64 v] 23) = w7 at *
      generalize wc.heap.size = q7 at *
      refine (P4.out w7).mono ?_
      rintro e9 wc ⟨rfl, hb⟩
      unfold frV
      have hc := (HX.out.keep hb).cells
      simp only [BCells] at hc
      replace HX := Lib.hid (show Bxs w (wc.alloc (.cells #[.int .i64 u, .int .i64 v] 23)) _ from HX.out.step hb ⟨u, v⟩)
      clear hb
      go_wp2_with fail
      clear hc
      generalize wc.alloc (.cells #[.int .i64 u, .int .i64 v] 23) = w8 at *
      generalize wc.heap.size = q8 at *
      refine (DI.out w8).mono ?_
      rintro e9 w9 ⟨rfl, hb⟩
      have hc := (HX.out.keep hb).cells
      simp only [BCells] at hc
      replace HX := Lib.hid (HX.out.keep hb)
      clear hb
      go_wp2_with fail
      clear hc
      refine (awake_any w9 (HT.out.below HX.out.below)).mono ?_
      rintro e9 wc ⟨rfl, hb⟩
      replace HX := Lib.hid (HX.out.keep hb)
      clear hb
      go_wp2_with fail
      go_ret
      exact ⟨rfl, HX.out.below⟩
    have hs := ((mulF_iff hav hbv).1 hx1).1
    have P5 := Lib.hid (fun w => quo_any w ⟨u, v⟩ b hs.fi hb)
    rw [mul_div hav hbv hz hx1] at P5
    have t5 : (b.num == 0) = false := beq_eq_false_iff_ne.2 hz
    have t6 : (b.num != 0) = true := bne_iff_ne.2 hz
    focus
      clear hz hs hx0 hx1 hav hbv hcv ha hb hc
      obtain ⟨an, ad⟩ := a
      obtain ⟨bn, bd⟩ := b
      obtain ⟨cn, cd⟩ := c
      unfold frV at *
      simp only at t5 t6
      go_enter Tryd.func5, Tryd.ntmps5
      go_wp2_with fail
      have HX := Lib.hid (show Bxs w (((w.alloc (.cells #[.int .i64 an, .int .i64 ad] 23)).alloc (.cells #[.int .i64 bn, .int .i64 bd] 23)).alloc (.cells #[.int .i64 cn, .int .i64 cd] 23)) _ from Bxs.three w ⟨an, ad⟩ ⟨bn, bd⟩ ⟨cn, cd⟩)
      generalize ((w.alloc (.cells #[.int .i64 an, .int .i64 ad] 23)).alloc (.cells #[.int .i64 bn, .int .i64 bd] 23)).alloc (.cells #[.int .i64 cn, .int .i64 cd] 23) = w0 at *
      have hc := HX.out.cells
      simp only [BCells] at hc
      go_wp2_with fail
      clear hc
      refine (VA.out w0).mono ?_
      rintro e9 w1 ⟨rfl, hb⟩
      have hc := (HX.out.keep hb).cells
      simp only [BCells] at hc
      replace HX := Lib.hid (HX.out.keep hb)
      clear hb
      go_wp2_with fail
      clear hc
      refine (VB.out w1).mono ?_
      rintro e9 w2 ⟨rfl, hb⟩
      have hc := (HX.out.keep hb).cells
      simp only [BCells] at hc
      replace HX := Lib.hid (HX.out.keep hb)
      clear hb
      go_wp2_with fail
      clear hc
      refine (VC.out w2).mono ?_
      rintro e9 w3 ⟨rfl, hb⟩
      have hc := (HX.out.keep hb).cells
      simp only [BCells] at hc
      replace HX := Lib.hid (HX.out.keep hb)
      clear hb
      go_wp2_with fail
      clear hc
      refine (P0.out w3).mono ?_
      rintro e9 wc ⟨rfl, hb⟩
      unfold frV
      have hc := (HX.out.keep hb).cells
      simp only [BCells] at hc
      replace HX := Lib.hid (show Bxs w (wc.alloc (.cells #[.int .i64 s, .int .i64 t] 23)) _ from HX.out.step hb ⟨s, t⟩)
      clear hb
      go_wp2_with fail
      clear hc
      generalize wc.alloc (.cells #[.int .i64 s, .int .i64 t] 23) = w4 at *
      generalize wc.heap.size = q4 at *
      refine (P1.out w4).mono ?_
      rintro e9 wc ⟨rfl, hb⟩
      unfold frV
      have hc := (HX.out.keep hb).cells
      simp only [BCells] at hc
      replace HX := Lib.hid (show Bxs w (wc.alloc (.cells #[.int .i64 s, .int .i64 t] 23)) _ from HX.out.step hb ⟨s, t⟩)
      clear hb
      go_wp2_with fail
      clear hc
      generalize wc.alloc (.cells #[.int .i64 s, .int .i64 t] 23) = w5 at *
      generalize wc.heap.size = q5 at *
      refine (P2.out w5).mono ?_
      rintro e9 wc ⟨rfl, hb⟩
      unfold frV
      have hc := (HX.out.keep hb).cells
      simp only [BCells] at hc
      replace HX := Lib.hid (show Bxs w (wc.alloc (.cells #[.int .i64 an, .int .i64 ad] 23)) _ from HX.out.step hb ⟨an, ad⟩)
      clear hb
      go_wp2_with fail
      clear hc
      generalize wc.alloc (.cells #[.int .i64 an, .int .i64 ad] 23) = w6 at *
      generalize wc.heap.size = q6 at *
      refine (P3.out w6).mono ?_
      rintro e9 wc ⟨rfl, hb⟩
      unfold frV
      have hc := (HX.out.keep hb).cells
      simp only [BCells] at hc
      replace HX := Lib.hid (show Bxs w (wc.alloc (.cells #[.int .i64 u, .int .i64 v] 23)) _ from HX.out.step hb ⟨u, v⟩)
      clear hb
      go_wp2_with fail
      clear hc
      generalize wc.alloc (.cells #[.int .i64 u, .int .i64 v] 23) = w7 at *
      generalize wc.heap.size = q7 at *
      refine (P4.out w7).mono ?_
      rintro e9 wc ⟨rfl, hb⟩
      unfold frV
      have hc := (HX.out.keep hb).cells
      simp only [BCells] at hc
      replace HX := Lib.hid (show Bxs w (wc.alloc (.cells #[.int .i64 u, .int .i64 v] 23)) _ from HX.out.step hb ⟨u, v⟩)
      clear hb
      go_wp2_with fail
      clear hc
      generalize wc.alloc (.cells #[.int .i64 u, .int .i64 v] 23) = w8 at *
      generalize wc.heap.size = q8 at *
      refine (P5.out w8).mono ?_
      rintro e9 wc ⟨rfl, hb⟩
      unfold frV
      have hc := (HX.out.keep hb).cells
      simp only [BCells] at hc
      replace HX := Lib.hid (show Bxs w (wc.alloc (.cells #[.int .i64 an, .int .i64 ad] 23)) _ from HX.out.step hb ⟨an, ad⟩)
      clear hb
      go_wp2_with fail
      clear hc
      generalize wc.alloc (.cells #[.int .i64 an, .int .i64 ad] 23) = w9 at *
      generalize wc.heap.size = q9 at *
      refine (DI.out w9).mono ?_
      rintro e9 w10 ⟨rfl, hb⟩
      have hc := (HX.out.keep hb).cells
      simp only [BCells] at hc
      replace HX := Lib.hid (HX.out.keep hb)
      clear hb
      go_wp2_with fail
      clear hc
      refine (awake_any w10 (HT.out.below HX.out.below)).mono ?_
      rintro e9 wc ⟨rfl, hb⟩
      replace HX := Lib.hid (HX.out.keep hb)
      clear hb
      go_wp2_with fail
      go_ret
      exact ⟨rfl, HX.out.below⟩
  focus
    have t1 : (e0 == 0) = false := beq_eq_false_iff_ne.2 h0
    have t2 : (e0 != 0) = true := bne_iff_ne.2 h0
    clear h0
    by_cases h1 : e1 = 0
    rotate_left
    focus
      have t3 : (e1 == 0) = false := beq_eq_false_iff_ne.2 h1
      have t4 : (e1 != 0) = true := bne_iff_ne.2 h1
      clear h1 hx0 hx1 hav hbv hcv ha hb hc
      obtain ⟨an, ad⟩ := a
      obtain ⟨bn, bd⟩ := b
      obtain ⟨cn, cd⟩ := c
      unfold frV at *
      go_enter Tryd.func5, Tryd.ntmps5
      go_wp2_with fail
      have HX := Lib.hid (show Bxs w (((w.alloc (.cells #[.int .i64 an, .int .i64 ad] 23)).alloc (.cells #[.int .i64 bn, .int .i64 bd] 23)).alloc (.cells #[.int .i64 cn, .int .i64 cd] 23)) _ from Bxs.three w ⟨an, ad⟩ ⟨bn, bd⟩ ⟨cn, cd⟩)
      generalize ((w.alloc (.cells #[.int .i64 an, .int .i64 ad] 23)).alloc (.cells #[.int .i64 bn, .int .i64 bd] 23)).alloc (.cells #[.int .i64 cn, .int .i64 cd] 23) = w0 at *
      have hc := HX.out.cells
      simp only [BCells] at hc
      go_wp2_with fail
      clear hc
      refine (VA.out w0).mono ?_
      rintro e9 w1 ⟨rfl, hb⟩
      have hc := (HX.out.keep hb).cells
      simp only [BCells] at hc
      replace HX := Lib.hid (HX.out.keep hb)
      clear hb
      go_wp2_with fail
      clear hc
      refine (VB.out w1).mono ?_
      rintro e9 w2 ⟨rfl, hb⟩
      have hc := (HX.out.keep hb).cells
      simp only [BCells] at hc
      replace HX := Lib.hid (HX.out.keep hb)
      clear hb
      go_wp2_with fail
      clear hc
      refine (VC.out w2).mono ?_
      rintro e9 w3 ⟨rfl, hb⟩
      have hc := (HX.out.keep hb).cells
      simp only [BCells] at hc
      replace HX := Lib.hid (HX.out.keep hb)
      clear hb
      go_wp2_with fail
      clear hc
      refine (P0.out w3).mono ?_
      rintro e9 wc ⟨rfl, hb⟩
      unfold frV
      have hc := (HX.out.keep hb).cells
      simp only [BCells] at hc
      replace HX := Lib.hid (show Bxs w (wc.alloc (.cells #[.int .i64 s, .int .i64 t] 23)) _ from HX.out.step hb ⟨s, t⟩)
      clear hb
      go_wp2_with fail
      clear hc
      generalize wc.alloc (.cells #[.int .i64 s, .int .i64 t] 23) = w4 at *
      generalize wc.heap.size = q4 at *
      refine (P1.out w4).mono ?_
      rintro e9 wc ⟨rfl, hb⟩
      unfold frV
      have hc := (HX.out.keep hb).cells
      simp only [BCells] at hc
      replace HX := Lib.hid (show Bxs w (wc.alloc (.cells #[.int .i64 s, .int .i64 t] 23)) _ from HX.out.step hb ⟨s, t⟩)
      clear hb
      go_wp2_with fail
      clear hc
      generalize wc.alloc (.cells #[.int .i64 s, .int .i64 t] 23) = w5 at *
      generalize wc.heap.size = q5 at *
      refine (P3.out w5).mono ?_
      rintro e9 wc ⟨rfl, hb⟩
      unfold frV
      have hc := (HX.out.keep hb).cells
      simp only [BCells] at hc
      replace HX := Lib.hid (show Bxs w (wc.alloc (.cells #[.int .i64 u, .int .i64 v] 23)) _ from HX.out.step hb ⟨u, v⟩)
      clear hb
      go_wp2_with fail
      clear hc
      generalize wc.alloc (.cells #[.int .i64 u, .int .i64 v] 23) = w6 at *
      generalize wc.heap.size = q6 at *
      refine (P4.out w6).mono ?_
      rintro e9 wc ⟨rfl, hb⟩
      unfold frV
      have hc := (HX.out.keep hb).cells
      simp only [BCells] at hc
      replace HX := Lib.hid (show Bxs w (wc.alloc (.cells #[.int .i64 u, .int .i64 v] 23)) _ from HX.out.step hb ⟨u, v⟩)
      clear hb
      go_wp2_with fail
      clear hc
      generalize wc.alloc (.cells #[.int .i64 u, .int .i64 v] 23) = w7 at *
      generalize wc.heap.size = q7 at *
      refine (DI.out w7).mono ?_
      rintro e9 w8 ⟨rfl, hb⟩
      have hc := (HX.out.keep hb).cells
      simp only [BCells] at hc
      replace HX := Lib.hid (HX.out.keep hb)
      clear hb
      go_wp2_with fail
      clear hc
      refine (awake_any w8 (HT.out.below HX.out.below)).mono ?_
      rintro e9 wc ⟨rfl, hb⟩
      replace HX := Lib.hid (HX.out.keep hb)
      clear hb
      go_wp2_with fail
      go_ret
      exact ⟨rfl, HX.out.below⟩
    subst h1
    by_cases hz : b.num = 0
    focus
      obtain ⟨bn, bd⟩ := b
      simp only at hz
      subst hz
      clear hx0 hx1 hav hbv hcv ha hb hc
      obtain ⟨an, ad⟩ := a
      obtain ⟨cn, cd⟩ := c
      unfold frV at *
      go_enter Tryd.func5, Tryd.ntmps5
      go_wp2_with fail
      have HX := Lib.hid (show Bxs w (((w.alloc (.cells #[.int .i64 an, .int .i64 ad] 23)).alloc (.cells #[.int .i64 0, .int .i64 bd] 23)).alloc (.cells #[.int .i64 cn, .int .i64 cd] 23)) _ from Bxs.three w ⟨an, ad⟩ ⟨0, bd⟩ ⟨cn, cd⟩)
      generalize ((w.alloc (.cells #[.int .i64 an, .int .i64 ad] 23)).alloc (.cells #[.int .i64 0, .int .i64 bd] 23)).alloc (.cells #[.int .i64 cn, .int .i64 cd] 23) = w0 at *
      have hc := HX.out.cells
      simp only [BCells] at hc
      go_wp2_with fail
      clear hc
      refine (VA.out w0).mono ?_
      rintro e9 w1 ⟨rfl, hb⟩
      have hc := (HX.out.keep hb).cells
      simp only [BCells] at hc
      replace HX := Lib.hid (HX.out.keep hb)
      clear hb
      go_wp2_with fail
      clear hc
      refine (VB.out w1).mono ?_
      rintro e9 w2 ⟨rfl, hb⟩
      have hc := (HX.out.keep hb).cells
      simp only [BCells] at hc
      replace HX := Lib.hid (HX.out.keep hb)
      clear hb
      go_wp2_with fail
      clear hc
      refine (VC.out w2).mono ?_
      rintro e9 w3 ⟨rfl, hb⟩
      have hc := (HX.out.keep hb).cells
      simp only [BCells] at hc
      replace HX := Lib.hid (HX.out.keep hb)
      clear hb
      go_wp2_with fail
      clear hc
      refine (P0.out w3).mono ?_
      rintro e9 wc ⟨rfl, hb⟩
      unfold frV
      have hc := (HX.out.keep hb).cells
      simp only [BCells] at hc
      replace HX := Lib.hid (show Bxs w (wc.alloc (.cells #[.int .i64 s, .int .i64 t] 23)) _ from HX.out.step hb ⟨s, t⟩)
      clear hb
      go_wp2_with fail
      clear hc
      generalize wc.alloc (.cells #[.int .i64 s, .int .i64 t] 23) = w4 at *
      generalize wc.heap.size = q4 at *
      refine (P1.out w4).mono ?_
      rintro e9 wc ⟨rfl, hb⟩
      unfold frV
      have hc := (HX.out.keep hb).cells
      simp only [BCells] at hc
      replace HX := Lib.hid (show Bxs w (wc.alloc (.cells #[.int .i64 s, .int .i64 t] 23)) _ from HX.out.step hb ⟨s, t⟩)
      clear hb
      go_wp2_with fail
      clear hc
      generalize wc.alloc (.cells #[.int .i64 s, .int .i64 t] 23) = w5 at *
      generalize wc.heap.size = q5 at *
      refine (P3.out w5).mono ?_
      rintro e9 wc ⟨rfl, hb⟩
      unfold frV
      have hc := (HX.out.keep hb).cells
      simp only [BCells] at hc
      replace HX := Lib.hid (show Bxs w (wc.alloc (.cells #[.int .i64 u, .int .i64 v] 23)) _ from HX.out.step hb ⟨u, v⟩)
      clear hb
      go_wp2_with fail
      clear hc
      generalize wc.alloc (.cells #[.int .i64 u, .int .i64 v] 23) = w6 at *
      generalize wc.heap.size = q6 at *
      refine (P4.out w6).mono ?_
      rintro e9 wc ⟨rfl, hb⟩
      unfold frV
      have hc := (HX.out.keep hb).cells
      simp only [BCells] at hc
      replace HX := Lib.hid (show Bxs w (wc.alloc (.cells #[.int .i64 u, .int .i64 v] 23)) _ from HX.out.step hb ⟨u, v⟩)
      clear hb
      go_wp2_with fail
      clear hc
      generalize wc.alloc (.cells #[.int .i64 u, .int .i64 v] 23) = w7 at *
      generalize wc.heap.size = q7 at *
      refine (DI.out w7).mono ?_
      rintro e9 w8 ⟨rfl, hb⟩
      have hc := (HX.out.keep hb).cells
      simp only [BCells] at hc
      replace HX := Lib.hid (HX.out.keep hb)
      clear hb
      go_wp2_with fail
      clear hc
      refine (awake_any w8 (HT.out.below HX.out.below)).mono ?_
      rintro e9 wc ⟨rfl, hb⟩
      replace HX := Lib.hid (HX.out.keep hb)
      clear hb
      go_wp2_with fail
      go_ret
      exact ⟨rfl, HX.out.below⟩
    have hs := ((mulF_iff hav hbv).1 hx1).1
    have P5 := Lib.hid (fun w => quo_any w ⟨u, v⟩ b hs.fi hb)
    rw [mul_div hav hbv hz hx1] at P5
    have t5 : (b.num == 0) = false := beq_eq_false_iff_ne.2 hz
    have t6 : (b.num != 0) = true := bne_iff_ne.2 hz
    focus
      clear hz hs hx0 hx1 hav hbv hcv ha hb hc
      obtain ⟨an, ad⟩ := a
      obtain ⟨bn, bd⟩ := b
      obtain ⟨cn, cd⟩ := c
      unfold frV at *
      simp only at t5 t6
      go_enter Tryd.func5, Tryd.ntmps5
      go_wp2_with fail
      have HX := Lib.hid (show Bxs w (((w.alloc (.cells #[.int .i64 an, .int .i64 ad] 23)).alloc (.cells #[.int .i64 bn, .int .i64 bd] 23)).alloc (.cells #[.int .i64 cn, .int .i64 cd] 23)) _ from Bxs.three w ⟨an, ad⟩ ⟨bn, bd⟩ ⟨cn, cd⟩)
      generalize ((w.alloc (.cells #[.int .i64 an, .int .i64 ad] 23)).alloc (.cells #[.int .i64 bn, .int .i64 bd] 23)).alloc (.cells #[.int .i64 cn, .int .i64 cd] 23) = w0 at *
      have hc := HX.out.cells
      simp only [BCells] at hc
      go_wp2_with fail
      clear hc
      refine (VA.out w0).mono ?_
      rintro e9 w1 ⟨rfl, hb⟩
      have hc := (HX.out.keep hb).cells
      simp only [BCells] at hc
      replace HX := Lib.hid (HX.out.keep hb)
      clear hb
      go_wp2_with fail
      clear hc
      refine (VB.out w1).mono ?_
      rintro e9 w2 ⟨rfl, hb⟩
      have hc := (HX.out.keep hb).cells
      simp only [BCells] at hc
      replace HX := Lib.hid (HX.out.keep hb)
      clear hb
      go_wp2_with fail
      clear hc
      refine (VC.out w2).mono ?_
      rintro e9 w3 ⟨rfl, hb⟩
      have hc := (HX.out.keep hb).cells
      simp only [BCells] at hc
      replace HX := Lib.hid (HX.out.keep hb)
      clear hb
      go_wp2_with fail
      clear hc
      refine (P0.out w3).mono ?_
      rintro e9 wc ⟨rfl, hb⟩
      unfold frV
      have hc := (HX.out.keep hb).cells
      simp only [BCells] at hc
      replace HX := Lib.hid (show Bxs w (wc.alloc (.cells #[.int .i64 s, .int .i64 t] 23)) _ from HX.out.step hb ⟨s, t⟩)
      clear hb
      go_wp2_with fail
      clear hc
      generalize wc.alloc (.cells #[.int .i64 s, .int .i64 t] 23) = w4 at *
      generalize wc.heap.size = q4 at *
      refine (P1.out w4).mono ?_
      rintro e9 wc ⟨rfl, hb⟩
      unfold frV
      have hc := (HX.out.keep hb).cells
      simp only [BCells] at hc
      replace HX := Lib.hid (show Bxs w (wc.alloc (.cells #[.int .i64 s, .int .i64 t] 23)) _ from HX.out.step hb ⟨s, t⟩)
      clear hb
      go_wp2_with fail
      clear hc
      generalize wc.alloc (.cells #[.int .i64 s, .int .i64 t] 23) = w5 at *
      generalize wc.heap.size = q5 at *
      refine (P3.out w5).mono ?_
      rintro e9 wc ⟨rfl, hb⟩
      unfold frV
      have hc := (HX.out.keep hb).cells
      simp only [BCells] at hc
      replace HX := Lib.hid (show Bxs w (wc.alloc (.cells #[.int .i64 u, .int .i64 v] 23)) _ from HX.out.step hb ⟨u, v⟩)
      clear hb
      go_wp2_with fail
      clear hc
      generalize wc.alloc (.cells #[.int .i64 u, .int .i64 v] 23) = w6 at *
      generalize wc.heap.size = q6 at *
      refine (P4.out w6).mono ?_
      rintro e9 wc ⟨rfl, hb⟩
      unfold frV
      have hc := (HX.out.keep hb).cells
      simp only [BCells] at hc
      replace HX := Lib.hid (show Bxs w (wc.alloc (.cells #[.int .i64 u, .int .i64 v] 23)) _ from HX.out.step hb ⟨u, v⟩)
      clear hb
      go_wp2_with fail
      clear hc
      generalize wc.alloc (.cells #[.int .i64 u, .int .i64 v] 23) = w7 at *
      generalize wc.heap.size = q7 at *
      refine (P5.out w7).mono ?_
      rintro e9 wc ⟨rfl, hb⟩
      unfold frV
      have hc := (HX.out.keep hb).cells
      simp only [BCells] at hc
      replace HX := Lib.hid (show Bxs w (wc.alloc (.cells #[.int .i64 an, .int .i64 ad] 23)) _ from HX.out.step hb ⟨an, ad⟩)
      clear hb
      go_wp2_with fail
      clear hc
      generalize wc.alloc (.cells #[.int .i64 an, .int .i64 ad] 23) = w8 at *
      generalize wc.heap.size = q8 at *
      refine (DI.out w8).mono ?_
      rintro e9 w9 ⟨rfl, hb⟩
      have hc := (HX.out.keep hb).cells
      simp only [BCells] at hc
      replace HX := Lib.hid (HX.out.keep hb)
      clear hb
      go_wp2_with fail
      clear hc
      refine (awake_any w9 (HT.out.below HX.out.below)).mono ?_
      rintro e9 wc ⟨rfl, hb⟩
      replace HX := Lib.hid (HX.out.keep hb)
      clear hb
      go_wp2_with fail
      go_ret
      exact ⟨rfl, HX.out.below⟩
end Go.Proofs.YtjobncfjebkcdaaDoor
