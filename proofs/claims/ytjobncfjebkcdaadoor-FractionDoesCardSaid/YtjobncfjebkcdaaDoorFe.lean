/- The walk of the law FractionDoes. -/
import Derived.Test.YtjobncfjebkcdaaDoorFb
namespace Go.Proofs.YtjobncfjebkcdaaDoor
open Go Go.RowKit
set_option linter.unusedSimpArgs false

set_option maxHeartbeats 8000000 in
set_option maxRecDepth 100000 in
theorem law_does (w : World) (a b : Fr) (ha : FI a) (hb : FI b) (ht : Tb w) : Calls Tryd.prog 4 #[frV a, frV b] w (YesP w) := by
  have HT := Lib.hid ht
  clear ht
  have P0 := Lib.hid (fun w => add_any w a b ha hb)
  have R0 := Lib.hid (fun w => radd_any w a b ha hb)
  have P1 := Lib.hid (fun w => sub_any w a b ha hb)
  have R1 := Lib.hid (fun w => rsub_any w a b ha hb)
  have P2 := Lib.hid (fun w => mul_any w a b ha hb)
  have R2 := Lib.hid (fun w => rmul_any w a b ha hb)
  have P3 := Lib.hid (fun w => quo_any w a b ha hb)
  have R3 := Lib.hid (fun w => rquo_any w a b ha hb)
  obtain ⟨⟨⟨x0, y0⟩, e0⟩, hx⟩ : ∃ x, addF a b = x := ⟨_, rfl⟩
  rw [hx] at P0 R0
  clear hx
  obtain ⟨⟨⟨x1, y1⟩, e1⟩, hx⟩ : ∃ x, subF a b = x := ⟨_, rfl⟩
  rw [hx] at P1 R1
  clear hx
  obtain ⟨⟨⟨x2, y2⟩, e2⟩, hx⟩ : ∃ x, mulF a b = x := ⟨_, rfl⟩
  rw [hx] at P2 R2
  clear hx
  obtain ⟨⟨⟨x3, y3⟩, e3⟩, hx⟩ : ∃ x, divF a b = x := ⟨_, rfl⟩
  rw [hx] at P3 R3
  clear hx
  clear ha hb
  obtain ⟨an, ad⟩ := a
  obtain ⟨bn, bd⟩ := b
  unfold frV at *
  go_enter Tryd.func4, Tryd.ntmps4
  go_wp2_with fail
  have HX := Lib.hid (show Bxs w ((w.alloc (.cells #[.int .i64 an, .int .i64 ad] 23)).alloc (.cells #[.int .i64 bn, .int .i64 bd] 23)) _ from Bxs.two w ⟨an, ad⟩ ⟨bn, bd⟩)
  generalize (w.alloc (.cells #[.int .i64 an, .int .i64 ad] 23)).alloc (.cells #[.int .i64 bn, .int .i64 bd] 23) = w0 at *
  refine (P0.out w0).mono ?_
  rintro e9 wc ⟨rfl, hb⟩
  unfold frV
  have hc := (HX.out.keep hb).cells
  simp only [BCells] at hc
  replace HX := Lib.hid (show Bxs w (wc.alloc (.cells #[.int .i64 x0, .int .i64 y0] 23)) _ from HX.out.step hb ⟨x0, y0⟩)
  clear hb
  go_wp2_with fail
  clear hc
  generalize wc.alloc (.cells #[.int .i64 x0, .int .i64 y0] 23) = w1 at *
  generalize wc.heap.size = q1 at *
  refine (P1.out w1).mono ?_
  rintro e9 wc ⟨rfl, hb⟩
  unfold frV
  have hc := (HX.out.keep hb).cells
  simp only [BCells] at hc
  replace HX := Lib.hid (show Bxs w (wc.alloc (.cells #[.int .i64 x1, .int .i64 y1] 23)) _ from HX.out.step hb ⟨x1, y1⟩)
  clear hb
  go_wp2_with fail
  clear hc
  generalize wc.alloc (.cells #[.int .i64 x1, .int .i64 y1] 23) = w2 at *
  generalize wc.heap.size = q2 at *
  refine (P2.out w2).mono ?_
  rintro e9 wc ⟨rfl, hb⟩
  unfold frV
  have hc := (HX.out.keep hb).cells
  simp only [BCells] at hc
  replace HX := Lib.hid (show Bxs w (wc.alloc (.cells #[.int .i64 x2, .int .i64 y2] 23)) _ from HX.out.step hb ⟨x2, y2⟩)
  clear hb
  go_wp2_with fail
  clear hc
  generalize wc.alloc (.cells #[.int .i64 x2, .int .i64 y2] 23) = w3 at *
  generalize wc.heap.size = q3 at *
  refine (P3.out w3).mono ?_
  rintro e9 wc ⟨rfl, hb⟩
  unfold frV
  have hc := (HX.out.keep hb).cells
  simp only [BCells] at hc
  replace HX := Lib.hid (show Bxs w (wc.alloc (.cells #[.int .i64 x3, .int .i64 y3] 23)) _ from HX.out.step hb ⟨x3, y3⟩)
  clear hb
  go_wp2_with fail
  clear hc
  generalize wc.alloc (.cells #[.int .i64 x3, .int .i64 y3] 23) = w4 at *
  generalize wc.heap.size = q4 at *
  refine (R0.out w4).mono ?_
  rintro e9 wc ⟨rfl, hb⟩
  unfold frV
  have hc := (HX.out.keep hb).cells
  simp only [BCells] at hc
  replace HX := Lib.hid (show Bxs w (wc.alloc (.cells #[.int .i64 x0, .int .i64 y0] 23)) _ from HX.out.step hb ⟨x0, y0⟩)
  clear hb
  go_wp2_with fail
  clear hc
  generalize wc.alloc (.cells #[.int .i64 x0, .int .i64 y0] 23) = w5 at *
  generalize wc.heap.size = q5 at *
  refine (R1.out w5).mono ?_
  rintro e9 wc ⟨rfl, hb⟩
  unfold frV
  have hc := (HX.out.keep hb).cells
  simp only [BCells] at hc
  replace HX := Lib.hid (show Bxs w (wc.alloc (.cells #[.int .i64 x1, .int .i64 y1] 23)) _ from HX.out.step hb ⟨x1, y1⟩)
  clear hb
  go_wp2_with fail
  clear hc
  generalize wc.alloc (.cells #[.int .i64 x1, .int .i64 y1] 23) = w6 at *
  generalize wc.heap.size = q6 at *
  refine (R2.out w6).mono ?_
  rintro e9 wc ⟨rfl, hb⟩
  unfold frV
  have hc := (HX.out.keep hb).cells
  simp only [BCells] at hc
  replace HX := Lib.hid (show Bxs w (wc.alloc (.cells #[.int .i64 x2, .int .i64 y2] 23)) _ from HX.out.step hb ⟨x2, y2⟩)
  clear hb
  go_wp2_with fail
  clear hc
  generalize wc.alloc (.cells #[.int .i64 x2, .int .i64 y2] 23) = w7 at *
  generalize wc.heap.size = q7 at *
  refine (R3.out w7).mono ?_
  rintro e9 wc ⟨rfl, hb⟩
  unfold frV
  have hc := (HX.out.keep hb).cells
  simp only [BCells] at hc
  replace HX := Lib.hid (show Bxs w (wc.alloc (.cells #[.int .i64 x3, .int .i64 y3] 23)) _ from HX.out.step hb ⟨x3, y3⟩)
  clear hb
  go_wp2_with fail
  clear hc
  generalize wc.alloc (.cells #[.int .i64 x3, .int .i64 y3] 23) = w8 at *
  generalize wc.heap.size = q8 at *
  refine (awake_any w8 (HT.out.below HX.out.below)).mono ?_
  rintro e9 wc ⟨rfl, hb⟩
  have HE := Lib.hid (HX.out.keep hb).below
  clear hb
  go_wp2_with fail
  go_ret
  exact ⟨rfl, HE.out⟩
end Go.Proofs.YtjobncfjebkcdaaDoor
