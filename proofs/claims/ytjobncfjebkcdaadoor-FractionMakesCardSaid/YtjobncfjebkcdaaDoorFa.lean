/- The walk of the law FractionMakes. -/
import Derived.Test.YtjobncfjebkcdaaDoorFw
import Derived.Test.YtjobncfjebkcdaaDoorHd
namespace Go.Proofs.YtjobncfjebkcdaaDoor
open Go Go.RowKit
set_option linter.unusedSimpArgs false

structure Six (w0 x : World) (q1 q2 q3 : Nat) (a b c d n m : Int) : Prop where
  a0 : x.cell? ⟨q1, 0, none⟩ = some (.int .i64 a)
  a1 : x.cell? ⟨q1, 1, none⟩ = some (.int .i64 b)
  b0 : x.cell? ⟨q2, 0, none⟩ = some (.int .i64 c)
  b1 : x.cell? ⟨q2, 1, none⟩ = some (.int .i64 d)
  c0 : x.cell? ⟨q3, 0, none⟩ = some (.int .i64 n)
  c1 : x.cell? ⟨q3, 1, none⟩ = some (.int .i64 m)
theorem cell_keep {w0 x : World} {q o : Nat} {v : Value} (h : w0.cell? ⟨q, o, none⟩ = some v) (hl : q < w0.heap.size) (hb : Below w0.heap.size w0 x) : x.cell? ⟨q, o, none⟩ = some v :=
  (hb.cell (p := ⟨q, o, none⟩) hl).trans h
theorem keep_six {w0 x : World} {q1 q2 q3 : Nat} {a0 a1 b0 b1 c0 c1 : Value} (h : w0.cell? ⟨q1, 0, none⟩ = some a0 ∧ w0.cell? ⟨q1, 1, none⟩ = some a1 ∧ w0.cell? ⟨q2, 0, none⟩ = some b0 ∧ w0.cell? ⟨q2, 1, none⟩ = some b1 ∧ w0.cell? ⟨q3, 0, none⟩ = some c0 ∧ w0.cell? ⟨q3, 1, none⟩ = some c1 ∧ q1 < w0.heap.size ∧ q2 < w0.heap.size ∧ q3 < w0.heap.size)
    (hb : Below w0.heap.size w0 x) : x.cell? ⟨q1, 0, none⟩ = some a0 ∧ x.cell? ⟨q1, 1, none⟩ = some a1 ∧ x.cell? ⟨q2, 0, none⟩ = some b0 ∧ x.cell? ⟨q2, 1, none⟩ = some b1 ∧ x.cell? ⟨q3, 0, none⟩ = some c0 ∧ x.cell? ⟨q3, 1, none⟩ = some c1 ∧ Hid (Below w0.heap.size w0 x) := by
  obtain ⟨h1, h2, h3, h4, h5, h6, l1, l2, l3⟩ := h
  exact ⟨cell_keep h1 l1 hb, cell_keep h2 l1 hb, cell_keep h3 l2 hb, cell_keep h4 l2 hb, cell_keep h5 l3 hb, cell_keep h6 l3 hb, hb⟩
theorem last_six {A B C D E F G : Prop} (h : A ∧ B ∧ C ∧ D ∧ E ∧ F ∧ Hid G) : G := h.2.2.2.2.2.2.out

set_option maxHeartbeats 8000000 in
set_option maxRecDepth 100000 in
theorem law_makes (w : World) (n d : Int) (hn : I64 n) (hd : I64 d) (ht : Tb w) : Calls Tryd.prog 3 #[.int .i64 n, .int .i64 d] w (YesP w) := by
  have HT := Lib.hid ht
  have HB0 := Lib.hid (Below.refl w.heap.size w)
  have HM := Lib.hid (fun w => make_any w n d hn hd)
  have HRM := Lib.hid (fun w => rmake_any w n d hn hd)
  have HVR := Lib.hid (fun w => valid_any w ⟨n, d⟩ ⟨hn, hd⟩)
  have HRVR := Lib.hid (fun w => rvalid_any w ⟨n, d⟩ ⟨hn, hd⟩)
  clear ht
  obtain ⟨⟨⟨a, b⟩, e⟩, hx⟩ : ∃ x, mkF n d = x := ⟨_, rfl⟩
  have hE : e = 0 ∨ e = 12 ∨ e = 13 := by
    by_cases hd0 : d = 0
    · rw [hd0, mkF_zero] at hx; simp at hx; omega
    · rcases mkF_cases n d hd0 with h | ⟨f, h⟩ <;> rw [h] at hx <;> simp at hx <;> omega
  have hok : e = 0 → FrOk ⟨a, b⟩ := fun he => mkF_ok (by rw [hx, he])
  rw [hx] at HM HRM
  have HOK := Lib.hid hok
  clear hx hn hd hok
  unfold frV at HVR HRVR
  go_enter Tryd.func3, Tryd.ntmps3
  go_wp2_with fail
  refine (HM.out w).mono ?_
  rintro e9 wc ⟨rfl, hb⟩
  unfold frV
  have hs := step_block HB0.out hb (.cells #[.int .i64 a, .int .i64 b] 23)
  have HB1 := Lib.hid hs.1
  have H_a := Lib.hid hs.2.1
  clear hs hb HB0
  go_wp2_with fail
  generalize wc.alloc (.cells #[.int .i64 a, .int .i64 b] 23) = w1 at *
  generalize wc.heap.size = q1 at *
  refine (HRM.out w1).mono ?_
  rintro e9 wd ⟨rfl, hb⟩
  unfold frV
  have hs := step_block HB1.out hb (.cells #[.int .i64 a, .int .i64 b] 23)
  have hs2 := step_block hs.1 (Below.refl _ _) (.cells #[.int .i64 n, .int .i64 d] 23)
  have HB2 := Lib.hid hs2.1
  have H_b := Lib.hid (hs2.2.2.2 _ _ hs.2.1).1
  have H_a2 := Lib.hid (hs2.2.2.2 _ _ (hs.2.2.2 _ _ H_a.out).1).1
  have H_c := Lib.hid hs2.2.1
  clear hs hs2 hb HB1 H_a
  go_wp2_with fail
  generalize (wd.alloc (.cells #[.int .i64 a, .int .i64 b] 23)).alloc (.cells #[.int .i64 n, .int .i64 d] 23) = w2 at *
  simp only [World.size_alloc] at *
  generalize wd.heap.size = q2 at *
  have hc := Lib.hid (show _ ∧ _ ∧ _ ∧ _ ∧ _ ∧ _ ∧ _ ∧ _ ∧ _ from ⟨(cells_two H_a2.out).1, (cells_two H_a2.out).2.1, (cells_two H_b.out).1, (cells_two H_b.out).2.1, (cells_two H_c.out).1, (cells_two H_c.out).2.1, heap_lt H_a2.out, heap_lt H_b.out, heap_lt H_c.out⟩)
  clear H_a2 H_b H_c
  have HI := Lib.hid (Below.refl w2.heap.size w2)
  have HCA := Lib.hid (fun (y : World) (hy : Below w2.heap.size w2 y) => awake_any y ((HT.out.below HB2.out).below hy))
  rcases hE with he | he
  focus
    subst he
    have HVA := Lib.hid (fun w => valid_any w ⟨a, b⟩ (HOK.out rfl).fi)
    have HOA := Lib.hid (show decide (FrOk ⟨a, b⟩) = true from by simp [HOK.out rfl])
    rw [HOA.out] at HVA
    unfold frV at HVA
    clear HM HRM HOK HOA
    generalize decide (FrOk ⟨n, d⟩) = ok at *
    go_region_held3 (fun y => y.cell? ⟨q1, 0, none⟩ = some (.int .i64 a) ∧ y.cell? ⟨q1, 1, none⟩ = some (.int .i64 b) ∧ y.cell? ⟨q2, 0, none⟩ = some (.int .i64 a) ∧ y.cell? ⟨q2, 1, none⟩ = some (.int .i64 b) ∧ y.cell? ⟨q2 + 1, 0, none⟩ = some (.int .i64 n) ∧ y.cell? ⟨q2 + 1, 1, none⟩ = some (.int .i64 d) ∧ Hid (Below w2.heap.size w2 y)) (first | (exact keep_six hc.out (Below.drew HI.out)) | (exact keep_six hc.out (Below.drew (last_six ‹_ ∧ _ ∧ _ ∧ _ ∧ _ ∧ _ ∧ Hid _›))) | (exact keep_six hc.out (trans_any (last_six ‹_ ∧ _ ∧ _ ∧ _ ∧ _ ∧ _ ∧ Hid _›) hb9))) (first | (go_at_call 12; (with_reducible refine (HVR.out _).mono ?_); rintro e9 w9 ⟨rfl, hb9⟩) | (go_at_call 13; (with_reducible refine (HRVR.out _).mono ?_); rintro e9 w9 ⟨rfl, hb9⟩) | (go_at_call 12; (with_reducible refine (HVA.out _).mono ?_); rintro e9 w9 ⟨rfl, hb9⟩) | (go_at_call 14; (with_reducible refine (HCA.out _ (last_six ‹_ ∧ _ ∧ _ ∧ _ ∧ _ ∧ _ ∧ Hid _›)).mono ?_); rintro e9 w9 ⟨rfl, hb9⟩))
    have HF := Lib.hid (last_six ‹_ ∧ _ ∧ _ ∧ _ ∧ _ ∧ _ ∧ Hid (Below w2.heap.size w2 w9)›)
    go_wp2_with fail
    go_ret
    exact ⟨rfl, HB2.out.trans (HF.out.mono HB2.out.size)⟩
  clear HM HRM HOK
  generalize decide (FrOk ⟨n, d⟩) = ok at *
  rcases he with rfl | rfl
  all_goals
    refine wp_region_held_drew (S := (fun y => y.cell? ⟨q1, 0, none⟩ = some (.int .i64 a) ∧ y.cell? ⟨q1, 1, none⟩ = some (.int .i64 b) ∧ y.cell? ⟨q2, 0, none⟩ = some (.int .i64 a) ∧ y.cell? ⟨q2, 1, none⟩ = some (.int .i64 b) ∧ y.cell? ⟨q2 + 1, 0, none⟩ = some (.int .i64 n) ∧ y.cell? ⟨q2 + 1, 1, none⟩ = some (.int .i64 d) ∧ Hid (Below w2.heap.size w2 y))) (by kernel_rfl) (keep_six hc.out (Below.drew HI.out)) (fun hHeld => ?_)
    refine held_take (i := 0) (by rfl) (by kernel_rfl) (by kernel_rfl) (by kernel_rfl) (by intro c a w h; exact h) (by rfl) (by intro w' hSw; obtain ⟨s1, s2, s3, s4, s5, s6, _⟩ := hSw; go_simp; try with_reducible rfl) hHeld ?_
    try simp only [Act.put, List.setIfInBounds_toArray, List.set_cons_zero, List.set_cons_succ]
    refine held_take (i := 1) (by rfl) (by kernel_rfl) (by kernel_rfl) (by kernel_rfl) (by intro c a w h; exact h) (by rfl) (by intro w' hSw; obtain ⟨s1, s2, s3, s4, s5, s6, _⟩ := hSw; go_simp; try with_reducible rfl) hHeld ?_
    try simp only [Act.put, List.setIfInBounds_toArray, List.set_cons_zero, List.set_cons_succ]
    refine held_take (i := 2) (by rfl) (by kernel_rfl) (by kernel_rfl) (by kernel_rfl) (by intro c a w h; exact h) (by rfl) (by intro w' hSw; obtain ⟨s1, s2, s3, s4, s5, s6, _⟩ := hSw; go_simp; try with_reducible rfl) hHeld ?_
    try simp only [Act.put, List.setIfInBounds_toArray, List.set_cons_zero, List.set_cons_succ]
    refine held_take (i := 3) (by rfl) (by kernel_rfl) (by kernel_rfl) (by kernel_rfl) (by intro c a w h; exact h) (by rfl) (by intro w' hSw; obtain ⟨s1, s2, s3, s4, s5, s6, _⟩ := hSw; go_simp; try with_reducible rfl) hHeld ?_
    try simp only [Act.put, List.setIfInBounds_toArray, List.set_cons_zero, List.set_cons_succ]
    refine held_take (i := 4) (by rfl) (by kernel_rfl) (by kernel_rfl) (by kernel_rfl) (by intro c a w h; exact h) (by rfl) (by intro w' hSw; obtain ⟨s1, s2, s3, s4, s5, s6, _⟩ := hSw; go_simp; try with_reducible rfl) hHeld ?_
    try simp only [Act.put, List.setIfInBounds_toArray, List.set_cons_zero, List.set_cons_succ]
    refine held_take (i := 5) (by rfl) (by kernel_rfl) (by kernel_rfl) (by kernel_rfl) (by intro c a w h; exact h) (by rfl) (by intro w' hSw; obtain ⟨s1, s2, s3, s4, s5, s6, _⟩ := hSw; go_simp; try with_reducible rfl) hHeld ?_
    try simp only [Act.put, List.setIfInBounds_toArray, List.set_cons_zero, List.set_cons_succ]
    refine held_take (i := 6) (by rfl) (by kernel_rfl) (by kernel_rfl) (by kernel_rfl) (by intro c a w h; exact h) (by rfl) (by intro w' hSw; obtain ⟨s1, s2, s3, s4, s5, s6, _⟩ := hSw; go_simp; try with_reducible rfl) hHeld ?_
    try simp only [Act.put, List.setIfInBounds_toArray, List.set_cons_zero, List.set_cons_succ]
    refine held_take (i := 7) (by rfl) (by kernel_rfl) (by kernel_rfl) (by kernel_rfl) (by intro c a w h; exact h) (by rfl) (by intro w' hSw; obtain ⟨s1, s2, s3, s4, s5, s6, _⟩ := hSw; go_simp; try with_reducible rfl) hHeld ?_
    try simp only [Act.put, List.setIfInBounds_toArray, List.set_cons_zero, List.set_cons_succ]
    refine held_take (i := 8) (by rfl) (by kernel_rfl) (by kernel_rfl) (by kernel_rfl) (by intro c a w h; exact h) (by rfl) (by intro w' hSw; obtain ⟨s1, s2, s3, s4, s5, s6, _⟩ := hSw; go_simp; try with_reducible rfl) hHeld ?_
    try simp only [Act.put, List.setIfInBounds_toArray, List.set_cons_zero, List.set_cons_succ]
    refine held_take (i := 9) (by rfl) (by kernel_rfl) (by kernel_rfl) (by kernel_rfl) (by intro c a w h; exact h) (by rfl) (by intro w' hSw; obtain ⟨s1, s2, s3, s4, s5, s6, _⟩ := hSw; go_simp; try with_reducible rfl) hHeld ?_
    try simp only [Act.put, List.setIfInBounds_toArray, List.set_cons_zero, List.set_cons_succ]
    refine held_take (i := 11) (by rfl) (by kernel_rfl) (by kernel_rfl) (by kernel_rfl) (by intro c a w h; exact h) (by rfl) (by intro w' hSw; obtain ⟨s1, s2, s3, s4, s5, s6, _⟩ := hSw; go_simp; try with_reducible rfl) hHeld ?_
    try simp only [Act.put, List.setIfInBounds_toArray, List.set_cons_zero, List.set_cons_succ]
    refine wpAnyH_ready (rs := [10]) (by kernel_rfl) (by simp) ?_
    refine held_one (by rfl) (fun K hK => ?_)
    go_simp
    refine (HVR.out _).mono ?_
    rintro e9 w9 ⟨rfl, hb9⟩
    refine hK.out _ _ (keep_six hc.out (trans_any (last_six hHeld) hb9)) (fun hHeld9 => ?_)
    clear hHeld hK K
    have hHeld := hHeld9
    clear hHeld9
    try simp only [Act.put, List.setIfInBounds_toArray, List.set_cons_zero, List.set_cons_succ]
    refine wpAnyH_ready (rs := [12]) (by kernel_rfl) (by simp) ?_
    refine held_one (by rfl) (fun K hK => ?_)
    go_simp
    refine (HRVR.out _).mono ?_
    rintro e9 w9 ⟨rfl, hb9⟩
    refine hK.out _ _ (keep_six hc.out (trans_any (last_six hHeld) hb9)) (fun hHeld9 => ?_)
    clear hHeld hK K
    have hHeld := hHeld9
    clear hHeld9
    try simp only [Act.put, List.setIfInBounds_toArray, List.set_cons_zero, List.set_cons_succ]
    refine held_take (i := 13) (by rfl) (by kernel_rfl) (by kernel_rfl) (by kernel_rfl) (by intro c a w h; exact h) (by rfl) (by intro w' hSw; obtain ⟨s1, s2, s3, s4, s5, s6, _⟩ := hSw; go_simp; try with_reducible rfl) hHeld ?_
    try simp only [Act.put, List.setIfInBounds_toArray, List.set_cons_zero, List.set_cons_succ]
    refine held_take (i := 14) (by rfl) (by kernel_rfl) (by kernel_rfl) (by kernel_rfl) (by intro c a w h; exact h) (by rfl) (by intro w' hSw; obtain ⟨s1, s2, s3, s4, s5, s6, _⟩ := hSw; go_simp; try with_reducible rfl) hHeld ?_
    try simp only [Act.put, List.setIfInBounds_toArray, List.set_cons_zero, List.set_cons_succ]
    refine held_take (i := 15) (by rfl) (by kernel_rfl) (by kernel_rfl) (by kernel_rfl) (by intro c a w h; exact h) (by rfl) (by intro w' hSw; obtain ⟨s1, s2, s3, s4, s5, s6, _⟩ := hSw; go_simp; try with_reducible rfl) hHeld ?_
    try simp only [Act.put, List.setIfInBounds_toArray, List.set_cons_zero, List.set_cons_succ]
    refine held_take (i := 16) (by rfl) (by kernel_rfl) (by kernel_rfl) (by kernel_rfl) (by intro c a w h; exact h) (by rfl) (by intro w' hSw; obtain ⟨s1, s2, s3, s4, s5, s6, _⟩ := hSw; go_simp; try with_reducible rfl) hHeld ?_
    try simp only [Act.put, List.setIfInBounds_toArray, List.set_cons_zero, List.set_cons_succ]
    refine held_take (i := 17) (by rfl) (by kernel_rfl) (by kernel_rfl) (by kernel_rfl) (by intro c a w h; exact h) (by rfl) (by intro w' hSw; obtain ⟨s1, s2, s3, s4, s5, s6, _⟩ := hSw; go_simp; try with_reducible rfl) hHeld ?_
    try simp only [Act.put, List.setIfInBounds_toArray, List.set_cons_zero, List.set_cons_succ]
    refine held_take (i := 18) (by rfl) (by kernel_rfl) (by kernel_rfl) (by kernel_rfl) (by intro c a w h; exact h) (by rfl) (by intro w' hSw; obtain ⟨s1, s2, s3, s4, s5, s6, _⟩ := hSw; go_simp; try with_reducible rfl) hHeld ?_
    try simp only [Act.put, List.setIfInBounds_toArray, List.set_cons_zero, List.set_cons_succ]
    refine held_skip (i := 19) (by rfl) (by kernel_rfl) (by kernel_rfl) (by kernel_rfl) (by intro c a w h; exact h) (by rfl) hHeld ?_
    try simp only [Act.put, List.setIfInBounds_toArray, List.set_cons_zero, List.set_cons_succ]
    refine held_skip (i := 20) (by rfl) (by kernel_rfl) (by kernel_rfl) (by kernel_rfl) (by intro c a w h; exact h) (by rfl) hHeld ?_
    try simp only [Act.put, List.setIfInBounds_toArray, List.set_cons_zero, List.set_cons_succ]
    refine held_take (i := 21) (by rfl) (by kernel_rfl) (by kernel_rfl) (by kernel_rfl) (by intro c a w h; exact h) (by rfl) (by intro w' hSw; obtain ⟨s1, s2, s3, s4, s5, s6, _⟩ := hSw; go_simp; try with_reducible rfl) hHeld ?_
    try simp only [Act.put, List.setIfInBounds_toArray, List.set_cons_zero, List.set_cons_succ]
    refine held_take (i := 22) (by rfl) (by kernel_rfl) (by kernel_rfl) (by kernel_rfl) (by intro c a w h; exact h) (by rfl) (by intro w' hSw; obtain ⟨s1, s2, s3, s4, s5, s6, _⟩ := hSw; go_simp; try with_reducible rfl) hHeld ?_
    try simp only [Act.put, List.setIfInBounds_toArray, List.set_cons_zero, List.set_cons_succ]
    refine held_take (i := 23) (by rfl) (by kernel_rfl) (by kernel_rfl) (by kernel_rfl) (by intro c a w h; exact h) (by rfl) (by intro w' hSw; obtain ⟨s1, s2, s3, s4, s5, s6, _⟩ := hSw; go_simp; try with_reducible rfl) hHeld ?_
    try simp only [Act.put, List.setIfInBounds_toArray, List.set_cons_zero, List.set_cons_succ]
    refine wpAnyH_ready (rs := [24]) (by kernel_rfl) (by simp) ?_
    refine held_one (by rfl) (fun K hK => ?_)
    go_simp
    refine (HCA.out _ (last_six hHeld)).mono ?_
    rintro e9 w9 ⟨rfl, hb9⟩
    refine hK.out _ _ (keep_six hc.out (trans_any (last_six hHeld) hb9)) (fun hHeld9 => ?_)
    clear hHeld hK K
    have hHeld := hHeld9
    clear hHeld9
    try simp only [Act.put, List.setIfInBounds_toArray, List.set_cons_zero, List.set_cons_succ]
    refine held_take (i := 25) (by rfl) (by kernel_rfl) (by kernel_rfl) (by kernel_rfl) (by intro c a w h; exact h) (by rfl) (by intro w' hSw; obtain ⟨s1, s2, s3, s4, s5, s6, _⟩ := hSw; go_simp; try with_reducible rfl) hHeld ?_
    try simp only [Act.put, List.setIfInBounds_toArray, List.set_cons_zero, List.set_cons_succ]
    refine held_take (i := 26) (by rfl) (by kernel_rfl) (by kernel_rfl) (by kernel_rfl) (by intro c a w h; exact h) (by rfl) (by intro w' hSw; obtain ⟨s1, s2, s3, s4, s5, s6, _⟩ := hSw; go_simp; try with_reducible rfl) hHeld ?_
    try simp only [Act.put, List.setIfInBounds_toArray, List.set_cons_zero, List.set_cons_succ]
    refine wpAnyH_done (by kernel_rfl) ?_ _
    go_wp2_with fail
    go_ret
    exact ⟨rfl, HB2.out.trans (Below.mono (last_six hHeld) HB2.out.size)⟩
end Go.Proofs.YtjobncfjebkcdaaDoor
