/- The walks of Compare, Min and Max, of the program and of the reference. -/
import Derived.Test.YtjobncfjebkcdaaDoorFb
namespace Go.Proofs.YtjobncfjebkcdaaDoor
open Go Go.RowKit
set_option linter.unusedSimpArgs false

def FB (f : Fr) : Prop := (-1073741824 ≤ f.num ∧ f.num ≤ 1073741824) ∧ (-1073741824 ≤ f.den ∧ f.den ≤ 1073741824)
theorem FrOk.fb {f : Fr} (h : FrOk f) : FB f := by
  obtain ⟨h1, h2, h3, h4, _⟩ := h
  exact ⟨⟨h3, h4⟩, by omega, h2⟩
def minF (a b : Fr) : Fr := if cmpF a b ≤ 0 then a else b
def maxF (a b : Fr) : Fr := if 0 ≤ cmpF a b then a else b
theorem cmp_lt {an ad bn bd : Int} (h : an * bd < bn * ad) : cmpF ⟨an, ad⟩ ⟨bn, bd⟩ = -1 := by unfold cmpF; rw [if_pos h]
theorem cmp_gt {an ad bn bd : Int} (h : bn * ad < an * bd) : cmpF ⟨an, ad⟩ ⟨bn, bd⟩ = 1 := by unfold cmpF; rw [if_neg (by simp only; omega), if_pos h]
theorem cmp_eq {an ad bn bd : Int} (h : an * bd = bn * ad) : cmpF ⟨an, ad⟩ ⟨bn, bd⟩ = 0 := by unfold cmpF; rw [if_neg (by simp only; omega), if_neg (by simp only; omega)]
set_option maxHeartbeats 8000000 in
set_option maxRecDepth 100000 in
theorem cmp_any (w : World) (a b : Fr) (ha : FB a) (hb : FB b) : Calls Tryd.prog 26 #[frV a, frV b] w (OutB w (.int .i64 (cmpF a b))) := by
  obtain ⟨an, ad⟩ := a
  obtain ⟨bn, bd⟩ := b
  obtain ⟨⟨h1, h2⟩, h3, h4⟩ := ha
  obtain ⟨⟨k1, k2⟩, k3, k4⟩ := hb
  simp only at h1 h2 h3 h4 k1 k2 k3 k4
  obtain ⟨p0a, p0b⟩ := prod_le (x := an) (y := bd) (by omega) (by omega)
  obtain ⟨p1a, p1b⟩ := prod_le (x := bn) (y := ad) (by omega) (by omega)
  unfold frV
  by_cases he : an = bn ∧ ad = bd
  focus
    obtain ⟨rfl, rfl⟩ := he
    rw [cmp_eq rfl]
    go_enter Tryd.func26, Tryd.ntmps26
    go_wp2_with fail
    have HX := Lib.hid (show Bxs w ((w.alloc (.cells #[.int .i64 an, .int .i64 ad] 23)).alloc (.cells #[.int .i64 an, .int .i64 ad] 23)) _ from Bxs.two w ⟨an, ad⟩ ⟨an, ad⟩)
    generalize (w.alloc (.cells #[.int .i64 an, .int .i64 ad] 23)).alloc (.cells #[.int .i64 an, .int .i64 ad] 23) = w0 at *
    have hc := HX.out.cells
    simp only [BCells] at hc
    go_quiet (fail)
    replace HX := Lib.hid (HX.out.drew nq)
    clear hc
    have hc := HX.out.cells
    simp only [BCells] at hc
    go_wp2_with fail
    go_ret
    exact ⟨rfl, HX.out.below⟩
  have hne : Hid ((an == bn && ad == bd) = false) := by
    unfold Hid
    rw [Bool.eq_false_iff]
    intro h
    simp only [Bool.and_eq_true, beq_iff_eq] at h
    exact he h
  by_cases hn : an = bn
  focus
    have hn' : ad ≠ bd := fun h => he ⟨hn, h⟩
    have t3 : (ad == bd) = false := beq_eq_false_iff_ne.2 hn'
    subst hn
    clear he hne hn'
    by_cases ht : an * bd < an * ad
    focus
      rw [cmp_lt ht]
      have t1 : decide (an * bd < an * ad) = true := by simp; omega
      have t2 : decide (an * ad < an * bd) = false := by simp; omega
      clear ht
      go_enter Tryd.func26, Tryd.ntmps26
      go_wp2_with fail
      have HX := Lib.hid (show Bxs w ((w.alloc (.cells #[.int .i64 an, .int .i64 ad] 23)).alloc (.cells #[.int .i64 an, .int .i64 bd] 23)) _ from Bxs.two w ⟨an, ad⟩ ⟨an, bd⟩)
      generalize (w.alloc (.cells #[.int .i64 an, .int .i64 ad] 23)).alloc (.cells #[.int .i64 an, .int .i64 bd] 23) = w0 at *
      have hc := HX.out.cells
      simp only [BCells] at hc
      go_quiet (fail)
      replace HX := Lib.hid (HX.out.drew nq)
      clear hc
      have hc := HX.out.cells
      simp only [BCells] at hc
      go_wp2_with fail
      go_ret
      exact ⟨rfl, HX.out.below⟩
    have httrue := ht
    clear ht
    by_cases ht : an * ad < an * bd
    focus
      rw [cmp_gt ht]
      have t1 : decide (an * bd < an * ad) = false := by simp; omega
      have t2 : decide (an * ad < an * bd) = true := by simp; omega
      clear ht
      go_enter Tryd.func26, Tryd.ntmps26
      go_wp2_with fail
      have HX := Lib.hid (show Bxs w ((w.alloc (.cells #[.int .i64 an, .int .i64 ad] 23)).alloc (.cells #[.int .i64 an, .int .i64 bd] 23)) _ from Bxs.two w ⟨an, ad⟩ ⟨an, bd⟩)
      generalize (w.alloc (.cells #[.int .i64 an, .int .i64 ad] 23)).alloc (.cells #[.int .i64 an, .int .i64 bd] 23) = w0 at *
      have hc := HX.out.cells
      simp only [BCells] at hc
      go_quiet (fail)
      replace HX := Lib.hid (HX.out.drew nq)
      clear hc
      have hc := HX.out.cells
      simp only [BCells] at hc
      go_wp2_with fail
      go_ret
      exact ⟨rfl, HX.out.below⟩
    have htfalse := ht
    clear ht
    focus
      have ht : an * bd = an * ad := by omega
      rw [cmp_eq ht]
      have t1 : decide (an * bd < an * ad) = false := by simp; omega
      have t2 : decide (an * ad < an * bd) = false := by simp; omega
      clear ht
      go_enter Tryd.func26, Tryd.ntmps26
      go_wp2_with fail
      have HX := Lib.hid (show Bxs w ((w.alloc (.cells #[.int .i64 an, .int .i64 ad] 23)).alloc (.cells #[.int .i64 an, .int .i64 bd] 23)) _ from Bxs.two w ⟨an, ad⟩ ⟨an, bd⟩)
      generalize (w.alloc (.cells #[.int .i64 an, .int .i64 ad] 23)).alloc (.cells #[.int .i64 an, .int .i64 bd] 23) = w0 at *
      have hc := HX.out.cells
      simp only [BCells] at hc
      go_quiet (fail)
      replace HX := Lib.hid (HX.out.drew nq)
      clear hc
      have hc := HX.out.cells
      simp only [BCells] at hc
      go_wp2_with fail
      go_ret
      exact ⟨rfl, HX.out.below⟩
  have t3 : (an == bn) = false := beq_eq_false_iff_ne.2 hn
  clear he hne hn
  by_cases ht : an * bd < bn * ad
  focus
    rw [cmp_lt ht]
    have t1 : decide (an * bd < bn * ad) = true := by simp; omega
    have t2 : decide (bn * ad < an * bd) = false := by simp; omega
    clear ht
    go_enter Tryd.func26, Tryd.ntmps26
    go_wp2_with fail
    have HX := Lib.hid (show Bxs w ((w.alloc (.cells #[.int .i64 an, .int .i64 ad] 23)).alloc (.cells #[.int .i64 bn, .int .i64 bd] 23)) _ from Bxs.two w ⟨an, ad⟩ ⟨bn, bd⟩)
    generalize (w.alloc (.cells #[.int .i64 an, .int .i64 ad] 23)).alloc (.cells #[.int .i64 bn, .int .i64 bd] 23) = w0 at *
    have hc := HX.out.cells
    simp only [BCells] at hc
    go_quiet (fail)
    replace HX := Lib.hid (HX.out.drew nq)
    clear hc
    have hc := HX.out.cells
    simp only [BCells] at hc
    go_wp2_with fail
    go_ret
    exact ⟨rfl, HX.out.below⟩
  have httrue := ht
  clear ht
  by_cases ht : bn * ad < an * bd
  focus
    rw [cmp_gt ht]
    have t1 : decide (an * bd < bn * ad) = false := by simp; omega
    have t2 : decide (bn * ad < an * bd) = true := by simp; omega
    clear ht
    go_enter Tryd.func26, Tryd.ntmps26
    go_wp2_with fail
    have HX := Lib.hid (show Bxs w ((w.alloc (.cells #[.int .i64 an, .int .i64 ad] 23)).alloc (.cells #[.int .i64 bn, .int .i64 bd] 23)) _ from Bxs.two w ⟨an, ad⟩ ⟨bn, bd⟩)
    generalize (w.alloc (.cells #[.int .i64 an, .int .i64 ad] 23)).alloc (.cells #[.int .i64 bn, .int .i64 bd] 23) = w0 at *
    have hc := HX.out.cells
    simp only [BCells] at hc
    go_quiet (fail)
    replace HX := Lib.hid (HX.out.drew nq)
    clear hc
    have hc := HX.out.cells
    simp only [BCells] at hc
    go_wp2_with fail
    go_ret
    exact ⟨rfl, HX.out.below⟩
  have htfalse := ht
  clear ht
  focus
    have ht : an * bd = bn * ad := by omega
    rw [cmp_eq ht]
    have t1 : decide (an * bd < bn * ad) = false := by simp; omega
    have t2 : decide (bn * ad < an * bd) = false := by simp; omega
    clear ht
    go_enter Tryd.func26, Tryd.ntmps26
    go_wp2_with fail
    have HX := Lib.hid (show Bxs w ((w.alloc (.cells #[.int .i64 an, .int .i64 ad] 23)).alloc (.cells #[.int .i64 bn, .int .i64 bd] 23)) _ from Bxs.two w ⟨an, ad⟩ ⟨bn, bd⟩)
    generalize (w.alloc (.cells #[.int .i64 an, .int .i64 ad] 23)).alloc (.cells #[.int .i64 bn, .int .i64 bd] 23) = w0 at *
    have hc := HX.out.cells
    simp only [BCells] at hc
    go_quiet (fail)
    replace HX := Lib.hid (HX.out.drew nq)
    clear hc
    have hc := HX.out.cells
    simp only [BCells] at hc
    go_wp2_with fail
    go_ret
    exact ⟨rfl, HX.out.below⟩

set_option maxHeartbeats 8000000 in
set_option maxRecDepth 100000 in
theorem rcmp_any (w : World) (a b : Fr) (ha : FB a) (hb : FB b) : Calls Tryd.prog 27 #[frV a, frV b] w (OutB w (.int .i64 (cmpF a b))) := by
  obtain ⟨an, ad⟩ := a
  obtain ⟨bn, bd⟩ := b
  obtain ⟨⟨h1, h2⟩, h3, h4⟩ := ha
  obtain ⟨⟨k1, k2⟩, k3, k4⟩ := hb
  simp only at h1 h2 h3 h4 k1 k2 k3 k4
  obtain ⟨p0a, p0b⟩ := prod_le (x := an) (y := bd) (by omega) (by omega)
  obtain ⟨p1a, p1b⟩ := prod_le (x := bn) (y := ad) (by omega) (by omega)
  unfold frV
  by_cases ht : an * bd < bn * ad
  focus
    rw [cmp_lt ht]
    have t1 : decide (an * bd < bn * ad) = true := by simp; omega
    have t2 : decide (bn * ad < an * bd) = false := by simp; omega
    clear ht
    go_enter Tryd.func27, Tryd.ntmps27
    go_wp2_with fail
    have HX := Lib.hid (show Bxs w ((w.alloc (.cells #[.int .i64 an, .int .i64 ad] 23)).alloc (.cells #[.int .i64 bn, .int .i64 bd] 23)) _ from Bxs.two w ⟨an, ad⟩ ⟨bn, bd⟩)
    generalize (w.alloc (.cells #[.int .i64 an, .int .i64 ad] 23)).alloc (.cells #[.int .i64 bn, .int .i64 bd] 23) = w0 at *
    have hc := HX.out.cells
    simp only [BCells] at hc
    go_quiet (fail)
    replace HX := Lib.hid (HX.out.drew nq)
    clear hc
    go_wp2_with fail
    go_ret
    exact ⟨rfl, HX.out.below⟩
  have httrue := ht
  clear ht
  by_cases ht : bn * ad < an * bd
  focus
    rw [cmp_gt ht]
    have t1 : decide (an * bd < bn * ad) = false := by simp; omega
    have t2 : decide (bn * ad < an * bd) = true := by simp; omega
    clear ht
    go_enter Tryd.func27, Tryd.ntmps27
    go_wp2_with fail
    have HX := Lib.hid (show Bxs w ((w.alloc (.cells #[.int .i64 an, .int .i64 ad] 23)).alloc (.cells #[.int .i64 bn, .int .i64 bd] 23)) _ from Bxs.two w ⟨an, ad⟩ ⟨bn, bd⟩)
    generalize (w.alloc (.cells #[.int .i64 an, .int .i64 ad] 23)).alloc (.cells #[.int .i64 bn, .int .i64 bd] 23) = w0 at *
    have hc := HX.out.cells
    simp only [BCells] at hc
    go_quiet (fail)
    replace HX := Lib.hid (HX.out.drew nq)
    clear hc
    go_wp2_with fail
    go_ret
    exact ⟨rfl, HX.out.below⟩
  have htfalse := ht
  clear ht
  focus
    have ht : an * bd = bn * ad := by omega
    rw [cmp_eq ht]
    have t1 : decide (an * bd < bn * ad) = false := by simp; omega
    have t2 : decide (bn * ad < an * bd) = false := by simp; omega
    clear ht
    go_enter Tryd.func27, Tryd.ntmps27
    go_wp2_with fail
    have HX := Lib.hid (show Bxs w ((w.alloc (.cells #[.int .i64 an, .int .i64 ad] 23)).alloc (.cells #[.int .i64 bn, .int .i64 bd] 23)) _ from Bxs.two w ⟨an, ad⟩ ⟨bn, bd⟩)
    generalize (w.alloc (.cells #[.int .i64 an, .int .i64 ad] 23)).alloc (.cells #[.int .i64 bn, .int .i64 bd] 23) = w0 at *
    have hc := HX.out.cells
    simp only [BCells] at hc
    go_quiet (fail)
    replace HX := Lib.hid (HX.out.drew nq)
    clear hc
    go_wp2_with fail
    go_ret
    exact ⟨rfl, HX.out.below⟩

set_option maxHeartbeats 8000000 in
set_option maxRecDepth 100000 in
theorem min_any (w : World) (a b : Fr) (ha : FB a) (hb : FB b) : Calls Tryd.prog 28 #[frV a, frV b] w (OutB w (frV (minF a b))) := by
  have C := Lib.hid (fun w => cmp_any w b a hb ha)
  obtain ⟨k, hk⟩ : ∃ k, cmpF b a = k := ⟨_, rfl⟩
  have hq : cmpF a b ≤ 0 ↔ 0 ≤ k := by rw [← hk, cmp_neg a b]; omega
  rw [hk] at C
  have HS : Hid (minF a b = if 0 ≤ k then a else b) := by
    unfold Hid minF
    by_cases h : cmpF a b ≤ 0
    · rw [if_pos h, if_pos (hq.1 h)]
    · rw [if_neg h, if_neg (fun h2 => h (hq.2 h2))]
  clear ha hb hq hk
  obtain ⟨an, ad⟩ := a
  obtain ⟨bn, bd⟩ := b
  unfold frV at *
  by_cases hk : 0 ≤ k
  focus
    rw [if_pos hk] at HS
    have t1 : decide (k < 0) = false := by simp; omega
    clear hk
    go_enter Tryd.func28, Tryd.ntmps28
    go_wp2_with fail
    have HX := Lib.hid (show Bxs w (((w.alloc (.cells #[.int .i64 an, .int .i64 ad] 23)).alloc (.cells #[.int .i64 bn, .int .i64 bd] 23)).alloc (.cells #[.int .i64 0, .int .i64 0] 23)) _ from Bxs.three w ⟨an, ad⟩ ⟨bn, bd⟩ ⟨0, 0⟩)
    generalize ((w.alloc (.cells #[.int .i64 an, .int .i64 ad] 23)).alloc (.cells #[.int .i64 bn, .int .i64 bd] 23)).alloc (.cells #[.int .i64 0, .int .i64 0] 23) = w0 at *
    have hc := HX.out.cells
    simp only [BCells] at hc
    go_wp2_with fail
    clear hc
    refine (C.out w0).mono ?_
    rintro e9 w1 ⟨rfl, hb⟩
    replace HX := Lib.hid (HX.out.keep hb)
    have hc := HX.out.cells
    simp only [BCells] at hc
    have hz := (cells_two (HX.out.blk (w.heap.size + 2, ⟨0, 0⟩) (by simp))).2.2
    clear hb
    go_wp2_with fail
    refine bodyPost_ret (v := frV ⟨an, ad⟩) (by simp [results, Tryd.results28, go_sem, frV, hc, hz]) rfl ?_
    rw [HS.out]
    exact ⟨rfl, by have hb := HX.out.below; clear HX hc; go_grown⟩
  focus
    rw [if_neg hk] at HS
    have t1 : decide (k < 0) = true := by simp; omega
    clear hk
    go_enter Tryd.func28, Tryd.ntmps28
    go_wp2_with fail
    have HX := Lib.hid (show Bxs w (((w.alloc (.cells #[.int .i64 an, .int .i64 ad] 23)).alloc (.cells #[.int .i64 bn, .int .i64 bd] 23)).alloc (.cells #[.int .i64 0, .int .i64 0] 23)) _ from Bxs.three w ⟨an, ad⟩ ⟨bn, bd⟩ ⟨0, 0⟩)
    generalize ((w.alloc (.cells #[.int .i64 an, .int .i64 ad] 23)).alloc (.cells #[.int .i64 bn, .int .i64 bd] 23)).alloc (.cells #[.int .i64 0, .int .i64 0] 23) = w0 at *
    have hc := HX.out.cells
    simp only [BCells] at hc
    go_wp2_with fail
    clear hc
    refine (C.out w0).mono ?_
    rintro e9 w1 ⟨rfl, hb⟩
    replace HX := Lib.hid (HX.out.keep hb)
    have hc := HX.out.cells
    simp only [BCells] at hc
    have hz := (cells_two (HX.out.blk (w.heap.size + 2, ⟨0, 0⟩) (by simp))).2.2
    clear hb
    go_wp2_with fail
    refine bodyPost_ret (v := frV ⟨bn, bd⟩) (by simp [results, Tryd.results28, go_sem, frV, hc, hz]) rfl ?_
    rw [HS.out]
    exact ⟨rfl, by have hb := HX.out.below; clear HX hc; go_grown⟩

set_option maxHeartbeats 8000000 in
set_option maxRecDepth 100000 in
theorem max_any (w : World) (a b : Fr) (ha : FB a) (hb : FB b) : Calls Tryd.prog 30 #[frV a, frV b] w (OutB w (frV (maxF a b))) := by
  have C := Lib.hid (fun w => cmp_any w b a hb ha)
  obtain ⟨k, hk⟩ : ∃ k, cmpF b a = k := ⟨_, rfl⟩
  have hq : 0 ≤ cmpF a b ↔ k ≤ 0 := by rw [← hk, cmp_neg a b]; omega
  rw [hk] at C
  have HS : Hid (maxF a b = if k ≤ 0 then a else b) := by
    unfold Hid maxF
    by_cases h : 0 ≤ cmpF a b
    · rw [if_pos h, if_pos (hq.1 h)]
    · rw [if_neg h, if_neg (fun h2 => h (hq.2 h2))]
  clear ha hb hq hk
  obtain ⟨an, ad⟩ := a
  obtain ⟨bn, bd⟩ := b
  unfold frV at *
  by_cases hk : k ≤ 0
  focus
    rw [if_pos hk] at HS
    have t1 : decide (0 < k) = false := by simp; omega
    clear hk
    go_enter Tryd.func30, Tryd.ntmps30
    go_wp2_with fail
    have HX := Lib.hid (show Bxs w (((w.alloc (.cells #[.int .i64 an, .int .i64 ad] 23)).alloc (.cells #[.int .i64 bn, .int .i64 bd] 23)).alloc (.cells #[.int .i64 0, .int .i64 0] 23)) _ from Bxs.three w ⟨an, ad⟩ ⟨bn, bd⟩ ⟨0, 0⟩)
    generalize ((w.alloc (.cells #[.int .i64 an, .int .i64 ad] 23)).alloc (.cells #[.int .i64 bn, .int .i64 bd] 23)).alloc (.cells #[.int .i64 0, .int .i64 0] 23) = w0 at *
    have hc := HX.out.cells
    simp only [BCells] at hc
    go_wp2_with fail
    clear hc
    refine (C.out w0).mono ?_
    rintro e9 w1 ⟨rfl, hb⟩
    replace HX := Lib.hid (HX.out.keep hb)
    have hc := HX.out.cells
    simp only [BCells] at hc
    have hz := (cells_two (HX.out.blk (w.heap.size + 2, ⟨0, 0⟩) (by simp))).2.2
    clear hb
    go_wp2_with fail
    refine bodyPost_ret (v := frV ⟨an, ad⟩) (by simp [results, Tryd.results30, go_sem, frV, hc, hz]) rfl ?_
    rw [HS.out]
    exact ⟨rfl, by have hb := HX.out.below; clear HX hc; go_grown⟩
  focus
    rw [if_neg hk] at HS
    have t1 : decide (0 < k) = true := by simp; omega
    clear hk
    go_enter Tryd.func30, Tryd.ntmps30
    go_wp2_with fail
    have HX := Lib.hid (show Bxs w (((w.alloc (.cells #[.int .i64 an, .int .i64 ad] 23)).alloc (.cells #[.int .i64 bn, .int .i64 bd] 23)).alloc (.cells #[.int .i64 0, .int .i64 0] 23)) _ from Bxs.three w ⟨an, ad⟩ ⟨bn, bd⟩ ⟨0, 0⟩)
    generalize ((w.alloc (.cells #[.int .i64 an, .int .i64 ad] 23)).alloc (.cells #[.int .i64 bn, .int .i64 bd] 23)).alloc (.cells #[.int .i64 0, .int .i64 0] 23) = w0 at *
    have hc := HX.out.cells
    simp only [BCells] at hc
    go_wp2_with fail
    clear hc
    refine (C.out w0).mono ?_
    rintro e9 w1 ⟨rfl, hb⟩
    replace HX := Lib.hid (HX.out.keep hb)
    have hc := HX.out.cells
    simp only [BCells] at hc
    have hz := (cells_two (HX.out.blk (w.heap.size + 2, ⟨0, 0⟩) (by simp))).2.2
    clear hb
    go_wp2_with fail
    refine bodyPost_ret (v := frV ⟨bn, bd⟩) (by simp [results, Tryd.results30, go_sem, frV, hc, hz]) rfl ?_
    rw [HS.out]
    exact ⟨rfl, by have hb := HX.out.below; clear HX hc; go_grown⟩

set_option maxHeartbeats 8000000 in
set_option maxRecDepth 100000 in
theorem rmin_any (w : World) (a b : Fr) (ha : FB a) (hb : FB b) : Calls Tryd.prog 29 #[frV a, frV b] w (OutB w (frV (minF a b))) := by
  have C := Lib.hid (fun w => rcmp_any w a b ha hb)
  obtain ⟨k, hk⟩ : ∃ k, cmpF a b = k := ⟨_, rfl⟩
  have hq : cmpF a b ≤ 0 ↔ k ≤ 0 := by rw [← hk]
  rw [hk] at C
  have HS : Hid (minF a b = if k ≤ 0 then a else b) := by
    unfold Hid minF
    by_cases h : cmpF a b ≤ 0
    · rw [if_pos h, if_pos (hq.1 h)]
    · rw [if_neg h, if_neg (fun h2 => h (hq.2 h2))]
  clear ha hb hq hk
  obtain ⟨an, ad⟩ := a
  obtain ⟨bn, bd⟩ := b
  unfold frV at *
  by_cases hk : k ≤ 0
  focus
    rw [if_pos hk] at HS
    have t1 : decide (k ≤ 0) = true := by simp; omega
    clear hk
    go_enter Tryd.func29, Tryd.ntmps29
    go_wp2_with fail
    have HX := Lib.hid (show Bxs w (((w.alloc (.cells #[.int .i64 an, .int .i64 ad] 23)).alloc (.cells #[.int .i64 bn, .int .i64 bd] 23)).alloc (.cells #[.int .i64 0, .int .i64 0] 23)) _ from Bxs.three w ⟨an, ad⟩ ⟨bn, bd⟩ ⟨0, 0⟩)
    generalize ((w.alloc (.cells #[.int .i64 an, .int .i64 ad] 23)).alloc (.cells #[.int .i64 bn, .int .i64 bd] 23)).alloc (.cells #[.int .i64 0, .int .i64 0] 23) = w0 at *
    have hc := HX.out.cells
    simp only [BCells] at hc
    go_wp2_with fail
    clear hc
    refine (C.out w0).mono ?_
    rintro e9 w1 ⟨rfl, hb⟩
    replace HX := Lib.hid (HX.out.keep hb)
    have hc := HX.out.cells
    simp only [BCells] at hc
    have hz := (cells_two (HX.out.blk (w.heap.size + 2, ⟨0, 0⟩) (by simp))).2.2
    clear hb
    go_wp2_with fail
    refine bodyPost_ret (v := frV ⟨an, ad⟩) (by simp [results, Tryd.results29, go_sem, frV, hc, hz]) rfl ?_
    rw [HS.out]
    exact ⟨rfl, by have hb := HX.out.below; clear HX hc; go_grown⟩
  focus
    rw [if_neg hk] at HS
    have t1 : decide (k ≤ 0) = false := by simp; omega
    clear hk
    go_enter Tryd.func29, Tryd.ntmps29
    go_wp2_with fail
    have HX := Lib.hid (show Bxs w (((w.alloc (.cells #[.int .i64 an, .int .i64 ad] 23)).alloc (.cells #[.int .i64 bn, .int .i64 bd] 23)).alloc (.cells #[.int .i64 0, .int .i64 0] 23)) _ from Bxs.three w ⟨an, ad⟩ ⟨bn, bd⟩ ⟨0, 0⟩)
    generalize ((w.alloc (.cells #[.int .i64 an, .int .i64 ad] 23)).alloc (.cells #[.int .i64 bn, .int .i64 bd] 23)).alloc (.cells #[.int .i64 0, .int .i64 0] 23) = w0 at *
    have hc := HX.out.cells
    simp only [BCells] at hc
    go_wp2_with fail
    clear hc
    refine (C.out w0).mono ?_
    rintro e9 w1 ⟨rfl, hb⟩
    replace HX := Lib.hid (HX.out.keep hb)
    have hc := HX.out.cells
    simp only [BCells] at hc
    have hz := (cells_two (HX.out.blk (w.heap.size + 2, ⟨0, 0⟩) (by simp))).2.2
    clear hb
    go_wp2_with fail
    refine bodyPost_ret (v := frV ⟨bn, bd⟩) (by simp [results, Tryd.results29, go_sem, frV, hc, hz]) rfl ?_
    rw [HS.out]
    exact ⟨rfl, by have hb := HX.out.below; clear HX hc; go_grown⟩

set_option maxHeartbeats 8000000 in
set_option maxRecDepth 100000 in
theorem rmax_any (w : World) (a b : Fr) (ha : FB a) (hb : FB b) : Calls Tryd.prog 31 #[frV a, frV b] w (OutB w (frV (maxF a b))) := by
  have C := Lib.hid (fun w => rcmp_any w a b ha hb)
  obtain ⟨k, hk⟩ : ∃ k, cmpF a b = k := ⟨_, rfl⟩
  have hq : 0 ≤ cmpF a b ↔ 0 ≤ k := by rw [← hk]
  rw [hk] at C
  have HS : Hid (maxF a b = if 0 ≤ k then a else b) := by
    unfold Hid maxF
    by_cases h : 0 ≤ cmpF a b
    · rw [if_pos h, if_pos (hq.1 h)]
    · rw [if_neg h, if_neg (fun h2 => h (hq.2 h2))]
  clear ha hb hq hk
  obtain ⟨an, ad⟩ := a
  obtain ⟨bn, bd⟩ := b
  unfold frV at *
  by_cases hk : 0 ≤ k
  focus
    rw [if_pos hk] at HS
    have t1 : decide (0 ≤ k) = true := by simp; omega
    clear hk
    go_enter Tryd.func31, Tryd.ntmps31
    go_wp2_with fail
    have HX := Lib.hid (show Bxs w (((w.alloc (.cells #[.int .i64 an, .int .i64 ad] 23)).alloc (.cells #[.int .i64 bn, .int .i64 bd] 23)).alloc (.cells #[.int .i64 0, .int .i64 0] 23)) _ from Bxs.three w ⟨an, ad⟩ ⟨bn, bd⟩ ⟨0, 0⟩)
    generalize ((w.alloc (.cells #[.int .i64 an, .int .i64 ad] 23)).alloc (.cells #[.int .i64 bn, .int .i64 bd] 23)).alloc (.cells #[.int .i64 0, .int .i64 0] 23) = w0 at *
    have hc := HX.out.cells
    simp only [BCells] at hc
    go_wp2_with fail
    clear hc
    refine (C.out w0).mono ?_
    rintro e9 w1 ⟨rfl, hb⟩
    replace HX := Lib.hid (HX.out.keep hb)
    have hc := HX.out.cells
    simp only [BCells] at hc
    have hz := (cells_two (HX.out.blk (w.heap.size + 2, ⟨0, 0⟩) (by simp))).2.2
    clear hb
    go_wp2_with fail
    refine bodyPost_ret (v := frV ⟨an, ad⟩) (by simp [results, Tryd.results31, go_sem, frV, hc, hz]) rfl ?_
    rw [HS.out]
    exact ⟨rfl, by have hb := HX.out.below; clear HX hc; go_grown⟩
  focus
    rw [if_neg hk] at HS
    have t1 : decide (0 ≤ k) = false := by simp; omega
    clear hk
    go_enter Tryd.func31, Tryd.ntmps31
    go_wp2_with fail
    have HX := Lib.hid (show Bxs w (((w.alloc (.cells #[.int .i64 an, .int .i64 ad] 23)).alloc (.cells #[.int .i64 bn, .int .i64 bd] 23)).alloc (.cells #[.int .i64 0, .int .i64 0] 23)) _ from Bxs.three w ⟨an, ad⟩ ⟨bn, bd⟩ ⟨0, 0⟩)
    generalize ((w.alloc (.cells #[.int .i64 an, .int .i64 ad] 23)).alloc (.cells #[.int .i64 bn, .int .i64 bd] 23)).alloc (.cells #[.int .i64 0, .int .i64 0] 23) = w0 at *
    have hc := HX.out.cells
    simp only [BCells] at hc
    go_wp2_with fail
    clear hc
    refine (C.out w0).mono ?_
    rintro e9 w1 ⟨rfl, hb⟩
    replace HX := Lib.hid (HX.out.keep hb)
    have hc := HX.out.cells
    simp only [BCells] at hc
    have hz := (cells_two (HX.out.blk (w.heap.size + 2, ⟨0, 0⟩) (by simp))).2.2
    clear hb
    go_wp2_with fail
    refine bodyPost_ret (v := frV ⟨bn, bd⟩) (by simp [results, Tryd.results31, go_sem, frV, hc, hz]) rfl ?_
    rw [HS.out]
    exact ⟨rfl, by have hb := HX.out.below; clear HX hc; go_grown⟩

end Go.Proofs.YtjobncfjebkcdaaDoor
