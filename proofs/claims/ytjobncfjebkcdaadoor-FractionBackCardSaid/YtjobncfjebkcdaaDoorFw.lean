/- The walk of law02.awake: the examples of the chapter. -/
import Derived.Test.YtjobncfjebkcdaaDoorFt
import Derived.Test.YtjobncfjebkcdaaDoorFz
import Derived.KernelRfl
namespace Go.Proofs.YtjobncfjebkcdaaDoor
open Go Go.RowKit
set_option linter.unusedSimpArgs false

def YesP (w : World) (e : Ending) (w' : World) : Prop := e = .returned (.bool true) ∧ Below w.heap.size w w'
theorem ex1 : mkF 6 (-8) = (⟨-3, 4⟩, 0) := by decide +kernel
theorem ex2 : addF ⟨1, 2⟩ ⟨1, 3⟩ = (⟨5, 6⟩, 0) := by decide +kernel
theorem ex3 : roundF ⟨2, 3⟩ 100 = (⟨67, 100⟩, 0) := by decide +kernel
theorem ex4 : textF ⟨-3, 4⟩ = [45, 51, 47, 52] := by
  unfold textF
  rw [if_neg (by decide)]
  show Lib.itoa (-((3 : Nat) : Int)) ++ [47] ++ Lib.itoa ((4 : Nat) : Int) = _
  rw [Lib.itoa_neg 3 (by omega), Lib.itoa_nonneg 4, Lib.decDigits_one (by omega), Lib.decDigits_one (by omega)]
  rfl
/-- a new block behind a call: what is below, what it holds, what the older blocks hold -/
theorem step_block {w w0 w1 : World} (h : Below w.heap.size w w0) (hb : Below w0.heap.size w0 w1) (o : Obj) :
    Below w.heap.size w (w1.alloc o) ∧ (w1.alloc o).heap[w1.heap.size]? = some o ∧ w1.heap.size < (w1.alloc o).heap.size ∧ ∀ (q : Nat) (x : Obj), w0.heap[q]? = some x → (w1.alloc o).heap[q]? = some x ∧ q < w1.heap.size :=
  ⟨(h.trans (hb.mono h.size)).alloc (Nat.le_trans h.size hb.size) _, heap_alloc_new _ _, by simp, fun q x hx => by
    have hl := heap_lt hx
    have hl2 : q < w1.heap.size := Nat.lt_of_lt_of_le hl hb.size
    exact ⟨(Below.heap_alloc _ _ _ hl2).trans ((hb.block _ hl).trans hx), hl2⟩⟩

set_option maxHeartbeats 4000000 in
set_option maxRecDepth 100000 in
theorem awake_any (w : World) (ht : Tb w) : Calls Tryd.prog 14 #[] w (YesP w) := by
  have HT := Lib.hid ht
  have HB0 := Lib.hid (Below.refl w.heap.size w)
  clear ht
  go_enter Tryd.func14, Tryd.ntmps14
  go_wp2_with fail
  refine (make_any w 6 (-8) ⟨by decide, by decide⟩ ⟨by decide, by decide⟩).mono ?_
  rw [ex1]
  rintro e wc ⟨rfl, hb⟩
  unfold frV
  have hs := step_block HB0.out hb (.cells #[.int .i64 (-3), .int .i64 4] 23)
  have HB1 := Lib.hid hs.1
  have H_new := Lib.hid hs.2.1
  clear hs hb HB0
  go_wp2_with fail
  generalize wc.alloc (.cells #[.int .i64 (-3), .int .i64 4] 23) = w1 at *
  generalize wc.heap.size = q1 at *
  have H_a := H_new
  clear H_new
  refine (make_any w1 1 0 ⟨by decide, by decide⟩ ⟨by decide, by decide⟩).mono ?_
  rw [mkF_zero]
  rintro e wc ⟨rfl, hb⟩
  unfold frV
  have hs := step_block HB1.out hb (.cells #[.int .i64 0, .int .i64 0] 23)
  have HB2 := Lib.hid hs.1
  have H_new := Lib.hid hs.2.1
  have H_a2 := Lib.hid (hs.2.2.2 _ _ H_a.out)
  replace H_a := Lib.hid H_a2.out.1
  clear H_a2
  clear hs hb HB1
  go_wp2_with fail
  generalize wc.alloc (.cells #[.int .i64 0, .int .i64 0] 23) = w2 at *
  generalize wc.heap.size = q2 at *
  clear H_new
  refine (add_any w2 ⟨1, 2⟩ ⟨1, 3⟩ ⟨⟨by decide, by decide⟩, ⟨by decide, by decide⟩⟩ ⟨⟨by decide, by decide⟩, ⟨by decide, by decide⟩⟩).mono ?_
  rw [ex2]
  rintro e wc ⟨rfl, hb⟩
  unfold frV
  have hs := step_block HB2.out hb (.cells #[.int .i64 5, .int .i64 6] 23)
  have HB3 := Lib.hid hs.1
  have H_new := Lib.hid hs.2.1
  have H_a2 := Lib.hid (hs.2.2.2 _ _ H_a.out)
  replace H_a := Lib.hid H_a2.out.1
  clear H_a2
  clear hs hb HB2
  go_wp2_with fail
  generalize wc.alloc (.cells #[.int .i64 5, .int .i64 6] 23) = w3 at *
  generalize wc.heap.size = q3 at *
  have H_b := H_new
  clear H_new
  refine (round_any w3 ⟨2, 3⟩ 100 ⟨⟨by decide, by decide⟩, ⟨by decide, by decide⟩⟩ ⟨by decide, by decide⟩).mono ?_
  rw [ex3]
  rintro e wc ⟨rfl, hb⟩
  unfold frV
  have hs := step_block HB3.out hb (.cells #[.int .i64 67, .int .i64 100] 23)
  have HB4 := Lib.hid hs.1
  have HT4 := Lib.hid (HT.out.below hs.1)
  have hla := (hs.2.2.2 _ _ H_a.out).2
  have hlb := (hs.2.2.2 _ _ H_b.out).2
  obtain ⟨a0, a1, _, _⟩ := cells_two ((hb.block _ (heap_lt H_a.out)).trans H_a.out)
  obtain ⟨b0, b1, _, _⟩ := cells_two ((hb.block _ (heap_lt H_b.out)).trans H_b.out)
  clear hs hb HB3
  go_wp2_with fail
  refine (text_any _ ⟨-3, 4⟩ ⟨⟨by decide, by decide⟩, ⟨by decide, by decide⟩⟩ HT4.out).mono ?_
  rw [ex4]
  rintro e w5 ⟨rfl, hb⟩
  have HB5 := Lib.hid (HB4.out.trans (hb.mono HB4.out.size))
  clear hb
  go_wp2_with fail
  go_ret
  exact ⟨rfl, HB5.out⟩
end Go.Proofs.YtjobncfjebkcdaaDoor
