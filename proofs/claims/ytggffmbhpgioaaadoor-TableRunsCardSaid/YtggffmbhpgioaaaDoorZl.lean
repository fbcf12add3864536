/- The walk of awake. -/
import Derived.Test.YtggffmbhpgioaaaDoorZk
namespace Go.Proofs.YtggffmbhpgioaaaDoor
open Go Go.RowKit Go.Shelf
set_option linter.unusedSimpArgs false

theorem new_one (w : World) : Calls Tryd.prog 13 #[.int .i64 1] w (NewP w 1) := new_any w 1 (by omega) (by omega)
theorem put_one (w : World) {bt bs : Nat} {T T' : List En} {h m : Int} (t : TabM w bt bs 1 T h m) (z : En) (hk : z.k.size ≤ 9223372036854775807) (he : putF T 0 z = T') (hu : z.u = true) :
    Calls Tryd.prog 15 #[.pointer (some ⟨bt, 0, none⟩), .string z.k, .int .i64 z.d, .agg #[.int .i64 z.b.a, .int .i64 z.b.b, .int .i64 z.b.c, .int .i64 z.b.e]] w (PutP w bt bs 1 T' h m) := by
  have h := put_any w t z.k hk z.d z.b.a z.b.b z.b.c z.b.e
  rw [slot_one] at h
  obtain ⟨u, k, d, ⟨a, b, c, e⟩⟩ := z
  simp only at hu
  subst hu
  rw [he] at h
  exact h
theorem get_one (w : World) {bt bs : Nat} {T : List En} {h m : Int} (t : TabM w bt bs 1 T h m) (key : ByteArray) (hk : key.size ≤ 9223372036854775807) (d : Int) (h0 : 0 ≤ h) (h1 : h ≤ 100000) (m0 : 0 ≤ m) (m1 : m ≤ 100000) (r : Option Bd) (he : getF T 0 key d = r) :
    Calls Tryd.prog 16 #[.pointer (some ⟨bt, 0, none⟩), .string key, .int .i64 d] w (GetP w bt bs 1 T h m r) := by
  have hh := get_any w t key hk d h0 h1 m0 m1
  rw [slot_one, he] at hh
  exact hh
theorem Tb.grown {w w' : World} (h : Tb w) {B : Nat} (hb : Below B w w') (hB : w.heap.size ≤ B) : Tb w' := h.below (hb.mono hB)
/-- what awake keeps: the table, and that nothing old has changed -/
def Aw (w y : World) (bt bs : Nat) (T : List En) (h m : Int) : Prop := TabM y bt bs 1 T h m ∧ Below w.heap.size w y ∧ w.heap.size ≤ bt ∧ w.heap.size ≤ bs
theorem Aw.below {w y y' : World} {bt bs : Nat} {T : List En} {h m : Int} (a : Aw w y bt bs T h m) (hb : Below y.heap.size y y') : Aw w y' bt bs T h m := ⟨a.1.below hb, a.2.1.trans (hb.mono a.2.1.size), a.2.2⟩
theorem Aw.alloc {w y : World} {bt bs : Nat} {T : List En} {h m : Int} (a : Aw w y bt bs T h m) (o : Obj) : Aw w (y.alloc o) bt bs T h m := a.below ((Below.refl _ _).alloc (Nat.le_refl _) _)
theorem Aw.put {w y y' : World} {bt bs : Nat} {T T' : List En} {h m : Int} (a : Aw w y bt bs T h m) (ht : TabM y' bt bs 1 T' h m) (hg : y.grownBy y' (some bs)) : Aw w y' bt bs T' h m := ⟨ht, a.2.1.grown hg a.2.1.size (by simp; exact a.2.2.2), a.2.2⟩
theorem Aw.get {w y y' : World} {bt bs : Nat} {T : List En} {h m h' m' : Int} (a : Aw w y bt bs T h m) (ht : TabM y' bt bs 1 T h' m') (hg : y.grownBy y' (some bt)) : Aw w y' bt bs T h' m' := ⟨ht, a.2.1.grown hg a.2.1.size (by simp; exact a.2.2.1), a.2.2⟩
/-- the four cells of bounds in a block -/
def Qb (y : World) (q bt bs : Nat) (b : Bd) : Prop := y.heap[q]? = some (.cells #[.int .i64 b.a, .int .i64 b.b, .int .i64 b.c, .int .i64 b.e] 37 (0, 0)) ∧ q ≠ bt ∧ q ≠ bs
theorem Qb.grown {y y' : World} {q bt bs : Nat} {b : Bd} (h : Qb y q bt bs b) {row : Option Nat} (hg : y.grownBy y' row) (hr : row = none ∨ row = some bt ∨ row = some bs) : Qb y' q bt bs b := by
  refine ⟨(hg.block q (Array.getElem?_eq_some_iff.1 h.1).1 ?_).trans h.1, h.2⟩
  have h1 := h.2.1
  have h2 := h.2.2
  rcases hr with rfl | rfl | rfl <;> simp <;> omega
theorem Qb.below {y y' : World} {q bt bs : Nat} {b : Bd} (h : Qb y q bt bs b) (hb : Below y.heap.size y y') : Qb y' q bt bs b := h.grown (grown_below hb none) (.inl rfl)
theorem len_ex : lenF [eA, eC] = 2 := by kernel_rfl
/-- what is kept in the last test -/
def Kp (w y : World) (bt bs q : Nat) : Prop := Aw w y bt bs [eA, eC] 2 2 ∧ Qb y q bt bs eB.b
theorem Kp.below {w y y' : World} {bt bs q : Nat} (h : Kp w y bt bs q) (hb : Below y.heap.size y y') : Kp w y' bt bs q := ⟨h.1.below hb, h.2.below hb⟩
theorem Kp.cells {w y : World} {bt bs q : Nat} (h : Kp w y bt bs q) : y.cell? ⟨q, 0, none⟩ = some (.int .i64 50) ∧ y.cell? ⟨q, 1, none⟩ = some (.int .i64 1) ∧ y.cell? ⟨q, 2, none⟩ = some (.int .i64 50) ∧ y.cell? ⟨q, 3, none⟩ = some (.int .i64 1) :=
  ⟨cell_blk h.2.1 0, cell_blk h.2.1 1, cell_blk h.2.1 2, cell_blk h.2.1 3⟩
theorem len_two (w y : World) (bt bs q : Nat) (h : Kp w y bt bs q) : Calls Tryd.prog 21 #[.pointer (some ⟨bt, 0, none⟩)] y (OutB y (.int .i64 2)) := by
  have hh := len_any y h.1.1
  rw [len_ex] at hh
  exact hh

set_option maxHeartbeats 8000000 in
set_option maxRecDepth 100000 in
theorem awake_any (w : World) (ht : Tb w) : Calls Tryd.prog 8 #[] w (OutB w (.bool true)) := by
  have HTB := Lib.hid ht
  clear ht
  go_enter Tryd.func8, Tryd.ntmps8
  go_wp2_with fail
  refine (new_one w).mono ?_
  rintro e0 w1 ⟨bt, bs, rfl, ht, hlo, hls, hb⟩
  have HA := Lib.hid (show Aw w w1 bt bs (List.replicate (2 * 1) en0) 0 0 from ⟨ht, hb, hlo, hls⟩)
  replace HTB := Lib.hid (HTB.out.below hb)
  clear ht hb hlo hls
  go_wp2_with fail
  refine (hash_empty _).mono ?_
  rintro e0 w2 ⟨rfl, rfl⟩
  go_wp2_with fail
  have HN := Lib.hid (one_new w1 (.cells #[.int .i64 0, .int .i64 3] 3))
  generalize w1.alloc (.cells #[.int .i64 0, .int .i64 3] 3) = w2 at *
  replace HA := Lib.hid (HA.out.below HN.out.1)
  replace HTB := Lib.hid (HTB.out.below HN.out.1)
  refine (key_two w2 _ 2 (Array.getElem?_eq_some_iff.1 HN.out.2).1 (cell_blk HN.out.2 0) (cell_blk HN.out.2 1) HTB.out).mono ?_
  rintro e0 w3 ⟨rfl, hb⟩
  replace HA := Lib.hid (HA.out.below hb)
  replace HTB := Lib.hid (HTB.out.below hb)
  clear hb HN
  go_wp2_with fail
  refine (key_none w3 HTB.out).mono ?_
  rintro e0 w4 ⟨rfl, hb⟩
  replace HA := Lib.hid (HA.out.below hb)
  clear hb HTB
  go_wp2_with fail
  refine (bounds_any w4 0 100).mono ?_
  rintro e0 w5 ⟨rfl, hb⟩
  replace HA := Lib.hid (HA.out.below hb)
  skip
  clear hb
  go_wp2_with fail
  refine (put_one w5 HA.out.1 eA (by decide) ex1 rfl).mono ?_
  rintro e0 w6 ⟨rfl, ht, hg⟩
  skip
  replace HA := Lib.hid (HA.out.put ht hg)
  clear ht hg
  go_wp2_with fail
  refine (bounds_any w6 50 50).mono ?_
  rintro e0 w7 ⟨rfl, hb⟩
  replace HA := Lib.hid (HA.out.below hb)
  skip
  clear hb
  go_wp2_with fail
  refine (put_one w7 HA.out.1 eB (by decide) ex2 rfl).mono ?_
  rintro e0 w8 ⟨rfl, ht, hg⟩
  skip
  replace HA := Lib.hid (HA.out.put ht hg)
  clear ht hg
  go_wp2_with fail
  refine (get_one w8 HA.out.1 kA (by decide) 3 (by omega) (by omega) (by omega) (by omega) (some eA.b) ex3).mono ?_
  rintro e0 w9 ⟨rfl, ht, hg⟩
  skip
  replace HA := Lib.hid (show Aw w w9 bt bs _ 1 0 from HA.out.get ht hg)
  clear ht hg
  rw [show (Value.tuple #[bdV ((some eA.b : Option Bd).getD bd0), .bool (some eA.b : Option Bd).isSome]) = .tuple #[.agg #[.int .i64 0, .int .i64 1, .int .i64 100, .int .i64 1], .bool true] from rfl]
  go_wp2_with fail
  skip
  replace HA := Lib.hid (HA.out.alloc (.cells #[.int .i64 0, .int .i64 1, .int .i64 100, .int .i64 1] 37))
  generalize w9.alloc (.cells #[.int .i64 0, .int .i64 1, .int .i64 100, .int .i64 1] 37) = w10 at *
  generalize w9.heap.size = q9 at *
  refine (get_one w10 HA.out.1 kB (by decide) 5 (by omega) (by omega) (by omega) (by omega) (some eB.b) ex4).mono ?_
  rintro e0 w11 ⟨rfl, ht, hg⟩
  skip
  replace HA := Lib.hid (show Aw w w11 bt bs _ 2 0 from HA.out.get ht hg)
  clear ht hg
  rw [show (Value.tuple #[bdV ((some eB.b : Option Bd).getD bd0), .bool (some eB.b : Option Bd).isSome]) = .tuple #[.agg #[.int .i64 50, .int .i64 1, .int .i64 50, .int .i64 1], .bool true] from rfl]
  go_wp2_with fail
  have HQ := Lib.hid (show Qb (w11.alloc (.cells #[.int .i64 50, .int .i64 1, .int .i64 50, .int .i64 1] 37)) w11.heap.size bt bs eB.b from ⟨heap_alloc_new _ _, by have := HA.out.1.lt; omega, by have := HA.out.1.lt; omega⟩)
  replace HA := Lib.hid (HA.out.alloc (.cells #[.int .i64 50, .int .i64 1, .int .i64 50, .int .i64 1] 37))
  generalize w11.alloc (.cells #[.int .i64 50, .int .i64 1, .int .i64 50, .int .i64 1] 37) = w12 at *
  generalize w11.heap.size = qb at *
  refine (get_one w12 HA.out.1 kB (by decide) 1 (by omega) (by omega) (by omega) (by omega) (none) ex5).mono ?_
  rintro e0 w13 ⟨rfl, ht, hg⟩
  replace HQ := Lib.hid (HQ.out.grown hg (.inr (.inl rfl)))
  replace HA := Lib.hid (show Aw w w13 bt bs _ 2 1 from HA.out.get ht hg)
  clear ht hg
  rw [show (Value.tuple #[bdV ((none : Option Bd).getD bd0), .bool (none : Option Bd).isSome]) = .tuple #[.agg #[.int .i64 0, .int .i64 0, .int .i64 0, .int .i64 0], .bool false] from rfl]
  go_wp2_with fail
  replace HQ := Lib.hid (HQ.out.below ((Below.refl _ _).alloc (Nat.le_refl _) (.cells #[.int .i64 0, .int .i64 0, .int .i64 0, .int .i64 0] 37)))
  replace HA := Lib.hid (HA.out.alloc (.cells #[.int .i64 0, .int .i64 0, .int .i64 0, .int .i64 0] 37))
  generalize w13.alloc (.cells #[.int .i64 0, .int .i64 0, .int .i64 0, .int .i64 0] 37) = w14 at *
  generalize w13.heap.size = q13 at *
  refine (bounds_any w14 1 2).mono ?_
  rintro e0 w15 ⟨rfl, hb⟩
  replace HA := Lib.hid (HA.out.below hb)
  replace HQ := Lib.hid (HQ.out.below hb)
  clear hb
  go_wp2_with fail
  refine (put_one w15 HA.out.1 eC (by decide) ex6 rfl).mono ?_
  rintro e0 w16 ⟨rfl, ht, hg⟩
  replace HQ := Lib.hid (HQ.out.grown hg (.inr (.inr rfl)))
  replace HA := Lib.hid (HA.out.put ht hg)
  clear ht hg
  go_wp2_with fail
  refine (get_one w16 HA.out.1 kB (by decide) 2 (by omega) (by omega) (by omega) (by omega) (none) ex7).mono ?_
  rintro e0 w17 ⟨rfl, ht, hg⟩
  replace HQ := Lib.hid (HQ.out.grown hg (.inr (.inl rfl)))
  replace HA := Lib.hid (show Aw w w17 bt bs _ 2 2 from HA.out.get ht hg)
  clear ht hg
  rw [show (Value.tuple #[bdV ((none : Option Bd).getD bd0), .bool (none : Option Bd).isSome]) = .tuple #[.agg #[.int .i64 0, .int .i64 0, .int .i64 0, .int .i64 0], .bool false] from rfl]
  go_wp2_with fail
  replace HQ := Lib.hid (HQ.out.below ((Below.refl _ _).alloc (Nat.le_refl _) (.cells #[.int .i64 0, .int .i64 0, .int .i64 0, .int .i64 0] 37)))
  replace HA := Lib.hid (HA.out.alloc (.cells #[.int .i64 0, .int .i64 0, .int .i64 0, .int .i64 0] 37))
  generalize w17.alloc (.cells #[.int .i64 0, .int .i64 0, .int .i64 0, .int .i64 0] 37) = w18 at *
  generalize w17.heap.size = q17 at *
  refine (hits_any w18 HA.out.1).mono ?_
  rintro e0 w19 ⟨rfl, hb⟩
  have HK := Lib.hid (show Kp w w19 bt bs qb from ⟨HA.out.below hb, HQ.out.below hb⟩)
  clear hb HA HQ
  go_wp2_with fail
  refine wp_region_held_drew (S := fun y => Kp w y bt bs qb) (by kernel_rfl) (HK.out.below (Below.drew (Below.refl _ _))) (fun hHeld => ?_)
  refine held_take (i := 0) (by rfl) (by kernel_rfl) (by kernel_rfl) (by kernel_rfl) (by intro c a w h; exact h) (by rfl) (by intro w' hSw; obtain ⟨s1, s2, s3, s4⟩ := Kp.cells hSw; go_simp; try with_reducible rfl) hHeld ?_
  try simp only [Act.put, List.setIfInBounds_toArray, List.set_cons_zero, List.set_cons_succ]
  refine held_take (i := 1) (by rfl) (by kernel_rfl) (by kernel_rfl) (by kernel_rfl) (by intro c a w h; exact h) (by rfl) (by intro w' hSw; obtain ⟨s1, s2, s3, s4⟩ := Kp.cells hSw; go_simp; try with_reducible rfl) hHeld ?_
  try simp only [Act.put, List.setIfInBounds_toArray, List.set_cons_zero, List.set_cons_succ]
  refine held_take (i := 2) (by rfl) (by kernel_rfl) (by kernel_rfl) (by kernel_rfl) (by intro c a w h; exact h) (by rfl) (by intro w' hSw; obtain ⟨s1, s2, s3, s4⟩ := Kp.cells hSw; go_simp; try with_reducible rfl) hHeld ?_
  try simp only [Act.put, List.setIfInBounds_toArray, List.set_cons_zero, List.set_cons_succ]
  refine held_take (i := 3) (by rfl) (by kernel_rfl) (by kernel_rfl) (by kernel_rfl) (by intro c a w h; exact h) (by rfl) (by intro w' hSw; obtain ⟨s1, s2, s3, s4⟩ := Kp.cells hSw; go_simp; try with_reducible rfl) hHeld ?_
  try simp only [Act.put, List.setIfInBounds_toArray, List.set_cons_zero, List.set_cons_succ]
  refine held_take (i := 4) (by rfl) (by kernel_rfl) (by kernel_rfl) (by kernel_rfl) (by intro c a w h; exact h) (by rfl) (by intro w' hSw; obtain ⟨s1, s2, s3, s4⟩ := Kp.cells hSw; go_simp; try with_reducible rfl) hHeld ?_
  try simp only [Act.put, List.setIfInBounds_toArray, List.set_cons_zero, List.set_cons_succ]
  refine held_take (i := 5) (by rfl) (by kernel_rfl) (by kernel_rfl) (by kernel_rfl) (by intro c a w h; exact h) (by rfl) (by intro w' hSw; obtain ⟨s1, s2, s3, s4⟩ := Kp.cells hSw; go_simp; try with_reducible rfl) hHeld ?_
  try simp only [Act.put, List.setIfInBounds_toArray, List.set_cons_zero, List.set_cons_succ]
  refine wpAnyH_ready (rs := [6]) (by kernel_rfl) (by simp) ?_
  refine held_one (by rfl) (fun K hK => ?_)
  go_simp
  refine (bounds_any _ 50 50).mono ?_
  rintro e9 w9 ⟨rfl, hb9⟩
  refine hK.out _ _ (hHeld.below hb9) (fun hHeld9 => ?_)
  clear hHeld hK K
  have hHeld := hHeld9
  clear hHeld9
  try simp only [Act.put, List.setIfInBounds_toArray, List.set_cons_zero, List.set_cons_succ]
  refine held_take (i := 7) (by rfl) (by kernel_rfl) (by kernel_rfl) (by kernel_rfl) (by intro c a w h; exact h) (by rfl) (by intro w' hSw; obtain ⟨s1, s2, s3, s4⟩ := Kp.cells hSw; go_simp; try with_reducible rfl) hHeld ?_
  try simp only [Act.put, List.setIfInBounds_toArray, List.set_cons_zero, List.set_cons_succ]
  refine held_take (i := 8) (by rfl) (by kernel_rfl) (by kernel_rfl) (by kernel_rfl) (by intro c a w h; exact h) (by rfl) (by intro w' hSw; obtain ⟨s1, s2, s3, s4⟩ := Kp.cells hSw; go_simp; try with_reducible rfl) hHeld ?_
  try simp only [Act.put, List.setIfInBounds_toArray, List.set_cons_zero, List.set_cons_succ]
  refine held_take (i := 9) (by rfl) (by kernel_rfl) (by kernel_rfl) (by kernel_rfl) (by intro c a w h; exact h) (by rfl) (by intro w' hSw; obtain ⟨s1, s2, s3, s4⟩ := Kp.cells hSw; go_simp; try with_reducible rfl) hHeld ?_
  try simp only [Act.put, List.setIfInBounds_toArray, List.set_cons_zero, List.set_cons_succ]
  refine held_take (i := 10) (by rfl) (by kernel_rfl) (by kernel_rfl) (by kernel_rfl) (by intro c a w h; exact h) (by rfl) (by intro w' hSw; obtain ⟨s1, s2, s3, s4⟩ := Kp.cells hSw; go_simp; try with_reducible rfl) hHeld ?_
  try simp only [Act.put, List.setIfInBounds_toArray, List.set_cons_zero, List.set_cons_succ]
  refine held_take (i := 11) (by rfl) (by kernel_rfl) (by kernel_rfl) (by kernel_rfl) (by intro c a w h; exact h) (by rfl) (by intro w' hSw; obtain ⟨s1, s2, s3, s4⟩ := Kp.cells hSw; go_simp; try with_reducible rfl) hHeld ?_
  try simp only [Act.put, List.setIfInBounds_toArray, List.set_cons_zero, List.set_cons_succ]
  refine held_take (i := 12) (by rfl) (by kernel_rfl) (by kernel_rfl) (by kernel_rfl) (by intro c a w h; exact h) (by rfl) (by intro w' hSw; obtain ⟨s1, s2, s3, s4⟩ := Kp.cells hSw; go_simp; try with_reducible rfl) hHeld ?_
  try simp only [Act.put, List.setIfInBounds_toArray, List.set_cons_zero, List.set_cons_succ]
  refine held_take (i := 13) (by rfl) (by kernel_rfl) (by kernel_rfl) (by kernel_rfl) (by intro c a w h; exact h) (by rfl) (by intro w' hSw; obtain ⟨s1, s2, s3, s4⟩ := Kp.cells hSw; go_simp; try with_reducible rfl) hHeld ?_
  try simp only [Act.put, List.setIfInBounds_toArray, List.set_cons_zero, List.set_cons_succ]
  refine held_take (i := 14) (by rfl) (by kernel_rfl) (by kernel_rfl) (by kernel_rfl) (by intro c a w h; exact h) (by rfl) (by intro w' hSw; obtain ⟨s1, s2, s3, s4⟩ := Kp.cells hSw; go_simp; try with_reducible rfl) hHeld ?_
  try simp only [Act.put, List.setIfInBounds_toArray, List.set_cons_zero, List.set_cons_succ]
  refine held_take (i := 15) (by rfl) (by kernel_rfl) (by kernel_rfl) (by kernel_rfl) (by intro c a w h; exact h) (by rfl) (by intro w' hSw; obtain ⟨s1, s2, s3, s4⟩ := Kp.cells hSw; go_simp; try with_reducible rfl) hHeld ?_
  try simp only [Act.put, List.setIfInBounds_toArray, List.set_cons_zero, List.set_cons_succ]
  refine held_take (i := 16) (by rfl) (by kernel_rfl) (by kernel_rfl) (by kernel_rfl) (by intro c a w h; exact h) (by rfl) (by intro w' hSw; obtain ⟨s1, s2, s3, s4⟩ := Kp.cells hSw; go_simp; try with_reducible rfl) hHeld ?_
  try simp only [Act.put, List.setIfInBounds_toArray, List.set_cons_zero, List.set_cons_succ]
  refine held_take (i := 17) (by rfl) (by kernel_rfl) (by kernel_rfl) (by kernel_rfl) (by intro c a w h; exact h) (by rfl) (by intro w' hSw; obtain ⟨s1, s2, s3, s4⟩ := Kp.cells hSw; go_simp; try with_reducible rfl) hHeld ?_
  try simp only [Act.put, List.setIfInBounds_toArray, List.set_cons_zero, List.set_cons_succ]
  refine held_take (i := 18) (by rfl) (by kernel_rfl) (by kernel_rfl) (by kernel_rfl) (by intro c a w h; exact h) (by rfl) (by intro w' hSw; obtain ⟨s1, s2, s3, s4⟩ := Kp.cells hSw; go_simp; try with_reducible rfl) hHeld ?_
  try simp only [Act.put, List.setIfInBounds_toArray, List.set_cons_zero, List.set_cons_succ]
  refine wpAnyH_ready (rs := [19]) (by kernel_rfl) (by simp) ?_
  refine held_one (by rfl) (fun K hK => ?_)
  go_simp
  refine (len_two w _ bt bs qb hHeld).mono ?_
  rintro e9 w9 ⟨rfl, hb9⟩
  refine hK.out _ _ (hHeld.below hb9) (fun hHeld9 => ?_)
  clear hHeld hK K
  have hHeld := hHeld9
  clear hHeld9
  try simp only [Act.put, List.setIfInBounds_toArray, List.set_cons_zero, List.set_cons_succ]
  refine held_take (i := 20) (by rfl) (by kernel_rfl) (by kernel_rfl) (by kernel_rfl) (by intro c a w h; exact h) (by rfl) (by intro w' hSw; obtain ⟨s1, s2, s3, s4⟩ := Kp.cells hSw; go_simp; try with_reducible rfl) hHeld ?_
  try simp only [Act.put, List.setIfInBounds_toArray, List.set_cons_zero, List.set_cons_succ]
  refine held_take (i := 21) (by rfl) (by kernel_rfl) (by kernel_rfl) (by kernel_rfl) (by intro c a w h; exact h) (by rfl) (by intro w' hSw; obtain ⟨s1, s2, s3, s4⟩ := Kp.cells hSw; go_simp; try with_reducible rfl) hHeld ?_
  try simp only [Act.put, List.setIfInBounds_toArray, List.set_cons_zero, List.set_cons_succ]
  refine held_take (i := 22) (by rfl) (by kernel_rfl) (by kernel_rfl) (by kernel_rfl) (by intro c a w h; exact h) (by rfl) (by intro w' hSw; obtain ⟨s1, s2, s3, s4⟩ := Kp.cells hSw; go_simp; try with_reducible rfl) hHeld ?_
  try simp only [Act.put, List.setIfInBounds_toArray, List.set_cons_zero, List.set_cons_succ]
  refine held_take (i := 23) (by rfl) (by kernel_rfl) (by kernel_rfl) (by kernel_rfl) (by intro c a w h; exact h) (by rfl) (by intro w' hSw; obtain ⟨s1, s2, s3, s4⟩ := Kp.cells hSw; go_simp; try with_reducible rfl) hHeld ?_
  try simp only [Act.put, List.setIfInBounds_toArray, List.set_cons_zero, List.set_cons_succ]
  refine held_take (i := 24) (by rfl) (by kernel_rfl) (by kernel_rfl) (by kernel_rfl) (by intro c a w h; exact h) (by rfl) (by intro w' hSw; obtain ⟨s1, s2, s3, s4⟩ := Kp.cells hSw; go_simp; try with_reducible rfl) hHeld ?_
  try simp only [Act.put, List.setIfInBounds_toArray, List.set_cons_zero, List.set_cons_succ]
  refine held_take (i := 25) (by rfl) (by kernel_rfl) (by kernel_rfl) (by kernel_rfl) (by intro c a w h; exact h) (by rfl) (by intro w' hSw; obtain ⟨s1, s2, s3, s4⟩ := Kp.cells hSw; go_simp; try with_reducible rfl) hHeld ?_
  try simp only [Act.put, List.setIfInBounds_toArray, List.set_cons_zero, List.set_cons_succ]
  refine held_take (i := 26) (by rfl) (by kernel_rfl) (by kernel_rfl) (by kernel_rfl) (by intro c a w h; exact h) (by rfl) (by intro w' hSw; obtain ⟨s1, s2, s3, s4⟩ := Kp.cells hSw; go_simp; try with_reducible rfl) hHeld ?_
  try simp only [Act.put, List.setIfInBounds_toArray, List.set_cons_zero, List.set_cons_succ]
  refine held_take (i := 27) (by rfl) (by kernel_rfl) (by kernel_rfl) (by kernel_rfl) (by intro c a w h; exact h) (by rfl) (by intro w' hSw; obtain ⟨s1, s2, s3, s4⟩ := Kp.cells hSw; go_simp; try with_reducible rfl) hHeld ?_
  try simp only [Act.put, List.setIfInBounds_toArray, List.set_cons_zero, List.set_cons_succ]
  refine held_take (i := 28) (by rfl) (by kernel_rfl) (by kernel_rfl) (by kernel_rfl) (by intro c a w h; exact h) (by rfl) (by intro w' hSw; obtain ⟨s1, s2, s3, s4⟩ := Kp.cells hSw; go_simp; try with_reducible rfl) hHeld ?_
  try simp only [Act.put, List.setIfInBounds_toArray, List.set_cons_zero, List.set_cons_succ]
  refine held_take (i := 29) (by rfl) (by kernel_rfl) (by kernel_rfl) (by kernel_rfl) (by intro c a w h; exact h) (by rfl) (by intro w' hSw; obtain ⟨s1, s2, s3, s4⟩ := Kp.cells hSw; go_simp; try with_reducible rfl) hHeld ?_
  try simp only [Act.put, List.setIfInBounds_toArray, List.set_cons_zero, List.set_cons_succ]
  refine held_take (i := 30) (by rfl) (by kernel_rfl) (by kernel_rfl) (by kernel_rfl) (by intro c a w h; exact h) (by rfl) (by intro w' hSw; obtain ⟨s1, s2, s3, s4⟩ := Kp.cells hSw; go_simp; try with_reducible rfl) hHeld ?_
  try simp only [Act.put, List.setIfInBounds_toArray, List.set_cons_zero, List.set_cons_succ]
  refine wpAnyH_done (by kernel_rfl) ?_ _
  go_wp2_with fail
  go_ret
  exact ⟨rfl, hHeld.1.2.1⟩
end Go.Proofs.YtggffmbhpgioaaaDoor
