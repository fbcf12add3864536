/- The walks of fraction.both, Add, Sub, Mul, Div. -/
import Derived.Test.YtjobncfjebkcdaaDoorFv
namespace Go.Proofs.YtjobncfjebkcdaaDoor
open Go Go.RowKit
set_option linter.unusedSimpArgs false

theorem prod_le {x y : Int} (hx : -1073741824 ≤ x ∧ x ≤ 1073741824) (hy : -1073741824 ≤ y ∧ y ≤ 1073741824) : -1152921504606846976 ≤ x * y ∧ x * y ≤ 1152921504606846976 := by
  have h : (x * y).natAbs ≤ 1073741824 * 1073741824 := by rw [Int.natAbs_mul]; exact Nat.mul_le_mul (by omega) (by omega)
  omega
/-- three blocks laid one after the other -/
structure B3 (w0 w : World) (x y z : Obj) : Prop where
  a : w.heap[w0.heap.size]? = some x
  b : w.heap[w0.heap.size + 1]? = some y
  c : w.heap[w0.heap.size + 2]? = some z
  d : Below w0.heap.size w0 w
theorem B3.lay (w : World) (x y z : Obj) : B3 w (((w.alloc x).alloc y).alloc z) x y z := by
  have s1 : (w.alloc x).heap.size = w.heap.size + 1 := by simp
  have s2 : ((w.alloc x).alloc y).heap.size = w.heap.size + 2 := by simp
  refine ⟨?_, ?_, ?_, (((Below.refl _ _).alloc (Nat.le_refl _) _).alloc (by omega) _).alloc (by omega) _⟩
  · rw [Below.heap_alloc _ _ _ (by omega), Below.heap_alloc _ _ _ (by omega)]; exact heap_alloc_new _ _
  · rw [Below.heap_alloc _ _ _ (by omega), ← s1]; exact heap_alloc_new _ _
  · rw [← s2]; exact heap_alloc_new _ _
theorem B3.below {w0 w w' : World} {x y z : Obj} (h : B3 w0 w x y z) (hb : Below w.heap.size w w') : B3 w0 w' x y z :=
  ⟨(hb.block _ (heap_lt h.a)).trans h.a, (hb.block _ (heap_lt h.b)).trans h.b, (hb.block _ (heap_lt h.c)).trans h.c, h.d.trans (hb.mono h.d.size)⟩
theorem two_box (w : World) (x y : Obj) : ((w.alloc x).alloc y).heap[w.heap.size]? = some x ∧ ((w.alloc x).alloc y).heap[w.heap.size + 1]? = some y := by
  have s1 : (w.alloc x).heap.size = w.heap.size + 1 := by simp
  refine ⟨?_, ?_⟩
  · rw [Below.heap_alloc _ _ _ (by omega)]; exact heap_alloc_new _ _
  · rw [← s1]; exact heap_alloc_new _ _

set_option maxHeartbeats 4000000 in
set_option maxRecDepth 100000 in
theorem both_any (w : World) (a b : Fr) (ha : FI a) (hb : FI b) : Calls Tryd.prog 44 #[frV a, frV b] w (OutB w (.int .i64 (if FrOk a ∧ FrOk b then 0 else 13))) := by
  have HA := Lib.hid (fun w => valid_any w a ha)
  have HBV := Lib.hid (fun w => valid_any w b hb)
  obtain ⟨an, ad⟩ := a
  obtain ⟨bn, bd⟩ := b
  have HB0 := Lib.hid (((Below.refl w.heap.size w).alloc (Nat.le_refl _) (.cells #[.int .i64 an, .int .i64 ad] 23)).alloc (by simp) (.cells #[.int .i64 bn, .int .i64 bd] 23))
  have HR0 := Lib.hid (two_box w (.cells #[.int .i64 an, .int .i64 ad] 23) (.cells #[.int .i64 bn, .int .i64 bd] 23))
  clear ha hb
  unfold frV
  by_cases hva : FrOk ⟨an, ad⟩
  rotate_left
  focus
    rw [if_neg (fun h => hva h.1)]
    go_enter Tryd.func44, Tryd.ntmps44
    go_wp2_with fail
    generalize (w.alloc (.cells #[.int .i64 an, .int .i64 ad] 23)).alloc (.cells #[.int .i64 bn, .int .i64 bd] 23) = w0 at *
    refine (HA.out _).mono ?_
    rintro e w1 ⟨rfl, hb⟩
    rw [show decide (FrOk ⟨an, ad⟩) = false from by simp [hva]]
    have HB1 := Lib.hid (HB0.out.trans (hb.mono HB0.out.size))
    have HR1 := Lib.hid ((hb.block _ (heap_lt HR0.out.2)).trans HR0.out.2)
    obtain ⟨v0, v1, g0, g1⟩ := cells_two HR1.out
    clear hb HB0 HR0
    go_wp2_with fail
    go_ret
    exact ⟨rfl, HB1.out⟩
  by_cases hvb : FrOk ⟨bn, bd⟩
  focus
    rw [if_pos ⟨hva, hvb⟩]
    go_enter Tryd.func44, Tryd.ntmps44
    go_wp2_with fail
    generalize (w.alloc (.cells #[.int .i64 an, .int .i64 ad] 23)).alloc (.cells #[.int .i64 bn, .int .i64 bd] 23) = w0 at *
    refine (HA.out _).mono ?_
    rintro e w1 ⟨rfl, hb⟩
    rw [show decide (FrOk ⟨an, ad⟩) = true from by simp [hva]]
    have HB1 := Lib.hid (HB0.out.trans (hb.mono HB0.out.size))
    have HR1 := Lib.hid ((hb.block _ (heap_lt HR0.out.2)).trans HR0.out.2)
    obtain ⟨v0, v1, g0, g1⟩ := cells_two HR1.out
    clear hb HB0 HR0
    go_wp2_with fail
    refine (HBV.out _).mono ?_
    rintro e w2 ⟨rfl, hb⟩
    rw [show decide (FrOk ⟨bn, bd⟩) = true from by simp [hvb]]
    have HB2 := Lib.hid (HB1.out.trans (hb.mono HB1.out.size))
    clear hb HB1
    go_wp2_with fail
    go_ret
    exact ⟨rfl, HB2.out⟩
  focus
    rw [if_neg (fun h => hvb h.2)]
    go_enter Tryd.func44, Tryd.ntmps44
    go_wp2_with fail
    generalize (w.alloc (.cells #[.int .i64 an, .int .i64 ad] 23)).alloc (.cells #[.int .i64 bn, .int .i64 bd] 23) = w0 at *
    refine (HA.out _).mono ?_
    rintro e w1 ⟨rfl, hb⟩
    rw [show decide (FrOk ⟨an, ad⟩) = true from by simp [hva]]
    have HB1 := Lib.hid (HB0.out.trans (hb.mono HB0.out.size))
    have HR1 := Lib.hid ((hb.block _ (heap_lt HR0.out.2)).trans HR0.out.2)
    obtain ⟨v0, v1, g0, g1⟩ := cells_two HR1.out
    clear hb HB0 HR0
    go_wp2_with fail
    refine (HBV.out _).mono ?_
    rintro e w2 ⟨rfl, hb⟩
    rw [show decide (FrOk ⟨bn, bd⟩) = false from by simp [hvb]]
    have HB2 := Lib.hid (HB1.out.trans (hb.mono HB1.out.size))
    clear hb HB1
    go_wp2_with fail
    go_ret
    exact ⟨rfl, HB2.out⟩

set_option maxHeartbeats 4000000 in
set_option maxRecDepth 100000 in
theorem add_any (w : World) (a b : Fr) (ha : FI a) (hb : FI b) : Calls Tryd.prog 15 #[frV a, frV b] w (OutF w (addF a b)) := by
  have HBO := Lib.hid (fun w => both_any w a b ha hb)
  obtain ⟨an, ad⟩ := a
  obtain ⟨bn, bd⟩ := b
  have HR0 := Lib.hid (B3.lay w (.cells #[.int .i64 an, .int .i64 ad] 23) (.cells #[.int .i64 bn, .int .i64 bd] 23) (.cells #[.int .i64 0, .int .i64 0] 23))
  clear ha hb
  unfold frV at HBO ⊢
  by_cases hv : FrOk ⟨an, ad⟩ ∧ FrOk ⟨bn, bd⟩
  rotate_left
  focus
    have HF : Hid (addF ⟨an, ad⟩ ⟨bn, bd⟩ = (⟨0, 0⟩, 13)) := by unfold Hid addF; rw [if_neg hv]
    go_enter Tryd.func15, Tryd.ntmps15
    go_wp2_with fail
    generalize ((w.alloc (.cells #[.int .i64 an, .int .i64 ad] 23)).alloc (.cells #[.int .i64 bn, .int .i64 bd] 23)).alloc (.cells #[.int .i64 0, .int .i64 0] 23) = w0 at *
    refine (HBO.out _).mono ?_
    rintro e w1 ⟨rfl, hb⟩
    rw [if_neg hv]
    have HR1 := Lib.hid (HR0.out.below hb)
    obtain ⟨a0, a1, g0, g1⟩ := cells_two HR1.out.a
    obtain ⟨b0, b1, k0, k1⟩ := cells_two HR1.out.b
    obtain ⟨v0, v1, z0, z1⟩ := cells_two HR1.out.c
    clear hb HR0
    go_wp2_with fail
    refine bodyPost_ret (v := .tuple #[frV ⟨0, 0⟩, .int .i64 13]) (by simp [results, Tryd.results15, go_sem, frV, v0, v1]) rfl ?_
    rw [HF.out]
    exact ⟨rfl, by have hb := HR1.out.d; clear HR1; go_grown⟩
  obtain ⟨⟨h1, h2, h3, h4, _⟩, k1, k2, k3, k4, _⟩ := id hv
  simp only at h1 h2 h3 h4 k1 k2 k3 k4
  have p0 := prod_le (x := an) (y := bd) (by omega) (by omega)
  obtain ⟨p0a, p0b⟩ := p0
  have p1 := prod_le (x := bn) (y := ad) (by omega) (by omega)
  obtain ⟨p1a, p1b⟩ := p1
  have p2 := prod_le (x := ad) (y := bd) (by omega) (by omega)
  obtain ⟨p2a, p2b⟩ := p2
  focus
    have HF : Hid (addF ⟨an, ad⟩ ⟨bn, bd⟩ = mkF (an * bd + bn * ad) (ad * bd)) := by unfold Hid addF; rw [if_pos hv]
    go_enter Tryd.func15, Tryd.ntmps15
    go_wp2_with fail
    generalize ((w.alloc (.cells #[.int .i64 an, .int .i64 ad] 23)).alloc (.cells #[.int .i64 bn, .int .i64 bd] 23)).alloc (.cells #[.int .i64 0, .int .i64 0] 23) = w0 at *
    refine (HBO.out _).mono ?_
    rintro e w1 ⟨rfl, hb⟩
    rw [if_pos hv]
    have HR1 := Lib.hid (HR0.out.below hb)
    obtain ⟨a0, a1, g0, g1⟩ := cells_two HR1.out.a
    obtain ⟨b0, b1, k0, k1⟩ := cells_two HR1.out.b
    obtain ⟨v0, v1, z0, z1⟩ := cells_two HR1.out.c
    clear hb HR0
    go_wp2_with fail
    refine (make_any w1 (an * bd + bn * ad) (ad * bd) (by unfold I64; omega) (by unfold I64; omega)).mono ?_
    rintro e w2 ⟨rfl, hb⟩
    cases hx : mkF (an * bd + bn * ad) (ad * bd) with
    | mk x e =>
    obtain ⟨c, d⟩ := x
    rw [hx] at HF
    unfold frV
    have HR2 := Lib.hid (HR1.out.below hb)
    obtain ⟨v0, v1, z0, z1⟩ := cells_two HR2.out.c
    clear hb HR1 hx
    go_wp2_with fail
    refine bodyPost_ret (v := .tuple #[frV ⟨c, d⟩, .int .i64 e]) (by simp [results, Tryd.results15, go_sem, frV, v0, v1]) rfl ?_
    rw [HF.out]
    exact ⟨rfl, by have hb := HR2.out.d; clear HR2; go_grown⟩

set_option maxHeartbeats 4000000 in
set_option maxRecDepth 100000 in
theorem sub_any (w : World) (a b : Fr) (ha : FI a) (hb : FI b) : Calls Tryd.prog 16 #[frV a, frV b] w (OutF w (subF a b)) := by
  have HBO := Lib.hid (fun w => both_any w a b ha hb)
  obtain ⟨an, ad⟩ := a
  obtain ⟨bn, bd⟩ := b
  have HR0 := Lib.hid (B3.lay w (.cells #[.int .i64 an, .int .i64 ad] 23) (.cells #[.int .i64 bn, .int .i64 bd] 23) (.cells #[.int .i64 0, .int .i64 0] 23))
  clear ha hb
  unfold frV at HBO ⊢
  by_cases hv : FrOk ⟨an, ad⟩ ∧ FrOk ⟨bn, bd⟩
  rotate_left
  focus
    have HF : Hid (subF ⟨an, ad⟩ ⟨bn, bd⟩ = (⟨0, 0⟩, 13)) := by unfold Hid subF; rw [if_neg hv]
    go_enter Tryd.func16, Tryd.ntmps16
    go_wp2_with fail
    generalize ((w.alloc (.cells #[.int .i64 an, .int .i64 ad] 23)).alloc (.cells #[.int .i64 bn, .int .i64 bd] 23)).alloc (.cells #[.int .i64 0, .int .i64 0] 23) = w0 at *
    refine (HBO.out _).mono ?_
    rintro e w1 ⟨rfl, hb⟩
    rw [if_neg hv]
    have HR1 := Lib.hid (HR0.out.below hb)
    obtain ⟨a0, a1, g0, g1⟩ := cells_two HR1.out.a
    obtain ⟨b0, b1, k0, k1⟩ := cells_two HR1.out.b
    obtain ⟨v0, v1, z0, z1⟩ := cells_two HR1.out.c
    clear hb HR0
    go_wp2_with fail
    refine bodyPost_ret (v := .tuple #[frV ⟨0, 0⟩, .int .i64 13]) (by simp [results, Tryd.results16, go_sem, frV, v0, v1]) rfl ?_
    rw [HF.out]
    exact ⟨rfl, by have hb := HR1.out.d; clear HR1; go_grown⟩
  obtain ⟨⟨h1, h2, h3, h4, _⟩, k1, k2, k3, k4, _⟩ := id hv
  simp only at h1 h2 h3 h4 k1 k2 k3 k4
  have p0 := prod_le (x := an) (y := bd) (by omega) (by omega)
  obtain ⟨p0a, p0b⟩ := p0
  have p1 := prod_le (x := bn) (y := ad) (by omega) (by omega)
  obtain ⟨p1a, p1b⟩ := p1
  have p2 := prod_le (x := ad) (y := bd) (by omega) (by omega)
  obtain ⟨p2a, p2b⟩ := p2
  focus
    have HF : Hid (subF ⟨an, ad⟩ ⟨bn, bd⟩ = mkF (an * bd - bn * ad) (ad * bd)) := by unfold Hid subF; rw [if_pos hv]
    go_enter Tryd.func16, Tryd.ntmps16
    go_wp2_with fail
    generalize ((w.alloc (.cells #[.int .i64 an, .int .i64 ad] 23)).alloc (.cells #[.int .i64 bn, .int .i64 bd] 23)).alloc (.cells #[.int .i64 0, .int .i64 0] 23) = w0 at *
    refine (HBO.out _).mono ?_
    rintro e w1 ⟨rfl, hb⟩
    rw [if_pos hv]
    have HR1 := Lib.hid (HR0.out.below hb)
    obtain ⟨a0, a1, g0, g1⟩ := cells_two HR1.out.a
    obtain ⟨b0, b1, k0, k1⟩ := cells_two HR1.out.b
    obtain ⟨v0, v1, z0, z1⟩ := cells_two HR1.out.c
    clear hb HR0
    go_wp2_with fail
    refine (make_any w1 (an * bd - bn * ad) (ad * bd) (by unfold I64; omega) (by unfold I64; omega)).mono ?_
    rintro e w2 ⟨rfl, hb⟩
    cases hx : mkF (an * bd - bn * ad) (ad * bd) with
    | mk x e =>
    obtain ⟨c, d⟩ := x
    rw [hx] at HF
    unfold frV
    have HR2 := Lib.hid (HR1.out.below hb)
    obtain ⟨v0, v1, z0, z1⟩ := cells_two HR2.out.c
    clear hb HR1 hx
    go_wp2_with fail
    refine bodyPost_ret (v := .tuple #[frV ⟨c, d⟩, .int .i64 e]) (by simp [results, Tryd.results16, go_sem, frV, v0, v1]) rfl ?_
    rw [HF.out]
    exact ⟨rfl, by have hb := HR2.out.d; clear HR2; go_grown⟩

set_option maxHeartbeats 4000000 in
set_option maxRecDepth 100000 in
theorem mul_any (w : World) (a b : Fr) (ha : FI a) (hb : FI b) : Calls Tryd.prog 17 #[frV a, frV b] w (OutF w (mulF a b)) := by
  have HBO := Lib.hid (fun w => both_any w a b ha hb)
  obtain ⟨an, ad⟩ := a
  obtain ⟨bn, bd⟩ := b
  have HR0 := Lib.hid (B3.lay w (.cells #[.int .i64 an, .int .i64 ad] 23) (.cells #[.int .i64 bn, .int .i64 bd] 23) (.cells #[.int .i64 0, .int .i64 0] 23))
  clear ha hb
  unfold frV at HBO ⊢
  by_cases hv : FrOk ⟨an, ad⟩ ∧ FrOk ⟨bn, bd⟩
  rotate_left
  focus
    have HF : Hid (mulF ⟨an, ad⟩ ⟨bn, bd⟩ = (⟨0, 0⟩, 13)) := by unfold Hid mulF; rw [if_neg hv]
    go_enter Tryd.func17, Tryd.ntmps17
    go_wp2_with fail
    generalize ((w.alloc (.cells #[.int .i64 an, .int .i64 ad] 23)).alloc (.cells #[.int .i64 bn, .int .i64 bd] 23)).alloc (.cells #[.int .i64 0, .int .i64 0] 23) = w0 at *
    refine (HBO.out _).mono ?_
    rintro e w1 ⟨rfl, hb⟩
    rw [if_neg hv]
    have HR1 := Lib.hid (HR0.out.below hb)
    obtain ⟨a0, a1, g0, g1⟩ := cells_two HR1.out.a
    obtain ⟨b0, b1, k0, k1⟩ := cells_two HR1.out.b
    obtain ⟨v0, v1, z0, z1⟩ := cells_two HR1.out.c
    clear hb HR0
    go_wp2_with fail
    refine bodyPost_ret (v := .tuple #[frV ⟨0, 0⟩, .int .i64 13]) (by simp [results, Tryd.results17, go_sem, frV, v0, v1]) rfl ?_
    rw [HF.out]
    exact ⟨rfl, by have hb := HR1.out.d; clear HR1; go_grown⟩
  obtain ⟨⟨h1, h2, h3, h4, _⟩, k1, k2, k3, k4, _⟩ := id hv
  simp only at h1 h2 h3 h4 k1 k2 k3 k4
  have p0 := prod_le (x := an) (y := bn) (by omega) (by omega)
  obtain ⟨p0a, p0b⟩ := p0
  have p1 := prod_le (x := ad) (y := bd) (by omega) (by omega)
  obtain ⟨p1a, p1b⟩ := p1
  focus
    have HF : Hid (mulF ⟨an, ad⟩ ⟨bn, bd⟩ = mkF (an * bn) (ad * bd)) := by unfold Hid mulF; rw [if_pos hv]
    go_enter Tryd.func17, Tryd.ntmps17
    go_wp2_with fail
    generalize ((w.alloc (.cells #[.int .i64 an, .int .i64 ad] 23)).alloc (.cells #[.int .i64 bn, .int .i64 bd] 23)).alloc (.cells #[.int .i64 0, .int .i64 0] 23) = w0 at *
    refine (HBO.out _).mono ?_
    rintro e w1 ⟨rfl, hb⟩
    rw [if_pos hv]
    have HR1 := Lib.hid (HR0.out.below hb)
    obtain ⟨a0, a1, g0, g1⟩ := cells_two HR1.out.a
    obtain ⟨b0, b1, k0, k1⟩ := cells_two HR1.out.b
    obtain ⟨v0, v1, z0, z1⟩ := cells_two HR1.out.c
    clear hb HR0
    go_wp2_with fail
    refine (make_any w1 (an * bn) (ad * bd) (by unfold I64; omega) (by unfold I64; omega)).mono ?_
    rintro e w2 ⟨rfl, hb⟩
    cases hx : mkF (an * bn) (ad * bd) with
    | mk x e =>
    obtain ⟨c, d⟩ := x
    rw [hx] at HF
    unfold frV
    have HR2 := Lib.hid (HR1.out.below hb)
    obtain ⟨v0, v1, z0, z1⟩ := cells_two HR2.out.c
    clear hb HR1 hx
    go_wp2_with fail
    refine bodyPost_ret (v := .tuple #[frV ⟨c, d⟩, .int .i64 e]) (by simp [results, Tryd.results17, go_sem, frV, v0, v1]) rfl ?_
    rw [HF.out]
    exact ⟨rfl, by have hb := HR2.out.d; clear HR2; go_grown⟩

set_option maxHeartbeats 4000000 in
set_option maxRecDepth 100000 in
theorem quo_any (w : World) (a b : Fr) (ha : FI a) (hb : FI b) : Calls Tryd.prog 18 #[frV a, frV b] w (OutF w (divF a b)) := by
  have HBO := Lib.hid (fun w => both_any w a b ha hb)
  obtain ⟨an, ad⟩ := a
  obtain ⟨bn, bd⟩ := b
  have HR0 := Lib.hid (B3.lay w (.cells #[.int .i64 an, .int .i64 ad] 23) (.cells #[.int .i64 bn, .int .i64 bd] 23) (.cells #[.int .i64 0, .int .i64 0] 23))
  clear ha hb
  unfold frV at HBO ⊢
  by_cases hv : FrOk ⟨an, ad⟩ ∧ FrOk ⟨bn, bd⟩
  rotate_left
  focus
    have HF : Hid (divF ⟨an, ad⟩ ⟨bn, bd⟩ = (⟨0, 0⟩, 13)) := by unfold Hid divF; rw [if_neg hv]
    go_enter Tryd.func18, Tryd.ntmps18
    go_wp2_with fail
    generalize ((w.alloc (.cells #[.int .i64 an, .int .i64 ad] 23)).alloc (.cells #[.int .i64 bn, .int .i64 bd] 23)).alloc (.cells #[.int .i64 0, .int .i64 0] 23) = w0 at *
    refine (HBO.out _).mono ?_
    rintro e w1 ⟨rfl, hb⟩
    rw [if_neg hv]
    have HR1 := Lib.hid (HR0.out.below hb)
    obtain ⟨a0, a1, g0, g1⟩ := cells_two HR1.out.a
    obtain ⟨b0, b1, k0, k1⟩ := cells_two HR1.out.b
    obtain ⟨v0, v1, z0, z1⟩ := cells_two HR1.out.c
    clear hb HR0
    go_wp2_with fail
    refine bodyPost_ret (v := .tuple #[frV ⟨0, 0⟩, .int .i64 13]) (by simp [results, Tryd.results18, go_sem, frV, v0, v1]) rfl ?_
    rw [HF.out]
    exact ⟨rfl, by have hb := HR1.out.d; clear HR1; go_grown⟩
  obtain ⟨⟨h1, h2, h3, h4, _⟩, k1, k2, k3, k4, _⟩ := id hv
  simp only at h1 h2 h3 h4 k1 k2 k3 k4
  by_cases hz : bn = 0
  focus
    subst hz
    have HF : Hid (divF ⟨an, ad⟩ ⟨0, bd⟩ = (⟨0, 0⟩, 12)) := by unfold Hid divF; rw [if_pos hv, if_pos rfl]
    clear h1 h2 h3 h4 k1 k2 k3 k4
    go_enter Tryd.func18, Tryd.ntmps18
    go_wp2_with fail
    generalize ((w.alloc (.cells #[.int .i64 an, .int .i64 ad] 23)).alloc (.cells #[.int .i64 0, .int .i64 bd] 23)).alloc (.cells #[.int .i64 0, .int .i64 0] 23) = w0 at *
    refine (HBO.out _).mono ?_
    rintro e w1 ⟨rfl, hb⟩
    rw [if_pos hv]
    have HR1 := Lib.hid (HR0.out.below hb)
    obtain ⟨a0, a1, g0, g1⟩ := cells_two HR1.out.a
    obtain ⟨b0, b1, k0, k1⟩ := cells_two HR1.out.b
    obtain ⟨v0, v1, z0, z1⟩ := cells_two HR1.out.c
    clear hb HR0
    go_wp2_with fail
    refine bodyPost_ret (v := .tuple #[frV ⟨0, 0⟩, .int .i64 12]) (by simp [results, Tryd.results18, go_sem, frV, v0, v1]) rfl ?_
    rw [HF.out]
    exact ⟨rfl, by have hb := HR1.out.d; clear HR1; go_grown⟩
  have hz1 : (bn == 0) = false := beq_eq_false_iff_ne.2 hz
  have p0 := prod_le (x := an) (y := bd) (by omega) (by omega)
  obtain ⟨p0a, p0b⟩ := p0
  have p1 := prod_le (x := ad) (y := bn) (by omega) (by omega)
  obtain ⟨p1a, p1b⟩ := p1
  focus
    have HF : Hid (divF ⟨an, ad⟩ ⟨bn, bd⟩ = mkF (an * bd) (ad * bn)) := by unfold Hid divF; rw [if_pos hv, if_neg hz]
    go_enter Tryd.func18, Tryd.ntmps18
    go_wp2_with fail
    generalize ((w.alloc (.cells #[.int .i64 an, .int .i64 ad] 23)).alloc (.cells #[.int .i64 bn, .int .i64 bd] 23)).alloc (.cells #[.int .i64 0, .int .i64 0] 23) = w0 at *
    refine (HBO.out _).mono ?_
    rintro e w1 ⟨rfl, hb⟩
    rw [if_pos hv]
    have HR1 := Lib.hid (HR0.out.below hb)
    obtain ⟨a0, a1, g0, g1⟩ := cells_two HR1.out.a
    obtain ⟨b0, b1, k0, k1⟩ := cells_two HR1.out.b
    obtain ⟨v0, v1, z0, z1⟩ := cells_two HR1.out.c
    clear hb HR0
    go_wp2_with fail
    refine (make_any w1 (an * bd) (ad * bn) (by unfold I64; omega) (by unfold I64; omega)).mono ?_
    rintro e w2 ⟨rfl, hb⟩
    cases hx : mkF (an * bd) (ad * bn) with
    | mk x e =>
    obtain ⟨c, d⟩ := x
    rw [hx] at HF
    unfold frV
    have HR2 := Lib.hid (HR1.out.below hb)
    obtain ⟨v0, v1, z0, z1⟩ := cells_two HR2.out.c
    clear hb HR1 hx
    go_wp2_with fail
    refine bodyPost_ret (v := .tuple #[frV ⟨c, d⟩, .int .i64 e]) (by simp [results, Tryd.results18, go_sem, frV, v0, v1]) rfl ?_
    rw [HF.out]
    exact ⟨rfl, by have hb := HR2.out.d; clear HR2; go_grown⟩
end Go.Proofs.YtjobncfjebkcdaaDoor
