/- The walks of the reference's Do, Add, Sub, Mul, Div. -/
import Derived.Test.YtjobncfjebkcdaaDoorFo
namespace Go.Proofs.YtjobncfjebkcdaaDoor
open Go Go.RowKit
set_option linter.unusedSimpArgs false

set_option maxHeartbeats 4000000 in
set_option maxRecDepth 100000 in
theorem doadd_any (w : World) (a b : Fr) (ha : FI a) (hb : FI b) : Calls Tryd.prog 45 #[.int .u8 43, frV a, frV b] w (OutF w (addF a b)) := by
  have HVA := Lib.hid (fun w => rvalid_any w a ha)
  have HVB := Lib.hid (fun w => rvalid_any w b hb)
  obtain ⟨an, ad⟩ := a
  obtain ⟨bn, bd⟩ := b
  have HR0 := Lib.hid (B3.lay w (.cells #[.int .i64 an, .int .i64 ad] 23) (.cells #[.int .i64 bn, .int .i64 bd] 23) (.cells #[.int .i64 0, .int .i64 0] 23))
  clear ha hb
  unfold frV at HVA HVB ⊢
  by_cases hva : FrOk ⟨an, ad⟩
  rotate_left
  focus
    have HF : Hid (addF ⟨an, ad⟩ ⟨bn, bd⟩ = (⟨0, 0⟩, 13)) := by unfold Hid addF; rw [if_neg (fun h => hva h.1)]
    go_enter Tryd.func45, Tryd.ntmps45
    go_wp2_with fail
    generalize ((w.alloc (.cells #[.int .i64 an, .int .i64 ad] 23)).alloc (.cells #[.int .i64 bn, .int .i64 bd] 23)).alloc (.cells #[.int .i64 0, .int .i64 0] 23) = w0 at *
    refine (HVA.out _).mono ?_
    rintro e w1 ⟨rfl, hb⟩
    rw [show decide (FrOk ⟨an, ad⟩) = false from by simp [hva]]
    have HR1 := Lib.hid (HR0.out.below hb)
    obtain ⟨a0, a1, g0, g1⟩ := cells_two HR1.out.a
    obtain ⟨b0, b1, k0, k1⟩ := cells_two HR1.out.b
    obtain ⟨v0, v1, z0, z1⟩ := cells_two HR1.out.c
    clear hb HR0
    go_wp2_with fail
    refine bodyPost_ret (v := .tuple #[frV ⟨0, 0⟩, .int .i64 13]) (by simp [results, Tryd.results45, go_sem, frV, v0, v1]) rfl ?_
    rw [HF.out]
    exact ⟨rfl, by have hb := HR1.out.d; clear HR1; go_grown⟩
  by_cases hvb : FrOk ⟨bn, bd⟩
  rotate_left
  focus
    have HF : Hid (addF ⟨an, ad⟩ ⟨bn, bd⟩ = (⟨0, 0⟩, 13)) := by unfold Hid addF; rw [if_neg (fun h => hvb h.2)]
    go_enter Tryd.func45, Tryd.ntmps45
    go_wp2_with fail
    generalize ((w.alloc (.cells #[.int .i64 an, .int .i64 ad] 23)).alloc (.cells #[.int .i64 bn, .int .i64 bd] 23)).alloc (.cells #[.int .i64 0, .int .i64 0] 23) = w0 at *
    refine (HVA.out _).mono ?_
    rintro e w1 ⟨rfl, hb⟩
    rw [show decide (FrOk ⟨an, ad⟩) = true from by simp [hva]]
    have HR1 := Lib.hid (HR0.out.below hb)
    obtain ⟨a0, a1, g0, g1⟩ := cells_two HR1.out.a
    obtain ⟨b0, b1, k0, k1⟩ := cells_two HR1.out.b
    obtain ⟨v0, v1, z0, z1⟩ := cells_two HR1.out.c
    clear hb HR0
    go_wp2_with fail
    clear a0 a1 b0 b1 v0 v1 g0 g1 k0 k1 z0 z1
    refine (HVB.out _).mono ?_
    rintro e w2 ⟨rfl, hb⟩
    rw [show decide (FrOk ⟨bn, bd⟩) = false from by simp [hvb]]
    have HR2 := Lib.hid (HR1.out.below hb)
    obtain ⟨a0, a1, g0, g1⟩ := cells_two HR2.out.a
    obtain ⟨b0, b1, k0, k1⟩ := cells_two HR2.out.b
    obtain ⟨v0, v1, z0, z1⟩ := cells_two HR2.out.c
    clear hb HR1
    go_wp2_with fail
    refine bodyPost_ret (v := .tuple #[frV ⟨0, 0⟩, .int .i64 13]) (by simp [results, Tryd.results45, go_sem, frV, v0, v1]) rfl ?_
    rw [HF.out]
    exact ⟨rfl, by have hb := HR2.out.d; clear HR2; go_grown⟩
  obtain ⟨h1, h2, h3, h4, _⟩ := id hva
  obtain ⟨k1, k2, k3, k4, _⟩ := id hvb
  simp only at h1 h2 h3 h4 k1 k2 k3 k4
  have p0 := prod_le (x := an) (y := bd) (by omega) (by omega)
  obtain ⟨p0a, p0b⟩ := p0
  have p1 := prod_le (x := bn) (y := ad) (by omega) (by omega)
  obtain ⟨p1a, p1b⟩ := p1
  have p2 := prod_le (x := ad) (y := bd) (by omega) (by omega)
  obtain ⟨p2a, p2b⟩ := p2
  focus
    have HF : Hid (addF ⟨an, ad⟩ ⟨bn, bd⟩ = mkF (an * bd + bn * ad) (ad * bd)) := by unfold Hid addF; rw [if_pos ⟨hva, hvb⟩]
    go_enter Tryd.func45, Tryd.ntmps45
    go_wp2_with fail
    generalize ((w.alloc (.cells #[.int .i64 an, .int .i64 ad] 23)).alloc (.cells #[.int .i64 bn, .int .i64 bd] 23)).alloc (.cells #[.int .i64 0, .int .i64 0] 23) = w0 at *
    refine (HVA.out _).mono ?_
    rintro e w1 ⟨rfl, hb⟩
    rw [show decide (FrOk ⟨an, ad⟩) = true from by simp [hva]]
    have HR1 := Lib.hid (HR0.out.below hb)
    obtain ⟨a0, a1, g0, g1⟩ := cells_two HR1.out.a
    obtain ⟨b0, b1, k0, k1⟩ := cells_two HR1.out.b
    obtain ⟨v0, v1, z0, z1⟩ := cells_two HR1.out.c
    clear hb HR0
    go_wp2_with fail
    clear a0 a1 b0 b1 v0 v1 g0 g1 k0 k1 z0 z1
    refine (HVB.out _).mono ?_
    rintro e w2 ⟨rfl, hb⟩
    rw [show decide (FrOk ⟨bn, bd⟩) = true from by simp [hvb]]
    have HR2 := Lib.hid (HR1.out.below hb)
    obtain ⟨a0, a1, g0, g1⟩ := cells_two HR2.out.a
    obtain ⟨b0, b1, k0, k1⟩ := cells_two HR2.out.b
    obtain ⟨v0, v1, z0, z1⟩ := cells_two HR2.out.c
    clear hb HR1
    go_wp2_with fail
    refine (rmake_any w2 (an * bd + bn * ad) (ad * bd) (by unfold I64; omega) (by unfold I64; omega)).mono ?_
    rintro e w3 ⟨rfl, hb⟩
    cases hx : mkF (an * bd + bn * ad) (ad * bd) with
    | mk x e =>
    obtain ⟨c, d⟩ := x
    rw [hx] at HF
    unfold frV
    have HR3 := Lib.hid (HR2.out.below hb)
    obtain ⟨v0, v1, z0, z1⟩ := cells_two HR3.out.c
    clear hb HR2 hx
    go_wp2_with fail
    refine bodyPost_ret (v := .tuple #[frV ⟨c, d⟩, .int .i64 e]) (by simp [results, Tryd.results45, go_sem, frV, v0, v1]) rfl ?_
    rw [HF.out]
    exact ⟨rfl, by have hb := HR3.out.d; clear HR3; go_grown⟩

set_option maxHeartbeats 4000000 in
set_option maxRecDepth 100000 in
theorem radd_any (w : World) (a b : Fr) (ha : FI a) (hb : FI b) : Calls Tryd.prog 19 #[frV a, frV b] w (OutF w (addF a b)) := by
  have HDO := Lib.hid (fun w => doadd_any w a b ha hb)
  obtain ⟨an, ad⟩ := a
  obtain ⟨bn, bd⟩ := b
  have HR0 := Lib.hid (B3.lay w (.cells #[.int .i64 an, .int .i64 ad] 23) (.cells #[.int .i64 bn, .int .i64 bd] 23) (.cells #[.int .i64 0, .int .i64 0] 23))
  clear ha hb
  cases hx : addF ⟨an, ad⟩ ⟨bn, bd⟩ with
  | mk x e =>
  obtain ⟨c, d⟩ := x
  rw [hx] at HDO
  unfold frV at HDO ⊢
  go_enter Tryd.func19, Tryd.ntmps19
  go_wp2_with fail
  generalize ((w.alloc (.cells #[.int .i64 an, .int .i64 ad] 23)).alloc (.cells #[.int .i64 bn, .int .i64 bd] 23)).alloc (.cells #[.int .i64 0, .int .i64 0] 23) = w0 at *
  refine (HDO.out _).mono ?_
  rintro e' w1 ⟨rfl, hb⟩
  unfold frV
  have HR1 := Lib.hid (HR0.out.below hb)
  obtain ⟨v0, v1, z0, z1⟩ := cells_two HR1.out.c
  clear hb HR0 hx
  go_wp2_with fail
  refine bodyPost_ret (v := .tuple #[frV ⟨c, d⟩, .int .i64 e]) (by simp [results, Tryd.results19, go_sem, frV, v0, v1]) rfl ?_
  exact ⟨rfl, by have hb := HR1.out.d; clear HR1; go_grown⟩

set_option maxHeartbeats 4000000 in
set_option maxRecDepth 100000 in
theorem dosub_any (w : World) (a b : Fr) (ha : FI a) (hb : FI b) : Calls Tryd.prog 45 #[.int .u8 45, frV a, frV b] w (OutF w (subF a b)) := by
  have HVA := Lib.hid (fun w => rvalid_any w a ha)
  have HVB := Lib.hid (fun w => rvalid_any w b hb)
  obtain ⟨an, ad⟩ := a
  obtain ⟨bn, bd⟩ := b
  have HR0 := Lib.hid (B3.lay w (.cells #[.int .i64 an, .int .i64 ad] 23) (.cells #[.int .i64 bn, .int .i64 bd] 23) (.cells #[.int .i64 0, .int .i64 0] 23))
  clear ha hb
  unfold frV at HVA HVB ⊢
  by_cases hva : FrOk ⟨an, ad⟩
  rotate_left
  focus
    have HF : Hid (subF ⟨an, ad⟩ ⟨bn, bd⟩ = (⟨0, 0⟩, 13)) := by unfold Hid subF; rw [if_neg (fun h => hva h.1)]
    go_enter Tryd.func45, Tryd.ntmps45
    go_wp2_with fail
    generalize ((w.alloc (.cells #[.int .i64 an, .int .i64 ad] 23)).alloc (.cells #[.int .i64 bn, .int .i64 bd] 23)).alloc (.cells #[.int .i64 0, .int .i64 0] 23) = w0 at *
    refine (HVA.out _).mono ?_
    rintro e w1 ⟨rfl, hb⟩
    rw [show decide (FrOk ⟨an, ad⟩) = false from by simp [hva]]
    have HR1 := Lib.hid (HR0.out.below hb)
    obtain ⟨a0, a1, g0, g1⟩ := cells_two HR1.out.a
    obtain ⟨b0, b1, k0, k1⟩ := cells_two HR1.out.b
    obtain ⟨v0, v1, z0, z1⟩ := cells_two HR1.out.c
    clear hb HR0
    go_wp2_with fail
    refine bodyPost_ret (v := .tuple #[frV ⟨0, 0⟩, .int .i64 13]) (by simp [results, Tryd.results45, go_sem, frV, v0, v1]) rfl ?_
    rw [HF.out]
    exact ⟨rfl, by have hb := HR1.out.d; clear HR1; go_grown⟩
  by_cases hvb : FrOk ⟨bn, bd⟩
  rotate_left
  focus
    have HF : Hid (subF ⟨an, ad⟩ ⟨bn, bd⟩ = (⟨0, 0⟩, 13)) := by unfold Hid subF; rw [if_neg (fun h => hvb h.2)]
    go_enter Tryd.func45, Tryd.ntmps45
    go_wp2_with fail
    generalize ((w.alloc (.cells #[.int .i64 an, .int .i64 ad] 23)).alloc (.cells #[.int .i64 bn, .int .i64 bd] 23)).alloc (.cells #[.int .i64 0, .int .i64 0] 23) = w0 at *
    refine (HVA.out _).mono ?_
    rintro e w1 ⟨rfl, hb⟩
    rw [show decide (FrOk ⟨an, ad⟩) = true from by simp [hva]]
    have HR1 := Lib.hid (HR0.out.below hb)
    obtain ⟨a0, a1, g0, g1⟩ := cells_two HR1.out.a
    obtain ⟨b0, b1, k0, k1⟩ := cells_two HR1.out.b
    obtain ⟨v0, v1, z0, z1⟩ := cells_two HR1.out.c
    clear hb HR0
    go_wp2_with fail
    clear a0 a1 b0 b1 v0 v1 g0 g1 k0 k1 z0 z1
    refine (HVB.out _).mono ?_
    rintro e w2 ⟨rfl, hb⟩
    rw [show decide (FrOk ⟨bn, bd⟩) = false from by simp [hvb]]
    have HR2 := Lib.hid (HR1.out.below hb)
    obtain ⟨a0, a1, g0, g1⟩ := cells_two HR2.out.a
    obtain ⟨b0, b1, k0, k1⟩ := cells_two HR2.out.b
    obtain ⟨v0, v1, z0, z1⟩ := cells_two HR2.out.c
    clear hb HR1
    go_wp2_with fail
    refine bodyPost_ret (v := .tuple #[frV ⟨0, 0⟩, .int .i64 13]) (by simp [results, Tryd.results45, go_sem, frV, v0, v1]) rfl ?_
    rw [HF.out]
    exact ⟨rfl, by have hb := HR2.out.d; clear HR2; go_grown⟩
  obtain ⟨h1, h2, h3, h4, _⟩ := id hva
  obtain ⟨k1, k2, k3, k4, _⟩ := id hvb
  simp only at h1 h2 h3 h4 k1 k2 k3 k4
  have p0 := prod_le (x := an) (y := bd) (by omega) (by omega)
  obtain ⟨p0a, p0b⟩ := p0
  have p1 := prod_le (x := bn) (y := ad) (by omega) (by omega)
  obtain ⟨p1a, p1b⟩ := p1
  have p2 := prod_le (x := ad) (y := bd) (by omega) (by omega)
  obtain ⟨p2a, p2b⟩ := p2
  focus
    have HF : Hid (subF ⟨an, ad⟩ ⟨bn, bd⟩ = mkF (an * bd - bn * ad) (ad * bd)) := by unfold Hid subF; rw [if_pos ⟨hva, hvb⟩]
    go_enter Tryd.func45, Tryd.ntmps45
    go_wp2_with fail
    generalize ((w.alloc (.cells #[.int .i64 an, .int .i64 ad] 23)).alloc (.cells #[.int .i64 bn, .int .i64 bd] 23)).alloc (.cells #[.int .i64 0, .int .i64 0] 23) = w0 at *
    refine (HVA.out _).mono ?_
    rintro e w1 ⟨rfl, hb⟩
    rw [show decide (FrOk ⟨an, ad⟩) = true from by simp [hva]]
    have HR1 := Lib.hid (HR0.out.below hb)
    obtain ⟨a0, a1, g0, g1⟩ := cells_two HR1.out.a
    obtain ⟨b0, b1, k0, k1⟩ := cells_two HR1.out.b
    obtain ⟨v0, v1, z0, z1⟩ := cells_two HR1.out.c
    clear hb HR0
    go_wp2_with fail
    clear a0 a1 b0 b1 v0 v1 g0 g1 k0 k1 z0 z1
    refine (HVB.out _).mono ?_
    rintro e w2 ⟨rfl, hb⟩
    rw [show decide (FrOk ⟨bn, bd⟩) = true from by simp [hvb]]
    have HR2 := Lib.hid (HR1.out.below hb)
    obtain ⟨a0, a1, g0, g1⟩ := cells_two HR2.out.a
    obtain ⟨b0, b1, k0, k1⟩ := cells_two HR2.out.b
    obtain ⟨v0, v1, z0, z1⟩ := cells_two HR2.out.c
    clear hb HR1
    go_wp2_with fail
    refine (rmake_any w2 (an * bd - bn * ad) (ad * bd) (by unfold I64; omega) (by unfold I64; omega)).mono ?_
    rintro e w3 ⟨rfl, hb⟩
    cases hx : mkF (an * bd - bn * ad) (ad * bd) with
    | mk x e =>
    obtain ⟨c, d⟩ := x
    rw [hx] at HF
    unfold frV
    have HR3 := Lib.hid (HR2.out.below hb)
    obtain ⟨v0, v1, z0, z1⟩ := cells_two HR3.out.c
    clear hb HR2 hx
    go_wp2_with fail
    refine bodyPost_ret (v := .tuple #[frV ⟨c, d⟩, .int .i64 e]) (by simp [results, Tryd.results45, go_sem, frV, v0, v1]) rfl ?_
    rw [HF.out]
    exact ⟨rfl, by have hb := HR3.out.d; clear HR3; go_grown⟩

set_option maxHeartbeats 4000000 in
set_option maxRecDepth 100000 in
theorem rsub_any (w : World) (a b : Fr) (ha : FI a) (hb : FI b) : Calls Tryd.prog 20 #[frV a, frV b] w (OutF w (subF a b)) := by
  have HDO := Lib.hid (fun w => dosub_any w a b ha hb)
  obtain ⟨an, ad⟩ := a
  obtain ⟨bn, bd⟩ := b
  have HR0 := Lib.hid (B3.lay w (.cells #[.int .i64 an, .int .i64 ad] 23) (.cells #[.int .i64 bn, .int .i64 bd] 23) (.cells #[.int .i64 0, .int .i64 0] 23))
  clear ha hb
  cases hx : subF ⟨an, ad⟩ ⟨bn, bd⟩ with
  | mk x e =>
  obtain ⟨c, d⟩ := x
  rw [hx] at HDO
  unfold frV at HDO ⊢
  go_enter Tryd.func20, Tryd.ntmps20
  go_wp2_with fail
  generalize ((w.alloc (.cells #[.int .i64 an, .int .i64 ad] 23)).alloc (.cells #[.int .i64 bn, .int .i64 bd] 23)).alloc (.cells #[.int .i64 0, .int .i64 0] 23) = w0 at *
  refine (HDO.out _).mono ?_
  rintro e' w1 ⟨rfl, hb⟩
  unfold frV
  have HR1 := Lib.hid (HR0.out.below hb)
  obtain ⟨v0, v1, z0, z1⟩ := cells_two HR1.out.c
  clear hb HR0 hx
  go_wp2_with fail
  refine bodyPost_ret (v := .tuple #[frV ⟨c, d⟩, .int .i64 e]) (by simp [results, Tryd.results20, go_sem, frV, v0, v1]) rfl ?_
  exact ⟨rfl, by have hb := HR1.out.d; clear HR1; go_grown⟩

set_option maxHeartbeats 4000000 in
set_option maxRecDepth 100000 in
theorem domul_any (w : World) (a b : Fr) (ha : FI a) (hb : FI b) : Calls Tryd.prog 45 #[.int .u8 42, frV a, frV b] w (OutF w (mulF a b)) := by
  have HVA := Lib.hid (fun w => rvalid_any w a ha)
  have HVB := Lib.hid (fun w => rvalid_any w b hb)
  obtain ⟨an, ad⟩ := a
  obtain ⟨bn, bd⟩ := b
  have HR0 := Lib.hid (B3.lay w (.cells #[.int .i64 an, .int .i64 ad] 23) (.cells #[.int .i64 bn, .int .i64 bd] 23) (.cells #[.int .i64 0, .int .i64 0] 23))
  clear ha hb
  unfold frV at HVA HVB ⊢
  by_cases hva : FrOk ⟨an, ad⟩
  rotate_left
  focus
    have HF : Hid (mulF ⟨an, ad⟩ ⟨bn, bd⟩ = (⟨0, 0⟩, 13)) := by unfold Hid mulF; rw [if_neg (fun h => hva h.1)]
    go_enter Tryd.func45, Tryd.ntmps45
    go_wp2_with fail
    generalize ((w.alloc (.cells #[.int .i64 an, .int .i64 ad] 23)).alloc (.cells #[.int .i64 bn, .int .i64 bd] 23)).alloc (.cells #[.int .i64 0, .int .i64 0] 23) = w0 at *
    refine (HVA.out _).mono ?_
    rintro e w1 ⟨rfl, hb⟩
    rw [show decide (FrOk ⟨an, ad⟩) = false from by simp [hva]]
    have HR1 := Lib.hid (HR0.out.below hb)
    obtain ⟨a0, a1, g0, g1⟩ := cells_two HR1.out.a
    obtain ⟨b0, b1, k0, k1⟩ := cells_two HR1.out.b
    obtain ⟨v0, v1, z0, z1⟩ := cells_two HR1.out.c
    clear hb HR0
    go_wp2_with fail
    refine bodyPost_ret (v := .tuple #[frV ⟨0, 0⟩, .int .i64 13]) (by simp [results, Tryd.results45, go_sem, frV, v0, v1]) rfl ?_
    rw [HF.out]
    exact ⟨rfl, by have hb := HR1.out.d; clear HR1; go_grown⟩
  by_cases hvb : FrOk ⟨bn, bd⟩
  rotate_left
  focus
    have HF : Hid (mulF ⟨an, ad⟩ ⟨bn, bd⟩ = (⟨0, 0⟩, 13)) := by unfold Hid mulF; rw [if_neg (fun h => hvb h.2)]
    go_enter Tryd.func45, Tryd.ntmps45
    go_wp2_with fail
    generalize ((w.alloc (.cells #[.int .i64 an, .int .i64 ad] 23)).alloc (.cells #[.int .i64 bn, .int .i64 bd] 23)).alloc (.cells #[.int .i64 0, .int .i64 0] 23) = w0 at *
    refine (HVA.out _).mono ?_
    rintro e w1 ⟨rfl, hb⟩
    rw [show decide (FrOk ⟨an, ad⟩) = true from by simp [hva]]
    have HR1 := Lib.hid (HR0.out.below hb)
    obtain ⟨a0, a1, g0, g1⟩ := cells_two HR1.out.a
    obtain ⟨b0, b1, k0, k1⟩ := cells_two HR1.out.b
    obtain ⟨v0, v1, z0, z1⟩ := cells_two HR1.out.c
    clear hb HR0
    go_wp2_with fail
    clear a0 a1 b0 b1 v0 v1 g0 g1 k0 k1 z0 z1
    refine (HVB.out _).mono ?_
    rintro e w2 ⟨rfl, hb⟩
    rw [show decide (FrOk ⟨bn, bd⟩) = false from by simp [hvb]]
    have HR2 := Lib.hid (HR1.out.below hb)
    obtain ⟨a0, a1, g0, g1⟩ := cells_two HR2.out.a
    obtain ⟨b0, b1, k0, k1⟩ := cells_two HR2.out.b
    obtain ⟨v0, v1, z0, z1⟩ := cells_two HR2.out.c
    clear hb HR1
    go_wp2_with fail
    refine bodyPost_ret (v := .tuple #[frV ⟨0, 0⟩, .int .i64 13]) (by simp [results, Tryd.results45, go_sem, frV, v0, v1]) rfl ?_
    rw [HF.out]
    exact ⟨rfl, by have hb := HR2.out.d; clear HR2; go_grown⟩
  obtain ⟨h1, h2, h3, h4, _⟩ := id hva
  obtain ⟨k1, k2, k3, k4, _⟩ := id hvb
  simp only at h1 h2 h3 h4 k1 k2 k3 k4
  have p0 := prod_le (x := an) (y := bn) (by omega) (by omega)
  obtain ⟨p0a, p0b⟩ := p0
  have p1 := prod_le (x := ad) (y := bd) (by omega) (by omega)
  obtain ⟨p1a, p1b⟩ := p1
  focus
    have HF : Hid (mulF ⟨an, ad⟩ ⟨bn, bd⟩ = mkF (an * bn) (ad * bd)) := by unfold Hid mulF; rw [if_pos ⟨hva, hvb⟩]
    go_enter Tryd.func45, Tryd.ntmps45
    go_wp2_with fail
    generalize ((w.alloc (.cells #[.int .i64 an, .int .i64 ad] 23)).alloc (.cells #[.int .i64 bn, .int .i64 bd] 23)).alloc (.cells #[.int .i64 0, .int .i64 0] 23) = w0 at *
    refine (HVA.out _).mono ?_
    rintro e w1 ⟨rfl, hb⟩
    rw [show decide (FrOk ⟨an, ad⟩) = true from by simp [hva]]
    have HR1 := Lib.hid (HR0.out.below hb)
    obtain ⟨a0, a1, g0, g1⟩ := cells_two HR1.out.a
    obtain ⟨b0, b1, k0, k1⟩ := cells_two HR1.out.b
    obtain ⟨v0, v1, z0, z1⟩ := cells_two HR1.out.c
    clear hb HR0
    go_wp2_with fail
    clear a0 a1 b0 b1 v0 v1 g0 g1 k0 k1 z0 z1
    refine (HVB.out _).mono ?_
    rintro e w2 ⟨rfl, hb⟩
    rw [show decide (FrOk ⟨bn, bd⟩) = true from by simp [hvb]]
    have HR2 := Lib.hid (HR1.out.below hb)
    obtain ⟨a0, a1, g0, g1⟩ := cells_two HR2.out.a
    obtain ⟨b0, b1, k0, k1⟩ := cells_two HR2.out.b
    obtain ⟨v0, v1, z0, z1⟩ := cells_two HR2.out.c
    clear hb HR1
    go_wp2_with fail
    refine (rmake_any w2 (an * bn) (ad * bd) (by unfold I64; omega) (by unfold I64; omega)).mono ?_
    rintro e w3 ⟨rfl, hb⟩
    cases hx : mkF (an * bn) (ad * bd) with
    | mk x e =>
    obtain ⟨c, d⟩ := x
    rw [hx] at HF
    unfold frV
    have HR3 := Lib.hid (HR2.out.below hb)
    obtain ⟨v0, v1, z0, z1⟩ := cells_two HR3.out.c
    clear hb HR2 hx
    go_wp2_with fail
    refine bodyPost_ret (v := .tuple #[frV ⟨c, d⟩, .int .i64 e]) (by simp [results, Tryd.results45, go_sem, frV, v0, v1]) rfl ?_
    rw [HF.out]
    exact ⟨rfl, by have hb := HR3.out.d; clear HR3; go_grown⟩

set_option maxHeartbeats 4000000 in
set_option maxRecDepth 100000 in
theorem rmul_any (w : World) (a b : Fr) (ha : FI a) (hb : FI b) : Calls Tryd.prog 21 #[frV a, frV b] w (OutF w (mulF a b)) := by
  have HDO := Lib.hid (fun w => domul_any w a b ha hb)
  obtain ⟨an, ad⟩ := a
  obtain ⟨bn, bd⟩ := b
  have HR0 := Lib.hid (B3.lay w (.cells #[.int .i64 an, .int .i64 ad] 23) (.cells #[.int .i64 bn, .int .i64 bd] 23) (.cells #[.int .i64 0, .int .i64 0] 23))
  clear ha hb
  cases hx : mulF ⟨an, ad⟩ ⟨bn, bd⟩ with
  | mk x e =>
  obtain ⟨c, d⟩ := x
  rw [hx] at HDO
  unfold frV at HDO ⊢
  go_enter Tryd.func21, Tryd.ntmps21
  go_wp2_with fail
  generalize ((w.alloc (.cells #[.int .i64 an, .int .i64 ad] 23)).alloc (.cells #[.int .i64 bn, .int .i64 bd] 23)).alloc (.cells #[.int .i64 0, .int .i64 0] 23) = w0 at *
  refine (HDO.out _).mono ?_
  rintro e' w1 ⟨rfl, hb⟩
  unfold frV
  have HR1 := Lib.hid (HR0.out.below hb)
  obtain ⟨v0, v1, z0, z1⟩ := cells_two HR1.out.c
  clear hb HR0 hx
  go_wp2_with fail
  refine bodyPost_ret (v := .tuple #[frV ⟨c, d⟩, .int .i64 e]) (by simp [results, Tryd.results21, go_sem, frV, v0, v1]) rfl ?_
  exact ⟨rfl, by have hb := HR1.out.d; clear HR1; go_grown⟩

set_option maxHeartbeats 4000000 in
set_option maxRecDepth 100000 in
theorem doquo_any (w : World) (a b : Fr) (ha : FI a) (hb : FI b) : Calls Tryd.prog 45 #[.int .u8 47, frV a, frV b] w (OutF w (divF a b)) := by
  have HVA := Lib.hid (fun w => rvalid_any w a ha)
  have HVB := Lib.hid (fun w => rvalid_any w b hb)
  obtain ⟨an, ad⟩ := a
  obtain ⟨bn, bd⟩ := b
  have HR0 := Lib.hid (B3.lay w (.cells #[.int .i64 an, .int .i64 ad] 23) (.cells #[.int .i64 bn, .int .i64 bd] 23) (.cells #[.int .i64 0, .int .i64 0] 23))
  clear ha hb
  unfold frV at HVA HVB ⊢
  by_cases hva : FrOk ⟨an, ad⟩
  rotate_left
  focus
    have HF : Hid (divF ⟨an, ad⟩ ⟨bn, bd⟩ = (⟨0, 0⟩, 13)) := by unfold Hid divF; rw [if_neg (fun h => hva h.1)]
    go_enter Tryd.func45, Tryd.ntmps45
    go_wp2_with fail
    generalize ((w.alloc (.cells #[.int .i64 an, .int .i64 ad] 23)).alloc (.cells #[.int .i64 bn, .int .i64 bd] 23)).alloc (.cells #[.int .i64 0, .int .i64 0] 23) = w0 at *
    refine (HVA.out _).mono ?_
    rintro e w1 ⟨rfl, hb⟩
    rw [show decide (FrOk ⟨an, ad⟩) = false from by simp [hva]]
    have HR1 := Lib.hid (HR0.out.below hb)
    obtain ⟨a0, a1, g0, g1⟩ := cells_two HR1.out.a
    obtain ⟨b0, b1, k0, k1⟩ := cells_two HR1.out.b
    obtain ⟨v0, v1, z0, z1⟩ := cells_two HR1.out.c
    clear hb HR0
    go_wp2_with fail
    refine bodyPost_ret (v := .tuple #[frV ⟨0, 0⟩, .int .i64 13]) (by simp [results, Tryd.results45, go_sem, frV, v0, v1]) rfl ?_
    rw [HF.out]
    exact ⟨rfl, by have hb := HR1.out.d; clear HR1; go_grown⟩
  by_cases hvb : FrOk ⟨bn, bd⟩
  rotate_left
  focus
    have HF : Hid (divF ⟨an, ad⟩ ⟨bn, bd⟩ = (⟨0, 0⟩, 13)) := by unfold Hid divF; rw [if_neg (fun h => hvb h.2)]
    go_enter Tryd.func45, Tryd.ntmps45
    go_wp2_with fail
    generalize ((w.alloc (.cells #[.int .i64 an, .int .i64 ad] 23)).alloc (.cells #[.int .i64 bn, .int .i64 bd] 23)).alloc (.cells #[.int .i64 0, .int .i64 0] 23) = w0 at *
    refine (HVA.out _).mono ?_
    rintro e w1 ⟨rfl, hb⟩
    rw [show decide (FrOk ⟨an, ad⟩) = true from by simp [hva]]
    have HR1 := Lib.hid (HR0.out.below hb)
    obtain ⟨a0, a1, g0, g1⟩ := cells_two HR1.out.a
    obtain ⟨b0, b1, k0, k1⟩ := cells_two HR1.out.b
    obtain ⟨v0, v1, z0, z1⟩ := cells_two HR1.out.c
    clear hb HR0
    go_wp2_with fail
    clear a0 a1 b0 b1 v0 v1 g0 g1 k0 k1 z0 z1
    refine (HVB.out _).mono ?_
    rintro e w2 ⟨rfl, hb⟩
    rw [show decide (FrOk ⟨bn, bd⟩) = false from by simp [hvb]]
    have HR2 := Lib.hid (HR1.out.below hb)
    obtain ⟨a0, a1, g0, g1⟩ := cells_two HR2.out.a
    obtain ⟨b0, b1, k0, k1⟩ := cells_two HR2.out.b
    obtain ⟨v0, v1, z0, z1⟩ := cells_two HR2.out.c
    clear hb HR1
    go_wp2_with fail
    refine bodyPost_ret (v := .tuple #[frV ⟨0, 0⟩, .int .i64 13]) (by simp [results, Tryd.results45, go_sem, frV, v0, v1]) rfl ?_
    rw [HF.out]
    exact ⟨rfl, by have hb := HR2.out.d; clear HR2; go_grown⟩
  obtain ⟨h1, h2, h3, h4, _⟩ := id hva
  obtain ⟨k1, k2, k3, k4, _⟩ := id hvb
  simp only at h1 h2 h3 h4 k1 k2 k3 k4
  by_cases hz : bn = 0
  focus
    subst hz
    have HF : Hid (divF ⟨an, ad⟩ ⟨0, bd⟩ = (⟨0, 0⟩, 12)) := by unfold Hid divF; rw [if_pos ⟨hva, hvb⟩, if_pos rfl]
    clear h1 h2 h3 h4 k1 k2 k3 k4
    go_enter Tryd.func45, Tryd.ntmps45
    go_wp2_with fail
    generalize ((w.alloc (.cells #[.int .i64 an, .int .i64 ad] 23)).alloc (.cells #[.int .i64 0, .int .i64 bd] 23)).alloc (.cells #[.int .i64 0, .int .i64 0] 23) = w0 at *
    refine (HVA.out _).mono ?_
    rintro e w1 ⟨rfl, hb⟩
    rw [show decide (FrOk ⟨an, ad⟩) = true from by simp [hva]]
    have HR1 := Lib.hid (HR0.out.below hb)
    obtain ⟨a0, a1, g0, g1⟩ := cells_two HR1.out.a
    obtain ⟨b0, b1, k0, k1⟩ := cells_two HR1.out.b
    obtain ⟨v0, v1, z0, z1⟩ := cells_two HR1.out.c
    clear hb HR0
    go_wp2_with fail
    clear a0 a1 b0 b1 v0 v1 g0 g1 k0 k1 z0 z1
    refine (HVB.out _).mono ?_
    rintro e w2 ⟨rfl, hb⟩
    rw [show decide (FrOk ⟨0, bd⟩) = true from by simp [hvb]]
    have HR2 := Lib.hid (HR1.out.below hb)
    obtain ⟨a0, a1, g0, g1⟩ := cells_two HR2.out.a
    obtain ⟨b0, b1, k0, k1⟩ := cells_two HR2.out.b
    obtain ⟨v0, v1, z0, z1⟩ := cells_two HR2.out.c
    clear hb HR1
    go_wp2_with fail
    refine bodyPost_ret (v := .tuple #[frV ⟨0, 0⟩, .int .i64 12]) (by simp [results, Tryd.results45, go_sem, frV, v0, v1]) rfl ?_
    rw [HF.out]
    exact ⟨rfl, by have hb := HR2.out.d; clear HR2; go_grown⟩
  have hz1 : (bn == 0) = false := beq_eq_false_iff_ne.2 hz
  have p0 := prod_le (x := an) (y := bd) (by omega) (by omega)
  obtain ⟨p0a, p0b⟩ := p0
  have p1 := prod_le (x := ad) (y := bn) (by omega) (by omega)
  obtain ⟨p1a, p1b⟩ := p1
  focus
    have HF : Hid (divF ⟨an, ad⟩ ⟨bn, bd⟩ = mkF (an * bd) (ad * bn)) := by unfold Hid divF; rw [if_pos ⟨hva, hvb⟩, if_neg hz]
    go_enter Tryd.func45, Tryd.ntmps45
    go_wp2_with fail
    generalize ((w.alloc (.cells #[.int .i64 an, .int .i64 ad] 23)).alloc (.cells #[.int .i64 bn, .int .i64 bd] 23)).alloc (.cells #[.int .i64 0, .int .i64 0] 23) = w0 at *
    refine (HVA.out _).mono ?_
    rintro e w1 ⟨rfl, hb⟩
    rw [show decide (FrOk ⟨an, ad⟩) = true from by simp [hva]]
    have HR1 := Lib.hid (HR0.out.below hb)
    obtain ⟨a0, a1, g0, g1⟩ := cells_two HR1.out.a
    obtain ⟨b0, b1, k0, k1⟩ := cells_two HR1.out.b
    obtain ⟨v0, v1, z0, z1⟩ := cells_two HR1.out.c
    clear hb HR0
    go_wp2_with fail
    clear a0 a1 b0 b1 v0 v1 g0 g1 k0 k1 z0 z1
    refine (HVB.out _).mono ?_
    rintro e w2 ⟨rfl, hb⟩
    rw [show decide (FrOk ⟨bn, bd⟩) = true from by simp [hvb]]
    have HR2 := Lib.hid (HR1.out.below hb)
    obtain ⟨a0, a1, g0, g1⟩ := cells_two HR2.out.a
    obtain ⟨b0, b1, k0, k1⟩ := cells_two HR2.out.b
    obtain ⟨v0, v1, z0, z1⟩ := cells_two HR2.out.c
    clear hb HR1
    go_wp2_with fail
    refine (rmake_any w2 (an * bd) (ad * bn) (by unfold I64; omega) (by unfold I64; omega)).mono ?_
    rintro e w3 ⟨rfl, hb⟩
    cases hx : mkF (an * bd) (ad * bn) with
    | mk x e =>
    obtain ⟨c, d⟩ := x
    rw [hx] at HF
    unfold frV
    have HR3 := Lib.hid (HR2.out.below hb)
    obtain ⟨v0, v1, z0, z1⟩ := cells_two HR3.out.c
    clear hb HR2 hx
    go_wp2_with fail
    refine bodyPost_ret (v := .tuple #[frV ⟨c, d⟩, .int .i64 e]) (by simp [results, Tryd.results45, go_sem, frV, v0, v1]) rfl ?_
    rw [HF.out]
    exact ⟨rfl, by have hb := HR3.out.d; clear HR3; go_grown⟩

set_option maxHeartbeats 4000000 in
set_option maxRecDepth 100000 in
theorem rquo_any (w : World) (a b : Fr) (ha : FI a) (hb : FI b) : Calls Tryd.prog 22 #[frV a, frV b] w (OutF w (divF a b)) := by
  have HDO := Lib.hid (fun w => doquo_any w a b ha hb)
  obtain ⟨an, ad⟩ := a
  obtain ⟨bn, bd⟩ := b
  have HR0 := Lib.hid (B3.lay w (.cells #[.int .i64 an, .int .i64 ad] 23) (.cells #[.int .i64 bn, .int .i64 bd] 23) (.cells #[.int .i64 0, .int .i64 0] 23))
  clear ha hb
  cases hx : divF ⟨an, ad⟩ ⟨bn, bd⟩ with
  | mk x e =>
  obtain ⟨c, d⟩ := x
  rw [hx] at HDO
  unfold frV at HDO ⊢
  go_enter Tryd.func22, Tryd.ntmps22
  go_wp2_with fail
  generalize ((w.alloc (.cells #[.int .i64 an, .int .i64 ad] 23)).alloc (.cells #[.int .i64 bn, .int .i64 bd] 23)).alloc (.cells #[.int .i64 0, .int .i64 0] 23) = w0 at *
  refine (HDO.out _).mono ?_
  rintro e' w1 ⟨rfl, hb⟩
  unfold frV
  have HR1 := Lib.hid (HR0.out.below hb)
  obtain ⟨v0, v1, z0, z1⟩ := cells_two HR1.out.c
  clear hb HR0 hx
  go_wp2_with fail
  refine bodyPost_ret (v := .tuple #[frV ⟨c, d⟩, .int .i64 e]) (by simp [results, Tryd.results22, go_sem, frV, v0, v1]) rfl ?_
  exact ⟨rfl, by have hb := HR1.out.d; clear HR1; go_grown⟩
end Go.Proofs.YtjobncfjebkcdaaDoor
