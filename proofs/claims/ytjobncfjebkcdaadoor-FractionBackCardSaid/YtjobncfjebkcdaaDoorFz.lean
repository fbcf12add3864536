/- The walks of fraction.Round and of the reference's Round. -/
import Derived.Test.YtjobncfjebkcdaaDoorFd
namespace Go.Proofs.YtjobncfjebkcdaaDoor
open Go Go.RowKit
set_option linter.unusedSimpArgs false

theorem kq_facts (a m d : Nat) (ha : a ≤ 1073741824) (hm : m ≤ 1073741824) (hd : 1 ≤ d) (hd2 : d ≤ 1073741824) :
    ∃ p K : Nat, a * m = p ∧ (a : Int) * (m : Int) = (p : Int) ∧ p ≤ 1152921504606846976 ∧ (2 * p + d) / (2 * d) = K ∧ (2 * (p : Int) + (d : Int)) / (2 * (d : Int)) = (K : Int) ∧ K ≤ 2305843010287435776 ∧ ((2 * (d : Int)) == 0) = false ∧ ((d : Int) == 0) = false ∧ K = p / d + (if d ≤ 2 * (p % d) then 1 else 0) := by
  have h : a * m ≤ 1073741824 * 1073741824 := Nat.mul_le_mul ha hm
  refine ⟨a * m, (2 * (a * m) + d) / (2 * d), rfl, by simp, by omega, rfl, by simp, ?_, beq_eq_false_iff_ne.2 (by omega), beq_eq_false_iff_ne.2 (by omega), round_half _ _ (by omega)⟩
  exact Nat.le_trans (Nat.div_le_self _ _) (by omega)
theorem roundK_eq (n : Int) (m d K p : Nat) (hp : n.natAbs * m = p) (hK : (2 * p + d) / (2 * d) = K) : roundK ⟨n, d⟩ (m : Int) = if n < 0 then -(K : Int) else (K : Int) := by
  unfold roundK
  simp only [Int.toNat_natCast, hp, hK]
theorem two_cells (w : World) (x y : Obj) : ((w.alloc x).alloc y).heap[w.heap.size]? = some x ∧ ((w.alloc x).alloc y).heap[w.heap.size + 1]? = some y ∧ Below w.heap.size w ((w.alloc x).alloc y) :=
  ⟨(two_box w x y).1, (two_box w x y).2, ((Below.refl _ _).alloc (Nat.le_refl _) _).alloc (by simp) _⟩
theorem two_keep {w0 w w' : World} {x y : Obj} (h : w.heap[w0.heap.size]? = some x ∧ w.heap[w0.heap.size + 1]? = some y ∧ Below w0.heap.size w0 w) (hb : Below w.heap.size w w') :
    w'.heap[w0.heap.size]? = some x ∧ w'.heap[w0.heap.size + 1]? = some y ∧ Below w0.heap.size w0 w' :=
  ⟨(hb.block _ (heap_lt h.1)).trans h.1, (hb.block _ (heap_lt h.2.1)).trans h.2.1, h.2.2.trans (hb.mono h.2.2.size)⟩

set_option maxHeartbeats 4000000 in
set_option maxRecDepth 100000 in
theorem round_any (w : World) (f : Fr) (den : Int) (hf : FI f) (hden : I64 den) : Calls Tryd.prog 24 #[frV f, .int .i64 den] w (OutF w (roundF f den)) := by
  have HV := Lib.hid (fun w => valid_any w f hf)
  obtain ⟨n, d⟩ := f
  obtain ⟨de1, de2⟩ := hden
  have HR0 := Lib.hid (two_cells w (.cells #[.int .i64 n, .int .i64 d] 23) (.cells #[.int .i64 0, .int .i64 0] 23))
  clear hf
  unfold frV at HV ⊢
  by_cases hv : FrOk ⟨n, d⟩
  rotate_left
  focus
    have HF : Hid (roundF ⟨n, d⟩ den = (⟨0, 0⟩, 13)) := by unfold Hid roundF; rw [if_neg hv]
    go_enter Tryd.func24, Tryd.ntmps24
    go_wp2_with fail
    generalize (w.alloc (.cells #[.int .i64 n, .int .i64 d] 23)).alloc (.cells #[.int .i64 0, .int .i64 0] 23) = w0 at *
    refine (HV.out _).mono ?_
    rintro e w1 ⟨rfl, hb⟩
    rw [show decide (FrOk ⟨n, d⟩) = false from by simp [hv]]
    have HR1 := Lib.hid (two_keep HR0.out hb)
    obtain ⟨a0, a1, g0, g1⟩ := cells_two HR1.out.1
    obtain ⟨v0, v1, z0, z1⟩ := cells_two HR1.out.2.1
    clear hb HR0
    go_wp2_with fail
    refine bodyPost_ret (v := .tuple #[frV ⟨0, 0⟩, .int .i64 13]) (by simp [results, Tryd.results24, go_sem, frV, v0, v1]) rfl ?_
    rw [HF.out]
    exact ⟨rfl, by have hb := HR1.out.2.2; clear HR1; go_grown⟩
  by_cases h1 : den < 1
  focus
    have HF : Hid (roundF ⟨n, d⟩ den = (⟨0, 0⟩, 12)) := by unfold Hid roundF; rw [if_pos hv, if_pos (Or.inl h1)]
    have t1 : decide (den < 1) = true := by simpa using h1
    go_enter Tryd.func24, Tryd.ntmps24
    go_wp2_with fail
    generalize (w.alloc (.cells #[.int .i64 n, .int .i64 d] 23)).alloc (.cells #[.int .i64 0, .int .i64 0] 23) = w0 at *
    refine (HV.out _).mono ?_
    rintro e w1 ⟨rfl, hb⟩
    rw [show decide (FrOk ⟨n, d⟩) = true from by simp [hv]]
    have HR1 := Lib.hid (two_keep HR0.out hb)
    obtain ⟨a0, a1, g0, g1⟩ := cells_two HR1.out.1
    obtain ⟨v0, v1, z0, z1⟩ := cells_two HR1.out.2.1
    clear hb HR0
    go_wp2_with fail
    refine bodyPost_ret (v := .tuple #[frV ⟨0, 0⟩, .int .i64 12]) (by simp [results, Tryd.results24, go_sem, frV, v0, v1]) rfl ?_
    rw [HF.out]
    exact ⟨rfl, by have hb := HR1.out.2.2; clear HR1; go_grown⟩
  have t1 : decide (den < 1) = false := by simpa using h1
  by_cases h2 : 1073741824 < den
  focus
    have HF : Hid (roundF ⟨n, d⟩ den = (⟨0, 0⟩, 12)) := by unfold Hid roundF; rw [if_pos hv, if_pos (Or.inr h2)]
    have t2 : decide (1073741824 < den) = true := by simpa using h2
    go_enter Tryd.func24, Tryd.ntmps24
    go_wp2_with fail
    generalize (w.alloc (.cells #[.int .i64 n, .int .i64 d] 23)).alloc (.cells #[.int .i64 0, .int .i64 0] 23) = w0 at *
    refine (HV.out _).mono ?_
    rintro e w1 ⟨rfl, hb⟩
    rw [show decide (FrOk ⟨n, d⟩) = true from by simp [hv]]
    have HR1 := Lib.hid (two_keep HR0.out hb)
    obtain ⟨a0, a1, g0, g1⟩ := cells_two HR1.out.1
    obtain ⟨v0, v1, z0, z1⟩ := cells_two HR1.out.2.1
    clear hb HR0
    go_wp2_with fail
    refine bodyPost_ret (v := .tuple #[frV ⟨0, 0⟩, .int .i64 12]) (by simp [results, Tryd.results24, go_sem, frV, v0, v1]) rfl ?_
    rw [HF.out]
    exact ⟨rfl, by have hb := HR1.out.2.2; clear HR1; go_grown⟩
  have t2 : decide (1073741824 < den) = false := by simpa using h2
  obtain ⟨k1, k2, k3, k4, _⟩ := id hv
  simp only at k1 k2 k3 k4
  obtain ⟨m, rfl⟩ : ∃ m : Nat, den = m := ⟨den.toNat, by omega⟩
  obtain ⟨q, rfl⟩ : ∃ q : Nat, d = q := ⟨d.toNat, by omega⟩
  obtain ⟨p, K, e1, e2, e3, e4, e5, e6, e7, e8, e9⟩ := kq_facts n.natAbs m q (by omega) (by omega) (by omega) (by omega)
  have HF0 : Hid (roundF ⟨n, (q : Int)⟩ (m : Int) = mkF (if n < 0 then -(K : Int) else (K : Int)) (m : Int)) := by
    unfold Hid roundF
    rw [if_pos hv, if_neg (by omega), roundK_eq n m q K p e1 e4]
  have hI : I64 n := ⟨by omega, by omega⟩
  have hp0 : 0 ≤ (n.natAbs : Int) * (m : Int) ∧ (n.natAbs : Int) * (m : Int) ≤ 1152921504606846976 := by rw [e2]; omega
  obtain ⟨hp0, hp1⟩ := hp0
  have hm1 : 1 ≤ (m : Int) ∧ (m : Int) ≤ 1073741824 := by omega
  obtain ⟨hm1, hm2⟩ := hm1
  have hK0 : (K : Int) ≤ 2305843010287435776 := by omega
  clear e1 e3 e4 e6
  by_cases s1 : n < 0
  focus
    rw [if_pos s1] at HF0
    have t3 : decide (n < 0) = true := by simpa using s1
    have HF := HF0
    clear e9 HF0
    go_enter Tryd.func24, Tryd.ntmps24
    go_wp2_with fail
    generalize (w.alloc (.cells #[.int .i64 n, .int .i64 (q : Int)] 23)).alloc (.cells #[.int .i64 0, .int .i64 0] 23) = w0 at *
    refine (HV.out _).mono ?_
    rintro e w1 ⟨rfl, hb⟩
    rw [show decide (FrOk ⟨n, (q : Int)⟩) = true from by simp [hv]]
    have HR1 := Lib.hid (two_keep HR0.out hb)
    obtain ⟨a0, a1, g0, g1⟩ := cells_two HR1.out.1
    obtain ⟨v0, v1, z0, z1⟩ := cells_two HR1.out.2.1
    clear hb HR0
    go_wp2_with fail
    refine (mag_any _ n hI).mono ?_
    rintro e w' ⟨rfl, rfl⟩
    go_wp2_with fail
    refine (make_any _ (-((K : Int))) (m : Int) (by unfold I64; omega) (by unfold I64; omega)).mono ?_
    rintro e w2 ⟨rfl, hb⟩
    cases hx : mkF (-((K : Int))) (m : Int) with
    | mk x e =>
    obtain ⟨c, d⟩ := x
    rw [hx] at HF
    unfold frV
    have HR2 := Lib.hid (two_keep HR1.out hb)
    obtain ⟨v0, v1, z0, z1⟩ := cells_two HR2.out.2.1
    clear hb HR1 hx
    go_wp2_with fail
    refine bodyPost_ret (v := .tuple #[frV ⟨c, d⟩, .int .i64 e]) (by simp [results, Tryd.results24, go_sem, frV, v0, v1]) rfl ?_
    rw [HF.out]
    exact ⟨rfl, by have hb := HR2.out.2.2; clear HR2; go_grown⟩
  focus
    rw [if_neg s1] at HF0
    have t3 : decide (n < 0) = false := by simpa using s1
    have HF := HF0
    clear e9 HF0
    go_enter Tryd.func24, Tryd.ntmps24
    go_wp2_with fail
    generalize (w.alloc (.cells #[.int .i64 n, .int .i64 (q : Int)] 23)).alloc (.cells #[.int .i64 0, .int .i64 0] 23) = w0 at *
    refine (HV.out _).mono ?_
    rintro e w1 ⟨rfl, hb⟩
    rw [show decide (FrOk ⟨n, (q : Int)⟩) = true from by simp [hv]]
    have HR1 := Lib.hid (two_keep HR0.out hb)
    obtain ⟨a0, a1, g0, g1⟩ := cells_two HR1.out.1
    obtain ⟨v0, v1, z0, z1⟩ := cells_two HR1.out.2.1
    clear hb HR0
    go_wp2_with fail
    refine (mag_any _ n hI).mono ?_
    rintro e w' ⟨rfl, rfl⟩
    go_wp2_with fail
    refine (make_any _ ((K : Int)) (m : Int) (by unfold I64; omega) (by unfold I64; omega)).mono ?_
    rintro e w2 ⟨rfl, hb⟩
    cases hx : mkF ((K : Int)) (m : Int) with
    | mk x e =>
    obtain ⟨c, d⟩ := x
    rw [hx] at HF
    unfold frV
    have HR2 := Lib.hid (two_keep HR1.out hb)
    obtain ⟨v0, v1, z0, z1⟩ := cells_two HR2.out.2.1
    clear hb HR1 hx
    go_wp2_with fail
    refine bodyPost_ret (v := .tuple #[frV ⟨c, d⟩, .int .i64 e]) (by simp [results, Tryd.results24, go_sem, frV, v0, v1]) rfl ?_
    rw [HF.out]
    exact ⟨rfl, by have hb := HR2.out.2.2; clear HR2; go_grown⟩

set_option maxHeartbeats 4000000 in
set_option maxRecDepth 100000 in
theorem rround_any (w : World) (f : Fr) (den : Int) (hf : FI f) (hden : I64 den) : Calls Tryd.prog 25 #[frV f, .int .i64 den] w (OutF w (roundF f den)) := by
  have HV := Lib.hid (fun w => rvalid_any w f hf)
  obtain ⟨n, d⟩ := f
  obtain ⟨de1, de2⟩ := hden
  have HR0 := Lib.hid (two_cells w (.cells #[.int .i64 n, .int .i64 d] 23) (.cells #[.int .i64 0, .int .i64 0] 23))
  clear hf
  unfold frV at HV ⊢
  by_cases hv : FrOk ⟨n, d⟩
  rotate_left
  focus
    have HF : Hid (roundF ⟨n, d⟩ den = (⟨0, 0⟩, 13)) := by unfold Hid roundF; rw [if_neg hv]
    go_enter Tryd.func25, Tryd.ntmps25
    go_wp2_with fail
    generalize (w.alloc (.cells #[.int .i64 n, .int .i64 d] 23)).alloc (.cells #[.int .i64 0, .int .i64 0] 23) = w0 at *
    refine (HV.out _).mono ?_
    rintro e w1 ⟨rfl, hb⟩
    rw [show decide (FrOk ⟨n, d⟩) = false from by simp [hv]]
    have HR1 := Lib.hid (two_keep HR0.out hb)
    obtain ⟨a0, a1, g0, g1⟩ := cells_two HR1.out.1
    obtain ⟨v0, v1, z0, z1⟩ := cells_two HR1.out.2.1
    clear hb HR0
    go_wp2_with fail
    refine bodyPost_ret (v := .tuple #[frV ⟨0, 0⟩, .int .i64 13]) (by simp [results, Tryd.results25, go_sem, frV, v0, v1]) rfl ?_
    rw [HF.out]
    exact ⟨rfl, by have hb := HR1.out.2.2; clear HR1; go_grown⟩
  by_cases h1 : den < 1
  focus
    have HF : Hid (roundF ⟨n, d⟩ den = (⟨0, 0⟩, 12)) := by unfold Hid roundF; rw [if_pos hv, if_pos (Or.inl h1)]
    have t1 : decide (den < 1) = true := by simpa using h1
    go_enter Tryd.func25, Tryd.ntmps25
    go_wp2_with fail
    generalize (w.alloc (.cells #[.int .i64 n, .int .i64 d] 23)).alloc (.cells #[.int .i64 0, .int .i64 0] 23) = w0 at *
    refine (HV.out _).mono ?_
    rintro e w1 ⟨rfl, hb⟩
    rw [show decide (FrOk ⟨n, d⟩) = true from by simp [hv]]
    have HR1 := Lib.hid (two_keep HR0.out hb)
    obtain ⟨a0, a1, g0, g1⟩ := cells_two HR1.out.1
    obtain ⟨v0, v1, z0, z1⟩ := cells_two HR1.out.2.1
    clear hb HR0
    go_wp2_with fail
    refine bodyPost_ret (v := .tuple #[frV ⟨0, 0⟩, .int .i64 12]) (by simp [results, Tryd.results25, go_sem, frV, v0, v1]) rfl ?_
    rw [HF.out]
    exact ⟨rfl, by have hb := HR1.out.2.2; clear HR1; go_grown⟩
  have t1 : decide (den < 1) = false := by simpa using h1
  by_cases h2 : 1073741824 < den
  focus
    have HF : Hid (roundF ⟨n, d⟩ den = (⟨0, 0⟩, 12)) := by unfold Hid roundF; rw [if_pos hv, if_pos (Or.inr h2)]
    have t2 : decide (1073741824 < den) = true := by simpa using h2
    go_enter Tryd.func25, Tryd.ntmps25
    go_wp2_with fail
    generalize (w.alloc (.cells #[.int .i64 n, .int .i64 d] 23)).alloc (.cells #[.int .i64 0, .int .i64 0] 23) = w0 at *
    refine (HV.out _).mono ?_
    rintro e w1 ⟨rfl, hb⟩
    rw [show decide (FrOk ⟨n, d⟩) = true from by simp [hv]]
    have HR1 := Lib.hid (two_keep HR0.out hb)
    obtain ⟨a0, a1, g0, g1⟩ := cells_two HR1.out.1
    obtain ⟨v0, v1, z0, z1⟩ := cells_two HR1.out.2.1
    clear hb HR0
    go_wp2_with fail
    refine bodyPost_ret (v := .tuple #[frV ⟨0, 0⟩, .int .i64 12]) (by simp [results, Tryd.results25, go_sem, frV, v0, v1]) rfl ?_
    rw [HF.out]
    exact ⟨rfl, by have hb := HR1.out.2.2; clear HR1; go_grown⟩
  have t2 : decide (1073741824 < den) = false := by simpa using h2
  obtain ⟨k1, k2, k3, k4, _⟩ := id hv
  simp only at k1 k2 k3 k4
  obtain ⟨m, rfl⟩ : ∃ m : Nat, den = m := ⟨den.toNat, by omega⟩
  obtain ⟨q, rfl⟩ : ∃ q : Nat, d = q := ⟨d.toNat, by omega⟩
  obtain ⟨p, K, e1, e2, e3, e4, e5, e6, e7, e8, e9⟩ := kq_facts n.natAbs m q (by omega) (by omega) (by omega) (by omega)
  have HF0 : Hid (roundF ⟨n, (q : Int)⟩ (m : Int) = mkF (if n < 0 then -(K : Int) else (K : Int)) (m : Int)) := by
    unfold Hid roundF
    rw [if_pos hv, if_neg (by omega), roundK_eq n m q K p e1 e4]
  have hI : I64 n := ⟨by omega, by omega⟩
  have hp0 : 0 ≤ (n.natAbs : Int) * (m : Int) ∧ (n.natAbs : Int) * (m : Int) ≤ 1152921504606846976 := by rw [e2]; omega
  obtain ⟨hp0, hp1⟩ := hp0
  have hm1 : 1 ≤ (m : Int) ∧ (m : Int) ≤ 1073741824 := by omega
  obtain ⟨hm1, hm2⟩ := hm1
  have hK0 : (K : Int) ≤ 2305843010287435776 := by omega
  clear e1 e3 e4 e6
  by_cases s1 : n < 0
  focus
    rw [if_pos s1] at HF0
    have t3 : decide (n < 0) = true := by simpa using s1
    obtain ⟨Q, R, hQ, hR, hQi, hRi, hQ1, hR1⟩ : ∃ Q R : Nat, p / q = Q ∧ p % q = R ∧ (p : Int) / (q : Int) = (Q : Int) ∧ (p : Int) % (q : Int) = (R : Int) ∧ Q ≤ 1152921504606846976 ∧ R ≤ 1073741824 :=
      ⟨p / q, p % q, rfl, rfl, by simp, by simp, Nat.le_trans (Nat.div_le_self _ _) (by omega), Nat.le_trans (Nat.le_of_lt (Nat.mod_lt _ (by omega))) (by omega)⟩
    rw [hQ, hR] at e9
    have hQ1 : (Q : Int) ≤ 1152921504606846976 := by omega
    have hR1 : (R : Int) ≤ 1073741824 := by omega
    clear e5 e7 hQ hR hK0
    by_cases hr : q ≤ 2 * R
    focus
      rw [if_pos hr] at e9
      have hKv : (K : Int) = (Q : Int) + 1 := by omega
      rw [hKv] at HF0
      clear e9 hKv
      have t4 : decide ((q : Int) ≤ 2 * (R : Int)) = true := by simp; omega
      have HF := HF0
      clear HF0
      go_enter Tryd.func25, Tryd.ntmps25
      go_wp2_with fail
      generalize (w.alloc (.cells #[.int .i64 n, .int .i64 (q : Int)] 23)).alloc (.cells #[.int .i64 0, .int .i64 0] 23) = w0 at *
      refine (HV.out _).mono ?_
      rintro e w1 ⟨rfl, hb⟩
      rw [show decide (FrOk ⟨n, (q : Int)⟩) = true from by simp [hv]]
      have HR1 := Lib.hid (two_keep HR0.out hb)
      obtain ⟨a0, a1, g0, g1⟩ := cells_two HR1.out.1
      obtain ⟨v0, v1, z0, z1⟩ := cells_two HR1.out.2.1
      clear hb HR0
      go_wp2_with fail
      refine (rmag_any _ n hI).mono ?_
      rintro e w' ⟨rfl, rfl⟩
      go_wp2_with fail
      go_region
      replace HR1 := Lib.hid (two_keep HR1.out (Below.drew (Below.refl _ _)))
      go_wp2_with fail
      refine (rmake_any _ (-(((Q : Int) + 1))) (m : Int) (by unfold I64; omega) (by unfold I64; omega)).mono ?_
      rintro e w2 ⟨rfl, hb⟩
      cases hx : mkF (-(((Q : Int) + 1))) (m : Int) with
      | mk x e =>
      obtain ⟨c, d⟩ := x
      rw [hx] at HF
      unfold frV
      have HR2 := Lib.hid (two_keep HR1.out hb)
      obtain ⟨v0, v1, z0, z1⟩ := cells_two HR2.out.2.1
      clear hb HR1 hx
      go_wp2_with fail
      refine bodyPost_ret (v := .tuple #[frV ⟨c, d⟩, .int .i64 e]) (by simp [results, Tryd.results25, go_sem, frV, v0, v1]) rfl ?_
      rw [HF.out]
      exact ⟨rfl, by have hb := HR2.out.2.2; clear HR2; go_grown⟩
    focus
      rw [if_neg hr] at e9
      have hKv : (K : Int) = (Q : Int) := by omega
      rw [hKv] at HF0
      clear e9 hKv
      have t4 : decide ((q : Int) ≤ 2 * (R : Int)) = false := by simp; omega
      have HF := HF0
      clear HF0
      go_enter Tryd.func25, Tryd.ntmps25
      go_wp2_with fail
      generalize (w.alloc (.cells #[.int .i64 n, .int .i64 (q : Int)] 23)).alloc (.cells #[.int .i64 0, .int .i64 0] 23) = w0 at *
      refine (HV.out _).mono ?_
      rintro e w1 ⟨rfl, hb⟩
      rw [show decide (FrOk ⟨n, (q : Int)⟩) = true from by simp [hv]]
      have HR1 := Lib.hid (two_keep HR0.out hb)
      obtain ⟨a0, a1, g0, g1⟩ := cells_two HR1.out.1
      obtain ⟨v0, v1, z0, z1⟩ := cells_two HR1.out.2.1
      clear hb HR0
      go_wp2_with fail
      refine (rmag_any _ n hI).mono ?_
      rintro e w' ⟨rfl, rfl⟩
      go_wp2_with fail
      go_region
      replace HR1 := Lib.hid (two_keep HR1.out (Below.drew (Below.refl _ _)))
      go_wp2_with fail
      refine (rmake_any _ (-((Q : Int))) (m : Int) (by unfold I64; omega) (by unfold I64; omega)).mono ?_
      rintro e w2 ⟨rfl, hb⟩
      cases hx : mkF (-((Q : Int))) (m : Int) with
      | mk x e =>
      obtain ⟨c, d⟩ := x
      rw [hx] at HF
      unfold frV
      have HR2 := Lib.hid (two_keep HR1.out hb)
      obtain ⟨v0, v1, z0, z1⟩ := cells_two HR2.out.2.1
      clear hb HR1 hx
      go_wp2_with fail
      refine bodyPost_ret (v := .tuple #[frV ⟨c, d⟩, .int .i64 e]) (by simp [results, Tryd.results25, go_sem, frV, v0, v1]) rfl ?_
      rw [HF.out]
      exact ⟨rfl, by have hb := HR2.out.2.2; clear HR2; go_grown⟩
  focus
    rw [if_neg s1] at HF0
    have t3 : decide (n < 0) = false := by simpa using s1
    obtain ⟨Q, R, hQ, hR, hQi, hRi, hQ1, hR1⟩ : ∃ Q R : Nat, p / q = Q ∧ p % q = R ∧ (p : Int) / (q : Int) = (Q : Int) ∧ (p : Int) % (q : Int) = (R : Int) ∧ Q ≤ 1152921504606846976 ∧ R ≤ 1073741824 :=
      ⟨p / q, p % q, rfl, rfl, by simp, by simp, Nat.le_trans (Nat.div_le_self _ _) (by omega), Nat.le_trans (Nat.le_of_lt (Nat.mod_lt _ (by omega))) (by omega)⟩
    rw [hQ, hR] at e9
    have hQ1 : (Q : Int) ≤ 1152921504606846976 := by omega
    have hR1 : (R : Int) ≤ 1073741824 := by omega
    clear e5 e7 hQ hR hK0
    by_cases hr : q ≤ 2 * R
    focus
      rw [if_pos hr] at e9
      have hKv : (K : Int) = (Q : Int) + 1 := by omega
      rw [hKv] at HF0
      clear e9 hKv
      have t4 : decide ((q : Int) ≤ 2 * (R : Int)) = true := by simp; omega
      have HF := HF0
      clear HF0
      go_enter Tryd.func25, Tryd.ntmps25
      go_wp2_with fail
      generalize (w.alloc (.cells #[.int .i64 n, .int .i64 (q : Int)] 23)).alloc (.cells #[.int .i64 0, .int .i64 0] 23) = w0 at *
      refine (HV.out _).mono ?_
      rintro e w1 ⟨rfl, hb⟩
      rw [show decide (FrOk ⟨n, (q : Int)⟩) = true from by simp [hv]]
      have HR1 := Lib.hid (two_keep HR0.out hb)
      obtain ⟨a0, a1, g0, g1⟩ := cells_two HR1.out.1
      obtain ⟨v0, v1, z0, z1⟩ := cells_two HR1.out.2.1
      clear hb HR0
      go_wp2_with fail
      refine (rmag_any _ n hI).mono ?_
      rintro e w' ⟨rfl, rfl⟩
      go_wp2_with fail
      go_region
      replace HR1 := Lib.hid (two_keep HR1.out (Below.drew (Below.refl _ _)))
      go_wp2_with fail
      refine (rmake_any _ (((Q : Int) + 1)) (m : Int) (by unfold I64; omega) (by unfold I64; omega)).mono ?_
      rintro e w2 ⟨rfl, hb⟩
      cases hx : mkF (((Q : Int) + 1)) (m : Int) with
      | mk x e =>
      obtain ⟨c, d⟩ := x
      rw [hx] at HF
      unfold frV
      have HR2 := Lib.hid (two_keep HR1.out hb)
      obtain ⟨v0, v1, z0, z1⟩ := cells_two HR2.out.2.1
      clear hb HR1 hx
      go_wp2_with fail
      refine bodyPost_ret (v := .tuple #[frV ⟨c, d⟩, .int .i64 e]) (by simp [results, Tryd.results25, go_sem, frV, v0, v1]) rfl ?_
      rw [HF.out]
      exact ⟨rfl, by have hb := HR2.out.2.2; clear HR2; go_grown⟩
    focus
      rw [if_neg hr] at e9
      have hKv : (K : Int) = (Q : Int) := by omega
      rw [hKv] at HF0
      clear e9 hKv
      have t4 : decide ((q : Int) ≤ 2 * (R : Int)) = false := by simp; omega
      have HF := HF0
      clear HF0
      go_enter Tryd.func25, Tryd.ntmps25
      go_wp2_with fail
      generalize (w.alloc (.cells #[.int .i64 n, .int .i64 (q : Int)] 23)).alloc (.cells #[.int .i64 0, .int .i64 0] 23) = w0 at *
      refine (HV.out _).mono ?_
      rintro e w1 ⟨rfl, hb⟩
      rw [show decide (FrOk ⟨n, (q : Int)⟩) = true from by simp [hv]]
      have HR1 := Lib.hid (two_keep HR0.out hb)
      obtain ⟨a0, a1, g0, g1⟩ := cells_two HR1.out.1
      obtain ⟨v0, v1, z0, z1⟩ := cells_two HR1.out.2.1
      clear hb HR0
      go_wp2_with fail
      refine (rmag_any _ n hI).mono ?_
      rintro e w' ⟨rfl, rfl⟩
      go_wp2_with fail
      go_region
      replace HR1 := Lib.hid (two_keep HR1.out (Below.drew (Below.refl _ _)))
      go_wp2_with fail
      refine (rmake_any _ ((Q : Int)) (m : Int) (by unfold I64; omega) (by unfold I64; omega)).mono ?_
      rintro e w2 ⟨rfl, hb⟩
      cases hx : mkF ((Q : Int)) (m : Int) with
      | mk x e =>
      obtain ⟨c, d⟩ := x
      rw [hx] at HF
      unfold frV
      have HR2 := Lib.hid (two_keep HR1.out hb)
      obtain ⟨v0, v1, z0, z1⟩ := cells_two HR2.out.2.1
      clear hb HR1 hx
      go_wp2_with fail
      refine bodyPost_ret (v := .tuple #[frV ⟨c, d⟩, .int .i64 e]) (by simp [results, Tryd.results25, go_sem, frV, v0, v1]) rfl ?_
      rw [HF.out]
      exact ⟨rfl, by have hb := HR2.out.2.2; clear HR2; go_grown⟩
end Go.Proofs.YtjobncfjebkcdaaDoor
