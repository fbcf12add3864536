/- The walks of fraction.Valid and of the reference's Valid. -/
import Derived.Test.YtjobncfjebkcdaaDoorFk
namespace Go.Proofs.YtjobncfjebkcdaaDoor
open Go Go.RowKit
set_option linter.unusedSimpArgs false

def FI (f : Fr) : Prop := I64 f.num ∧ I64 f.den
theorem FrOk.fi {f : Fr} (h : FrOk f) : FI f := by
  obtain ⟨h1, h2, h3, h4, _⟩ := h
  exact ⟨⟨by omega, by omega⟩, ⟨by omega, by omega⟩⟩

set_option maxHeartbeats 4000000 in
set_option maxRecDepth 100000 in
theorem valid_any (w : World) (f : Fr) (hf : FI f) : Calls Tryd.prog 12 #[frV f] w (OutB w (.bool (decide (FrOk f)))) := by
  obtain ⟨a, b⟩ := f
  have HM : ∀ w, Calls Tryd.prog 10 #[.int .i64 a, .int .i64 b] w (OutF w (mkF a b)) := fun w => make_any w a b hf.1 hf.2
  have HV := mkF_valid ⟨a, b⟩
  simp only at HV
  have HB0 := Lib.hid ((Below.refl w.heap.size w).alloc (Nat.le_refl _) (.cells #[.int .i64 a, .int .i64 b] 23))
  have HRES0 := Lib.hid (heap_alloc_new w (.cells #[.int .i64 a, .int .i64 b] 23))
  unfold frV
  clear hf
  cases hx : mkF a b with
  | mk x e =>
  obtain ⟨c, d⟩ := x
  rw [hx] at HM HV
  have HM' := Lib.hid HM
  clear HM hx
  by_cases hv : FrOk ⟨a, b⟩
  focus
    have h1 := HV.2 hv
    simp only [Prod.mk.injEq, Fr.mk.injEq] at h1
    obtain ⟨⟨rfl, rfl⟩, rfl⟩ := h1
    rw [show decide (FrOk ⟨c, d⟩) = true from by simp [hv]]
    clear HV hv
    go_enter Tryd.func12, Tryd.ntmps12
    go_wp2_with fail
    generalize w.alloc (.cells #[.int .i64 c, .int .i64 d] 23) = w0 at *
    refine (HM'.out _).mono ?_
    rintro e w1 ⟨rfl, hb⟩
    have HB1 := Lib.hid (HB0.out.trans (hb.mono HB0.out.size))
    have HRES1 := Lib.hid ((hb.block _ (heap_lt HRES0.out)).trans HRES0.out)
    have hq : w.heap.size < w1.heap.size := heap_lt HRES1.out
    obtain ⟨v0, v1, g0, g1⟩ := cells_two HRES1.out
    clear hb HB0 HRES0 HM'
    unfold frV
    go_wp2_with fail
    go_ret
    exact ⟨rfl, by have hb := HB1.out; clear HB1; go_grown⟩
  have hnv : decide (FrOk ⟨a, b⟩) = false := by simp [hv]
  rw [hnv]
  by_cases he : e = 0
  focus
    subst he
    have hne : Hid ((c == a && d == b) = false) := by
      unfold Hid
      rw [Bool.eq_false_iff]
      intro h
      simp only [Bool.and_eq_true, beq_iff_eq] at h
      exact hv (HV.1 (by rw [h.1, h.2]))
    have hne2 : Hid ((a == c && b == d) = false) := by
      have h := hne.out
      unfold Hid
      rw [show (a == c) = (c == a) from BEq.comm, show (b == d) = (d == b) from BEq.comm, h]
    clear HV hv hnv
    go_enter Tryd.func12, Tryd.ntmps12
    go_wp2_with fail
    generalize w.alloc (.cells #[.int .i64 a, .int .i64 b] 23) = w0 at *
    refine (HM'.out _).mono ?_
    rintro e w1 ⟨rfl, hb⟩
    have HB1 := Lib.hid (HB0.out.trans (hb.mono HB0.out.size))
    have HRES1 := Lib.hid ((hb.block _ (heap_lt HRES0.out)).trans HRES0.out)
    have hq : w.heap.size < w1.heap.size := heap_lt HRES1.out
    obtain ⟨v0, v1, g0, g1⟩ := cells_two HRES1.out
    clear hb HB0 HRES0 HM'
    unfold frV
    go_wp2_with fail
    all_goals go_ret
    all_goals refine ⟨ret_bool ?_, ?_⟩
    any_goals (first | rfl | (exfalso; have h := hne.out; simp_all; done))
    all_goals
      have hb := HB1.out; clear HB1; go_grown
  focus
    have he1 : (e == 0) = false := beq_eq_false_iff_ne.2 he
    clear HV hv hnv he
    go_enter Tryd.func12, Tryd.ntmps12
    go_wp2_with fail
    generalize w.alloc (.cells #[.int .i64 a, .int .i64 b] 23) = w0 at *
    refine (HM'.out _).mono ?_
    rintro e w1 ⟨rfl, hb⟩
    have HB1 := Lib.hid (HB0.out.trans (hb.mono HB0.out.size))
    have HRES1 := Lib.hid ((hb.block _ (heap_lt HRES0.out)).trans HRES0.out)
    have hq : w.heap.size < w1.heap.size := heap_lt HRES1.out
    obtain ⟨v0, v1, g0, g1⟩ := cells_two HRES1.out
    clear hb HB0 HRES0 HM'
    unfold frV
    go_wp2_with fail
    go_ret
    exact ⟨rfl, by have hb := HB1.out; clear HB1; go_grown⟩

set_option maxHeartbeats 4000000 in
set_option maxRecDepth 100000 in
theorem rvalid_any (w : World) (f : Fr) (hf : FI f) : Calls Tryd.prog 13 #[frV f] w (OutB w (.bool (decide (FrOk f)))) := by
  obtain ⟨n, d⟩ := f
  obtain ⟨⟨hn1, hn2⟩, hd1, hd2⟩ := hf
  simp only at hn1 hn2 hd1 hd2
  have HB0 := Lib.hid ((Below.refl w.heap.size w).alloc (Nat.le_refl _) (.cells #[.int .i64 n, .int .i64 d] 23))
  have HRES0 := Lib.hid (heap_alloc_new w (.cells #[.int .i64 n, .int .i64 d] 23))
  unfold frV
  by_cases h1 : 1 ≤ d
  rotate_left
  focus
    rw [show decide (FrOk ⟨n, d⟩) = false from decide_eq_false (fun hh => by obtain ⟨a1, a2, a3, a4, _⟩ := hh; simp only at a1 a2 a3 a4; omega)]
    have t1 : decide (1 ≤ d) = false := by simpa using h1
    go_enter Tryd.func13, Tryd.ntmps13
    go_wp2_with fail
    go_quiet (skip)
    go_wp2_with fail
    go_ret
    exact ⟨rfl, below_drewN HB0.out nq⟩
  by_cases h2 : d ≤ 1073741824
  rotate_left
  focus
    rw [show decide (FrOk ⟨n, d⟩) = false from decide_eq_false (fun hh => by obtain ⟨a1, a2, a3, a4, _⟩ := hh; simp only at a1 a2 a3 a4; omega)]
    have t1 : decide (1 ≤ d) = true := by simpa using h1
    have t2 : decide (d ≤ 1073741824) = false := by simpa using h2
    go_enter Tryd.func13, Tryd.ntmps13
    go_wp2_with fail
    go_quiet (skip)
    go_wp2_with fail
    go_ret
    exact ⟨rfl, below_drewN HB0.out nq⟩
  by_cases h3 : -1073741824 ≤ n
  rotate_left
  focus
    rw [show decide (FrOk ⟨n, d⟩) = false from decide_eq_false (fun hh => by obtain ⟨a1, a2, a3, a4, _⟩ := hh; simp only at a1 a2 a3 a4; omega)]
    have t1 : decide (1 ≤ d) = true := by simpa using h1
    have t2 : decide (d ≤ 1073741824) = true := by simpa using h2
    have t3 : decide (-1073741824 ≤ n) = false := by simpa using h3
    go_enter Tryd.func13, Tryd.ntmps13
    go_wp2_with fail
    go_quiet (skip)
    go_wp2_with fail
    go_ret
    exact ⟨rfl, below_drewN HB0.out nq⟩
  by_cases h4 : n ≤ 1073741824
  rotate_left
  focus
    rw [show decide (FrOk ⟨n, d⟩) = false from decide_eq_false (fun hh => by obtain ⟨a1, a2, a3, a4, _⟩ := hh; simp only at a1 a2 a3 a4; omega)]
    have t1 : decide (1 ≤ d) = true := by simpa using h1
    have t2 : decide (d ≤ 1073741824) = true := by simpa using h2
    have t3 : decide (-1073741824 ≤ n) = true := by simpa using h3
    have t4 : decide (n ≤ 1073741824) = false := by simpa using h4
    go_enter Tryd.func13, Tryd.ntmps13
    go_wp2_with fail
    go_quiet (skip)
    go_wp2_with fail
    go_ret
    exact ⟨rfl, below_drewN HB0.out nq⟩
  have hN : n.natAbs ≤ 18446744073709551615 := by omega
  have hD : d.natAbs ≤ 18446744073709551615 := by omega
  by_cases hg : Nat.gcd n.natAbs d.natAbs = 1
  focus
    rw [show decide (FrOk ⟨n, d⟩) = true from by simp [FrOk, h1, h2, h3, h4, hg]]
    have t1 : decide (1 ≤ d) = true := by simpa using h1
    have t2 : decide (d ≤ 1073741824) = true := by simpa using h2
    have t3 : decide (-1073741824 ≤ n) = true := by simpa using h3
    have t4 : decide (n ≤ 1073741824) = true := by simpa using h4
    have tg : (((Nat.gcd n.natAbs d.natAbs : Nat) : Int) == 1) = true := by rw [hg]; rfl
    go_enter Tryd.func13, Tryd.ntmps13
    go_wp2_with fail
    generalize w.alloc (.cells #[.int .i64 n, .int .i64 d] 23) = w0 at *
    obtain ⟨v0, v1, g0, g1⟩ := cells_two HRES0.out
    have hm1 : ∀ k, Calls Tryd.prog 43 #[.int .i64 n] (w0.drewN k) fun e w' => e = .returned (.int .u64 n.natAbs) ∧ w' = w0.drewN k := fun k => (rmag_any (w0.drewN k) n ⟨hn1, hn2⟩).mono fun _ _ h => ⟨h.1, h.2.symm⟩
    have hm2 : ∀ k, Calls Tryd.prog 43 #[.int .i64 d] (w0.drewN k) fun e w' => e = .returned (.int .u64 d.natAbs) ∧ w' = w0.drewN k := fun k => (rmag_any (w0.drewN k) d ⟨hd1, hd2⟩).mono fun _ _ h => ⟨h.1, h.2.symm⟩
    have hm3 : ∀ k, Calls Tryd.prog 42 #[.int .u64 n.natAbs, .int .u64 d.natAbs] (w0.drewN k) fun e w' => e = .returned (.int .u64 (Nat.gcd n.natAbs d.natAbs)) ∧ ∃ m, w' = w0.drewN m := fun k => (rgcd_drew (w0.drewN k) _ _ hN hD).mono fun _ _ h => ⟨h.1, by obtain ⟨m, hm⟩ := h.2; exact ⟨k + m, by rw [hm, World.drewN_drewN]⟩⟩
    go_quiet (first | (go_at_call 43; first | (with_reducible exact Calls.quiet_of_same (hm1 _)) | (with_reducible exact Calls.quiet_of_same (hm2 _))) | (go_at_call 42; (with_reducible exact hm3 _)))
    clear hm1 hm2 hm3
    go_wp2_with fail
    go_ret
    exact ⟨rfl, below_drewN HB0.out nq⟩
  focus
    rw [show decide (FrOk ⟨n, d⟩) = false from by simp [FrOk, h1, h2, h3, h4, hg]]
    have t1 : decide (1 ≤ d) = true := by simpa using h1
    have t2 : decide (d ≤ 1073741824) = true := by simpa using h2
    have t3 : decide (-1073741824 ≤ n) = true := by simpa using h3
    have t4 : decide (n ≤ 1073741824) = true := by simpa using h4
    have tg : (((Nat.gcd n.natAbs d.natAbs : Nat) : Int) == 1) = false := by rw [beq_eq_false_iff_ne]; omega
    go_enter Tryd.func13, Tryd.ntmps13
    go_wp2_with fail
    generalize w.alloc (.cells #[.int .i64 n, .int .i64 d] 23) = w0 at *
    obtain ⟨v0, v1, g0, g1⟩ := cells_two HRES0.out
    have hm1 : ∀ k, Calls Tryd.prog 43 #[.int .i64 n] (w0.drewN k) fun e w' => e = .returned (.int .u64 n.natAbs) ∧ w' = w0.drewN k := fun k => (rmag_any (w0.drewN k) n ⟨hn1, hn2⟩).mono fun _ _ h => ⟨h.1, h.2.symm⟩
    have hm2 : ∀ k, Calls Tryd.prog 43 #[.int .i64 d] (w0.drewN k) fun e w' => e = .returned (.int .u64 d.natAbs) ∧ w' = w0.drewN k := fun k => (rmag_any (w0.drewN k) d ⟨hd1, hd2⟩).mono fun _ _ h => ⟨h.1, h.2.symm⟩
    have hm3 : ∀ k, Calls Tryd.prog 42 #[.int .u64 n.natAbs, .int .u64 d.natAbs] (w0.drewN k) fun e w' => e = .returned (.int .u64 (Nat.gcd n.natAbs d.natAbs)) ∧ ∃ m, w' = w0.drewN m := fun k => (rgcd_drew (w0.drewN k) _ _ hN hD).mono fun _ _ h => ⟨h.1, by obtain ⟨m, hm⟩ := h.2; exact ⟨k + m, by rw [hm, World.drewN_drewN]⟩⟩
    go_quiet (first | (go_at_call 43; first | (with_reducible exact Calls.quiet_of_same (hm1 _)) | (with_reducible exact Calls.quiet_of_same (hm2 _))) | (go_at_call 42; (with_reducible exact hm3 _)))
    clear hm1 hm2 hm3
    go_wp2_with fail
    go_ret
    exact ⟨rfl, below_drewN HB0.out nq⟩
end Go.Proofs.YtjobncfjebkcdaaDoor
