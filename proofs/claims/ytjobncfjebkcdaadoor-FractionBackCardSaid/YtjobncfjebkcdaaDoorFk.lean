/- The walks of fraction.Make and of the reference's Make. -/
import Derived.Test.YtjobncfjebkcdaaDoorFm
import Derived.Handy
import Derived.Laws.Rows
namespace Go.Proofs.YtjobncfjebkcdaaDoor
open Go Go.RowKit
set_option linter.unusedSimpArgs false

def frV (f : Fr) : Value := .agg #[.int .i64 f.num, .int .i64 f.den]
def OutF (w : World) (x : Fr × Int) (e : Ending) (w' : World) : Prop := e = .returned (.tuple #[frV x.1, .int .i64 x.2]) ∧ Below w.heap.size w w'
theorem mkF_parts (n d : Int) (hd : d ≠ 0) (hn : I64 n) (hd2 : I64 d) : ∃ g A B : Nat, Nat.gcd n.natAbs d.natAbs = g ∧ 0 < g ∧ g ≤ 9223372036854775808 ∧ (n.natAbs : Int) / (g : Int) = A ∧ (d.natAbs : Int) / (g : Int) = B ∧ A ≤ 9223372036854775808 ∧ B ≤ 9223372036854775808 ∧
    mkF n d = if most < A ∨ most < B then (⟨0, 0⟩, 12) else (⟨if (n < 0) ↔ (d < 0) then (A : Int) else -(A : Int), (B : Int)⟩, 0) := by
  obtain ⟨h1, h2⟩ := hn
  obtain ⟨h3, h4⟩ := hd2
  have hp : 0 < Nat.gcd n.natAbs d.natAbs := Nat.gcd_pos_of_pos_right _ (by omega)
  have hle : Nat.gcd n.natAbs d.natAbs ≤ d.natAbs := Nat.gcd_le_right _ (by omega)
  refine ⟨Nat.gcd n.natAbs d.natAbs, n.natAbs / Nat.gcd n.natAbs d.natAbs, d.natAbs / Nat.gcd n.natAbs d.natAbs, rfl, hp, by omega, by simp, by simp, ?_, ?_, ?_⟩
  · exact Nat.le_trans (Nat.div_le_self _ _) (by omega)
  · exact Nat.le_trans (Nat.div_le_self _ _) (by omega)
  · unfold mkF
    rw [if_neg hd]
theorem cells_two {w : World} {q : Nat} {x0 x1 : Value} {t : TypeId} (h : w.heap[q]? = some (.cells #[x0, x1] t (0, 0))) :
    w.cell? ⟨q, 0, none⟩ = some x0 ∧ w.cell? ⟨q, 1, none⟩ = some x1 ∧ w.frozen? ⟨q, 0, none⟩ = false ∧ w.frozen? ⟨q, 1, none⟩ = false := by
  refine ⟨by rw [cell_of_row w q 0 _ _ _ h]; rfl, by rw [cell_of_row w q 1 _ _ _ h]; rfl, by simp [World.frozen?, h], by simp [World.frozen?, h]⟩
theorem heap_lt {w : World} {b : Nat} {o : Obj} (h : w.heap[b]? = some o) : b < w.heap.size := (Array.getElem?_eq_some_iff.1 h).1
theorem outF_of {w : World} {x : Fr × Int} {e : Ending} {w' : World} {y : Fr × Int} (h : y = x) (he : e = .returned (.tuple #[frV y.1, .int .i64 y.2])) (hb : Below w.heap.size w w') : OutF w x e w' := by
  subst h; exact ⟨he, hb⟩

set_option maxHeartbeats 4000000 in
set_option maxRecDepth 100000 in
theorem make_any (w : World) (n d : Int) (hn : I64 n) (hd : I64 d) : Calls Tryd.prog 10 #[.int .i64 n, .int .i64 d] w (OutF w (mkF n d)) := by
  by_cases hd0 : d = 0
  · subst hd0
    rw [mkF_zero]
    go_enter Tryd.func10, Tryd.ntmps10
    go_wp2_with fail
    exact bodyPost_ret (v := .tuple #[frV ⟨0, 0⟩, .int .i64 13]) (by simp [results, Tryd.results10, go_sem, frV]) rfl ⟨rfl, by go_grown⟩
  obtain ⟨g, A, B, hg, hg0, hg1, hA, hB, hA1, hB1, hF⟩ := mkF_parts n d hd0 hn hd
  have hn1 := hn.1
  have hn2 := hn.2
  have hd1 := hd.1
  have hd2 := hd.2
  have HN := Lib.hid hn
  have HB0 := Lib.hid ((Below.refl w.heap.size w).alloc (Nat.le_refl _) (.cells #[.int .i64 0, .int .i64 0] 23))
  have HRES0 := Lib.hid (heap_alloc_new w (.cells #[.int .i64 0, .int .i64 0] 23))
  have HD := Lib.hid hd
  have HF := Lib.hid hF
  have HGC := Lib.hid hg
  have HA := Lib.hid hA
  have HB := Lib.hid hB
  have hdz : (d == 0) = false := beq_eq_false_iff_ne.2 hd0
  have hgz : ((g : Int) == 0) = false := beq_eq_false_iff_ne.2 (by omega)
  clear hn hd hF hg hA hB
  rcases Nat.lt_or_ge most A with hx | hx
  focus
    rw [if_pos (Or.inl hx)] at HF
    unfold most at hx
    have hx' : (1073741824 : Int) < (A : Int) := by omega
    clear hx
    go_enter Tryd.func10, Tryd.ntmps10
    go_wp2_with fail
    generalize w.alloc (.cells #[.int .i64 0, .int .i64 0] 23) = w0 at *
    refine (mag_any _ n HN.out).mono ?_
    rintro e w' ⟨rfl, rfl⟩
    go_wp2_with fail
    refine (mag_any _ d HD.out).mono ?_
    rintro e w' ⟨rfl, rfl⟩
    go_wp2_with fail
    refine (gcd_any _ n.natAbs d.natAbs (by omega) (by omega)).mono ?_
    rintro e w1 ⟨rfl, hb⟩
    rw [HGC.out]
    have hsz := heap_lt HRES0.out
    have HB1 := Lib.hid (HB0.out.trans (hb.mono HB0.out.size))
    have HRES1 := Lib.hid ((hb.block _ hsz).trans HRES0.out)
    have hq : w.heap.size < w1.heap.size := heap_lt HRES1.out
    have hq2 : w.heap.size ≠ w1.heap.size := by omega
    obtain ⟨v0, v1, g0, g1⟩ := cells_two HRES1.out
    clear hb HB0 HRES0 hsz
    go_wp2_with fail
    go_region
    rw [HA.out, HB.out]
    go_wp2_with fail
    refine bodyPost_ret (v := .tuple #[frV ⟨0, 0⟩, .int .i64 12]) (by simp [results, Tryd.results10, go_sem, frV, v0, v1, World.cell?_alloc_past, hq, hq2]) rfl ?_
    rw [HF.out]
    exact ⟨rfl, by have hb := HB1.out; clear HB1; go_grown⟩
  rcases Nat.lt_or_ge most B with hy | hy
  focus
    rw [if_pos (Or.inr hy)] at HF
    unfold most at hx hy
    have hx' : (A : Int) ≤ (1073741824 : Int) := by omega
    have hy' : (1073741824 : Int) < (B : Int) := by omega
    clear hx hy
    go_enter Tryd.func10, Tryd.ntmps10
    go_wp2_with fail
    generalize w.alloc (.cells #[.int .i64 0, .int .i64 0] 23) = w0 at *
    refine (mag_any _ n HN.out).mono ?_
    rintro e w' ⟨rfl, rfl⟩
    go_wp2_with fail
    refine (mag_any _ d HD.out).mono ?_
    rintro e w' ⟨rfl, rfl⟩
    go_wp2_with fail
    refine (gcd_any _ n.natAbs d.natAbs (by omega) (by omega)).mono ?_
    rintro e w1 ⟨rfl, hb⟩
    rw [HGC.out]
    have hsz := heap_lt HRES0.out
    have HB1 := Lib.hid (HB0.out.trans (hb.mono HB0.out.size))
    have HRES1 := Lib.hid ((hb.block _ hsz).trans HRES0.out)
    have hq : w.heap.size < w1.heap.size := heap_lt HRES1.out
    have hq2 : w.heap.size ≠ w1.heap.size := by omega
    obtain ⟨v0, v1, g0, g1⟩ := cells_two HRES1.out
    clear hb HB0 HRES0 hsz
    go_wp2_with fail
    go_region
    rw [HA.out, HB.out]
    go_wp2_with fail
    refine bodyPost_ret (v := .tuple #[frV ⟨0, 0⟩, .int .i64 12]) (by simp [results, Tryd.results10, go_sem, frV, v0, v1, World.cell?_alloc_past, hq, hq2]) rfl ?_
    rw [HF.out]
    exact ⟨rfl, by have hb := HB1.out; clear HB1; go_grown⟩
  rw [if_neg (by omega)] at HF
  unfold most at hx hy
  have hx' : (A : Int) ≤ (1073741824 : Int) := by omega
  have hy' : (B : Int) ≤ (1073741824 : Int) := by omega
  clear hx hy
  by_cases s1 : n < 0 <;> by_cases s2 : d < 0
  focus
    have t1 : decide (n < 0) = true := by simpa using s1
    have t2 : decide (d < 0) = true := by simpa using s2
    rw [if_pos (by simp [s1, s2])] at HF
    go_enter Tryd.func10, Tryd.ntmps10
    go_wp2_with fail
    generalize w.alloc (.cells #[.int .i64 0, .int .i64 0] 23) = w0 at *
    refine (mag_any _ n HN.out).mono ?_
    rintro e w' ⟨rfl, rfl⟩
    go_wp2_with fail
    refine (mag_any _ d HD.out).mono ?_
    rintro e w' ⟨rfl, rfl⟩
    go_wp2_with fail
    refine (gcd_any _ n.natAbs d.natAbs (by omega) (by omega)).mono ?_
    rintro e w1 ⟨rfl, hb⟩
    rw [HGC.out]
    have hsz := heap_lt HRES0.out
    have HB1 := Lib.hid (HB0.out.trans (hb.mono HB0.out.size))
    have HRES1 := Lib.hid ((hb.block _ hsz).trans HRES0.out)
    have hq : w.heap.size < w1.heap.size := heap_lt HRES1.out
    have hq2 : w.heap.size ≠ w1.heap.size := by omega
    obtain ⟨v0, v1, g0, g1⟩ := cells_two HRES1.out
    clear hb HB0 HRES0 hsz
    go_wp2_with fail
    go_region
    rw [HA.out, HB.out]
    go_wp2_with fail
    refine bodyPost_ret (v := .tuple #[frV ⟨(A : Int), (B : Int)⟩, .int .i64 0]) (by simp [results, Tryd.results10, go_sem, frV, v0, v1, World.cell?_alloc_past, hq, hq2]) rfl ?_
    rw [HF.out]
    exact ⟨rfl, by have hb := HB1.out; clear HB1; go_grown⟩
  focus
    have t1 : decide (n < 0) = true := by simpa using s1
    have t2 : decide (d < 0) = false := by simpa using s2
    rw [if_neg (by simp [s1, s2])] at HF
    go_enter Tryd.func10, Tryd.ntmps10
    go_wp2_with fail
    generalize w.alloc (.cells #[.int .i64 0, .int .i64 0] 23) = w0 at *
    refine (mag_any _ n HN.out).mono ?_
    rintro e w' ⟨rfl, rfl⟩
    go_wp2_with fail
    refine (mag_any _ d HD.out).mono ?_
    rintro e w' ⟨rfl, rfl⟩
    go_wp2_with fail
    refine (gcd_any _ n.natAbs d.natAbs (by omega) (by omega)).mono ?_
    rintro e w1 ⟨rfl, hb⟩
    rw [HGC.out]
    have hsz := heap_lt HRES0.out
    have HB1 := Lib.hid (HB0.out.trans (hb.mono HB0.out.size))
    have HRES1 := Lib.hid ((hb.block _ hsz).trans HRES0.out)
    have hq : w.heap.size < w1.heap.size := heap_lt HRES1.out
    have hq2 : w.heap.size ≠ w1.heap.size := by omega
    obtain ⟨v0, v1, g0, g1⟩ := cells_two HRES1.out
    clear hb HB0 HRES0 hsz
    go_wp2_with fail
    go_region
    rw [HA.out, HB.out]
    go_wp2_with fail
    refine bodyPost_ret (v := .tuple #[frV ⟨-(A : Int), (B : Int)⟩, .int .i64 0]) (by simp [results, Tryd.results10, go_sem, frV, v0, v1, World.cell?_alloc_past, hq, hq2]) rfl ?_
    rw [HF.out]
    exact ⟨rfl, by have hb := HB1.out; clear HB1; go_grown⟩
  focus
    have t1 : decide (n < 0) = false := by simpa using s1
    have t2 : decide (d < 0) = true := by simpa using s2
    rw [if_neg (by simp [s1, s2])] at HF
    go_enter Tryd.func10, Tryd.ntmps10
    go_wp2_with fail
    generalize w.alloc (.cells #[.int .i64 0, .int .i64 0] 23) = w0 at *
    refine (mag_any _ n HN.out).mono ?_
    rintro e w' ⟨rfl, rfl⟩
    go_wp2_with fail
    refine (mag_any _ d HD.out).mono ?_
    rintro e w' ⟨rfl, rfl⟩
    go_wp2_with fail
    refine (gcd_any _ n.natAbs d.natAbs (by omega) (by omega)).mono ?_
    rintro e w1 ⟨rfl, hb⟩
    rw [HGC.out]
    have hsz := heap_lt HRES0.out
    have HB1 := Lib.hid (HB0.out.trans (hb.mono HB0.out.size))
    have HRES1 := Lib.hid ((hb.block _ hsz).trans HRES0.out)
    have hq : w.heap.size < w1.heap.size := heap_lt HRES1.out
    have hq2 : w.heap.size ≠ w1.heap.size := by omega
    obtain ⟨v0, v1, g0, g1⟩ := cells_two HRES1.out
    clear hb HB0 HRES0 hsz
    go_wp2_with fail
    go_region
    rw [HA.out, HB.out]
    go_wp2_with fail
    refine bodyPost_ret (v := .tuple #[frV ⟨-(A : Int), (B : Int)⟩, .int .i64 0]) (by simp [results, Tryd.results10, go_sem, frV, v0, v1, World.cell?_alloc_past, hq, hq2]) rfl ?_
    rw [HF.out]
    exact ⟨rfl, by have hb := HB1.out; clear HB1; go_grown⟩
  focus
    have t1 : decide (n < 0) = false := by simpa using s1
    have t2 : decide (d < 0) = false := by simpa using s2
    rw [if_pos (by simp [s1, s2])] at HF
    go_enter Tryd.func10, Tryd.ntmps10
    go_wp2_with fail
    generalize w.alloc (.cells #[.int .i64 0, .int .i64 0] 23) = w0 at *
    refine (mag_any _ n HN.out).mono ?_
    rintro e w' ⟨rfl, rfl⟩
    go_wp2_with fail
    refine (mag_any _ d HD.out).mono ?_
    rintro e w' ⟨rfl, rfl⟩
    go_wp2_with fail
    refine (gcd_any _ n.natAbs d.natAbs (by omega) (by omega)).mono ?_
    rintro e w1 ⟨rfl, hb⟩
    rw [HGC.out]
    have hsz := heap_lt HRES0.out
    have HB1 := Lib.hid (HB0.out.trans (hb.mono HB0.out.size))
    have HRES1 := Lib.hid ((hb.block _ hsz).trans HRES0.out)
    have hq : w.heap.size < w1.heap.size := heap_lt HRES1.out
    have hq2 : w.heap.size ≠ w1.heap.size := by omega
    obtain ⟨v0, v1, g0, g1⟩ := cells_two HRES1.out
    clear hb HB0 HRES0 hsz
    go_wp2_with fail
    go_region
    rw [HA.out, HB.out]
    go_wp2_with fail
    refine bodyPost_ret (v := .tuple #[frV ⟨(A : Int), (B : Int)⟩, .int .i64 0]) (by simp [results, Tryd.results10, go_sem, frV, v0, v1, World.cell?_alloc_past, hq, hq2]) rfl ?_
    rw [HF.out]
    exact ⟨rfl, by have hb := HB1.out; clear HB1; go_grown⟩

set_option maxHeartbeats 4000000 in
set_option maxRecDepth 100000 in
theorem rmake_any (w : World) (n d : Int) (hn : I64 n) (hd : I64 d) : Calls Tryd.prog 11 #[.int .i64 n, .int .i64 d] w (OutF w (mkF n d)) := by
  by_cases hd0 : d = 0
  · subst hd0
    rw [mkF_zero]
    go_enter Tryd.func11, Tryd.ntmps11
    go_wp2_with fail
    exact bodyPost_ret (v := .tuple #[frV ⟨0, 0⟩, .int .i64 13]) (by simp [results, Tryd.results11, go_sem, frV]) rfl ⟨rfl, by go_grown⟩
  obtain ⟨g, A, B, hg, hg0, hg1, hA, hB, hA1, hB1, hF⟩ := mkF_parts n d hd0 hn hd
  have hn1 := hn.1
  have hn2 := hn.2
  have hd1 := hd.1
  have hd2 := hd.2
  have HN := Lib.hid hn
  have HB0 := Lib.hid ((Below.refl w.heap.size w).alloc (Nat.le_refl _) (.cells #[.int .i64 0, .int .i64 0] 23))
  have HRES0 := Lib.hid (heap_alloc_new w (.cells #[.int .i64 0, .int .i64 0] 23))
  have HD := Lib.hid hd
  have HF := Lib.hid hF
  have HGC := Lib.hid hg
  have HA := Lib.hid hA
  have HB := Lib.hid hB
  have hdz : (d == 0) = false := beq_eq_false_iff_ne.2 hd0
  have hgz : ((g : Int) == 0) = false := beq_eq_false_iff_ne.2 (by omega)
  clear hn hd hF hg hA hB
  rcases Nat.lt_or_ge most A with hx | hx
  focus
    rw [if_pos (Or.inl hx)] at HF
    unfold most at hx
    have hx' : (1073741824 : Int) < (A : Int) := by omega
    clear hx
    go_enter Tryd.func11, Tryd.ntmps11
    go_wp2_with fail
    generalize w.alloc (.cells #[.int .i64 0, .int .i64 0] 23) = w0 at *
    refine (rmag_any _ n HN.out).mono ?_
    rintro e w' ⟨rfl, rfl⟩
    go_wp2_with fail
    refine (rmag_any _ d HD.out).mono ?_
    rintro e w' ⟨rfl, rfl⟩
    go_wp2_with fail
    refine (rgcd_any _ n.natAbs d.natAbs (by omega) (by omega)).mono ?_
    rintro e w1 ⟨rfl, hb⟩
    rw [HGC.out]
    have hsz := heap_lt HRES0.out
    have HB1 := Lib.hid (HB0.out.trans (hb.mono HB0.out.size))
    have HRES1 := Lib.hid ((hb.block _ hsz).trans HRES0.out)
    have hq : w.heap.size < w1.heap.size := heap_lt HRES1.out
    have hq2 : w.heap.size ≠ w1.heap.size := by omega
    obtain ⟨v0, v1, g0, g1⟩ := cells_two HRES1.out
    clear hb HB0 HRES0 hsz
    go_wp2_with fail
    have hm1 : ∀ k, Calls Tryd.prog 43 #[.int .i64 n] (w1.drewN k) fun e w' => e = .returned (.int .u64 n.natAbs) ∧ w' = w1.drewN k := fun k => (rmag_any (w1.drewN k) n HN.out).mono fun _ _ h => ⟨h.1, h.2.symm⟩
    have hm2 : ∀ k, Calls Tryd.prog 43 #[.int .i64 d] (w1.drewN k) fun e w' => e = .returned (.int .u64 d.natAbs) ∧ w' = w1.drewN k := fun k => (rmag_any (w1.drewN k) d HD.out).mono fun _ _ h => ⟨h.1, h.2.symm⟩
    go_quiet ((go_at_call 43; first | (with_reducible exact Calls.quiet_of_same (hm1 _)) | (with_reducible exact Calls.quiet_of_same (hm2 _))))
    clear hm1 hm2
    replace HB1 := Lib.hid (below_drewN HB1.out nq)
    rw [HA.out, HB.out]
    go_wp2_with fail
    refine bodyPost_ret (v := .tuple #[frV ⟨0, 0⟩, .int .i64 12]) (by simp [results, Tryd.results11, go_sem, frV, v0, v1, World.cell?_alloc_past, hq, hq2]) rfl ?_
    rw [HF.out]
    exact ⟨rfl, by have hb := HB1.out; clear HB1; go_grown⟩
  rcases Nat.lt_or_ge most B with hy | hy
  focus
    rw [if_pos (Or.inr hy)] at HF
    unfold most at hx hy
    have hx' : (A : Int) ≤ (1073741824 : Int) := by omega
    have hy' : (1073741824 : Int) < (B : Int) := by omega
    clear hx hy
    go_enter Tryd.func11, Tryd.ntmps11
    go_wp2_with fail
    generalize w.alloc (.cells #[.int .i64 0, .int .i64 0] 23) = w0 at *
    refine (rmag_any _ n HN.out).mono ?_
    rintro e w' ⟨rfl, rfl⟩
    go_wp2_with fail
    refine (rmag_any _ d HD.out).mono ?_
    rintro e w' ⟨rfl, rfl⟩
    go_wp2_with fail
    refine (rgcd_any _ n.natAbs d.natAbs (by omega) (by omega)).mono ?_
    rintro e w1 ⟨rfl, hb⟩
    rw [HGC.out]
    have hsz := heap_lt HRES0.out
    have HB1 := Lib.hid (HB0.out.trans (hb.mono HB0.out.size))
    have HRES1 := Lib.hid ((hb.block _ hsz).trans HRES0.out)
    have hq : w.heap.size < w1.heap.size := heap_lt HRES1.out
    have hq2 : w.heap.size ≠ w1.heap.size := by omega
    obtain ⟨v0, v1, g0, g1⟩ := cells_two HRES1.out
    clear hb HB0 HRES0 hsz
    go_wp2_with fail
    have hm1 : ∀ k, Calls Tryd.prog 43 #[.int .i64 n] (w1.drewN k) fun e w' => e = .returned (.int .u64 n.natAbs) ∧ w' = w1.drewN k := fun k => (rmag_any (w1.drewN k) n HN.out).mono fun _ _ h => ⟨h.1, h.2.symm⟩
    have hm2 : ∀ k, Calls Tryd.prog 43 #[.int .i64 d] (w1.drewN k) fun e w' => e = .returned (.int .u64 d.natAbs) ∧ w' = w1.drewN k := fun k => (rmag_any (w1.drewN k) d HD.out).mono fun _ _ h => ⟨h.1, h.2.symm⟩
    go_quiet ((go_at_call 43; first | (with_reducible exact Calls.quiet_of_same (hm1 _)) | (with_reducible exact Calls.quiet_of_same (hm2 _))))
    clear hm1 hm2
    replace HB1 := Lib.hid (below_drewN HB1.out nq)
    rw [HA.out, HB.out]
    go_wp2_with fail
    refine bodyPost_ret (v := .tuple #[frV ⟨0, 0⟩, .int .i64 12]) (by simp [results, Tryd.results11, go_sem, frV, v0, v1, World.cell?_alloc_past, hq, hq2]) rfl ?_
    rw [HF.out]
    exact ⟨rfl, by have hb := HB1.out; clear HB1; go_grown⟩
  rw [if_neg (by omega)] at HF
  unfold most at hx hy
  have hx' : (A : Int) ≤ (1073741824 : Int) := by omega
  have hy' : (B : Int) ≤ (1073741824 : Int) := by omega
  clear hx hy
  by_cases s1 : n < 0 <;> by_cases s2 : d < 0
  focus
    have t1 : decide (n < 0) = true := by simpa using s1
    have t2 : decide (d < 0) = true := by simpa using s2
    rw [if_pos (by simp [s1, s2])] at HF
    go_enter Tryd.func11, Tryd.ntmps11
    go_wp2_with fail
    generalize w.alloc (.cells #[.int .i64 0, .int .i64 0] 23) = w0 at *
    refine (rmag_any _ n HN.out).mono ?_
    rintro e w' ⟨rfl, rfl⟩
    go_wp2_with fail
    refine (rmag_any _ d HD.out).mono ?_
    rintro e w' ⟨rfl, rfl⟩
    go_wp2_with fail
    refine (rgcd_any _ n.natAbs d.natAbs (by omega) (by omega)).mono ?_
    rintro e w1 ⟨rfl, hb⟩
    rw [HGC.out]
    have hsz := heap_lt HRES0.out
    have HB1 := Lib.hid (HB0.out.trans (hb.mono HB0.out.size))
    have HRES1 := Lib.hid ((hb.block _ hsz).trans HRES0.out)
    have hq : w.heap.size < w1.heap.size := heap_lt HRES1.out
    have hq2 : w.heap.size ≠ w1.heap.size := by omega
    obtain ⟨v0, v1, g0, g1⟩ := cells_two HRES1.out
    clear hb HB0 HRES0 hsz
    go_wp2_with fail
    have hm1 : ∀ k, Calls Tryd.prog 43 #[.int .i64 n] (w1.drewN k) fun e w' => e = .returned (.int .u64 n.natAbs) ∧ w' = w1.drewN k := fun k => (rmag_any (w1.drewN k) n HN.out).mono fun _ _ h => ⟨h.1, h.2.symm⟩
    have hm2 : ∀ k, Calls Tryd.prog 43 #[.int .i64 d] (w1.drewN k) fun e w' => e = .returned (.int .u64 d.natAbs) ∧ w' = w1.drewN k := fun k => (rmag_any (w1.drewN k) d HD.out).mono fun _ _ h => ⟨h.1, h.2.symm⟩
    go_quiet ((go_at_call 43; first | (with_reducible exact Calls.quiet_of_same (hm1 _)) | (with_reducible exact Calls.quiet_of_same (hm2 _))))
    clear hm1 hm2
    replace HB1 := Lib.hid (below_drewN HB1.out nq)
    rw [HA.out, HB.out]
    go_wp2_with fail
    refine bodyPost_ret (v := .tuple #[frV ⟨(A : Int), (B : Int)⟩, .int .i64 0]) (by simp [results, Tryd.results11, go_sem, frV, v0, v1, World.cell?_alloc_past, hq, hq2]) rfl ?_
    rw [HF.out]
    exact ⟨rfl, by have hb := HB1.out; clear HB1; go_grown⟩
  focus
    have t1 : decide (n < 0) = true := by simpa using s1
    have t2 : decide (d < 0) = false := by simpa using s2
    rw [if_neg (by simp [s1, s2])] at HF
    go_enter Tryd.func11, Tryd.ntmps11
    go_wp2_with fail
    generalize w.alloc (.cells #[.int .i64 0, .int .i64 0] 23) = w0 at *
    refine (rmag_any _ n HN.out).mono ?_
    rintro e w' ⟨rfl, rfl⟩
    go_wp2_with fail
    refine (rmag_any _ d HD.out).mono ?_
    rintro e w' ⟨rfl, rfl⟩
    go_wp2_with fail
    refine (rgcd_any _ n.natAbs d.natAbs (by omega) (by omega)).mono ?_
    rintro e w1 ⟨rfl, hb⟩
    rw [HGC.out]
    have hsz := heap_lt HRES0.out
    have HB1 := Lib.hid (HB0.out.trans (hb.mono HB0.out.size))
    have HRES1 := Lib.hid ((hb.block _ hsz).trans HRES0.out)
    have hq : w.heap.size < w1.heap.size := heap_lt HRES1.out
    have hq2 : w.heap.size ≠ w1.heap.size := by omega
    obtain ⟨v0, v1, g0, g1⟩ := cells_two HRES1.out
    clear hb HB0 HRES0 hsz
    go_wp2_with fail
    have hm1 : ∀ k, Calls Tryd.prog 43 #[.int .i64 n] (w1.drewN k) fun e w' => e = .returned (.int .u64 n.natAbs) ∧ w' = w1.drewN k := fun k => (rmag_any (w1.drewN k) n HN.out).mono fun _ _ h => ⟨h.1, h.2.symm⟩
    have hm2 : ∀ k, Calls Tryd.prog 43 #[.int .i64 d] (w1.drewN k) fun e w' => e = .returned (.int .u64 d.natAbs) ∧ w' = w1.drewN k := fun k => (rmag_any (w1.drewN k) d HD.out).mono fun _ _ h => ⟨h.1, h.2.symm⟩
    go_quiet ((go_at_call 43; first | (with_reducible exact Calls.quiet_of_same (hm1 _)) | (with_reducible exact Calls.quiet_of_same (hm2 _))))
    clear hm1 hm2
    replace HB1 := Lib.hid (below_drewN HB1.out nq)
    rw [HA.out, HB.out]
    go_wp2_with fail
    refine bodyPost_ret (v := .tuple #[frV ⟨-(A : Int), (B : Int)⟩, .int .i64 0]) (by simp [results, Tryd.results11, go_sem, frV, v0, v1, World.cell?_alloc_past, hq, hq2]) rfl ?_
    rw [HF.out]
    exact ⟨rfl, by have hb := HB1.out; clear HB1; go_grown⟩
  focus
    have t1 : decide (n < 0) = false := by simpa using s1
    have t2 : decide (d < 0) = true := by simpa using s2
    rw [if_neg (by simp [s1, s2])] at HF
    go_enter Tryd.func11, Tryd.ntmps11
    go_wp2_with fail
    generalize w.alloc (.cells #[.int .i64 0, .int .i64 0] 23) = w0 at *
    refine (rmag_any _ n HN.out).mono ?_
    rintro e w' ⟨rfl, rfl⟩
    go_wp2_with fail
    refine (rmag_any _ d HD.out).mono ?_
    rintro e w' ⟨rfl, rfl⟩
    go_wp2_with fail
    refine (rgcd_any _ n.natAbs d.natAbs (by omega) (by omega)).mono ?_
    rintro e w1 ⟨rfl, hb⟩
    rw [HGC.out]
    have hsz := heap_lt HRES0.out
    have HB1 := Lib.hid (HB0.out.trans (hb.mono HB0.out.size))
    have HRES1 := Lib.hid ((hb.block _ hsz).trans HRES0.out)
    have hq : w.heap.size < w1.heap.size := heap_lt HRES1.out
    have hq2 : w.heap.size ≠ w1.heap.size := by omega
    obtain ⟨v0, v1, g0, g1⟩ := cells_two HRES1.out
    clear hb HB0 HRES0 hsz
    go_wp2_with fail
    have hm1 : ∀ k, Calls Tryd.prog 43 #[.int .i64 n] (w1.drewN k) fun e w' => e = .returned (.int .u64 n.natAbs) ∧ w' = w1.drewN k := fun k => (rmag_any (w1.drewN k) n HN.out).mono fun _ _ h => ⟨h.1, h.2.symm⟩
    have hm2 : ∀ k, Calls Tryd.prog 43 #[.int .i64 d] (w1.drewN k) fun e w' => e = .returned (.int .u64 d.natAbs) ∧ w' = w1.drewN k := fun k => (rmag_any (w1.drewN k) d HD.out).mono fun _ _ h => ⟨h.1, h.2.symm⟩
    go_quiet ((go_at_call 43; first | (with_reducible exact Calls.quiet_of_same (hm1 _)) | (with_reducible exact Calls.quiet_of_same (hm2 _))))
    clear hm1 hm2
    replace HB1 := Lib.hid (below_drewN HB1.out nq)
    rw [HA.out, HB.out]
    go_wp2_with fail
    refine bodyPost_ret (v := .tuple #[frV ⟨-(A : Int), (B : Int)⟩, .int .i64 0]) (by simp [results, Tryd.results11, go_sem, frV, v0, v1, World.cell?_alloc_past, hq, hq2]) rfl ?_
    rw [HF.out]
    exact ⟨rfl, by have hb := HB1.out; clear HB1; go_grown⟩
  focus
    have t1 : decide (n < 0) = false := by simpa using s1
    have t2 : decide (d < 0) = false := by simpa using s2
    rw [if_pos (by simp [s1, s2])] at HF
    go_enter Tryd.func11, Tryd.ntmps11
    go_wp2_with fail
    generalize w.alloc (.cells #[.int .i64 0, .int .i64 0] 23) = w0 at *
    refine (rmag_any _ n HN.out).mono ?_
    rintro e w' ⟨rfl, rfl⟩
    go_wp2_with fail
    refine (rmag_any _ d HD.out).mono ?_
    rintro e w' ⟨rfl, rfl⟩
    go_wp2_with fail
    refine (rgcd_any _ n.natAbs d.natAbs (by omega) (by omega)).mono ?_
    rintro e w1 ⟨rfl, hb⟩
    rw [HGC.out]
    have hsz := heap_lt HRES0.out
    have HB1 := Lib.hid (HB0.out.trans (hb.mono HB0.out.size))
    have HRES1 := Lib.hid ((hb.block _ hsz).trans HRES0.out)
    have hq : w.heap.size < w1.heap.size := heap_lt HRES1.out
    have hq2 : w.heap.size ≠ w1.heap.size := by omega
    obtain ⟨v0, v1, g0, g1⟩ := cells_two HRES1.out
    clear hb HB0 HRES0 hsz
    go_wp2_with fail
    have hm1 : ∀ k, Calls Tryd.prog 43 #[.int .i64 n] (w1.drewN k) fun e w' => e = .returned (.int .u64 n.natAbs) ∧ w' = w1.drewN k := fun k => (rmag_any (w1.drewN k) n HN.out).mono fun _ _ h => ⟨h.1, h.2.symm⟩
    have hm2 : ∀ k, Calls Tryd.prog 43 #[.int .i64 d] (w1.drewN k) fun e w' => e = .returned (.int .u64 d.natAbs) ∧ w' = w1.drewN k := fun k => (rmag_any (w1.drewN k) d HD.out).mono fun _ _ h => ⟨h.1, h.2.symm⟩
    go_quiet ((go_at_call 43; first | (with_reducible exact Calls.quiet_of_same (hm1 _)) | (with_reducible exact Calls.quiet_of_same (hm2 _))))
    clear hm1 hm2
    replace HB1 := Lib.hid (below_drewN HB1.out nq)
    rw [HA.out, HB.out]
    go_wp2_with fail
    refine bodyPost_ret (v := .tuple #[frV ⟨(A : Int), (B : Int)⟩, .int .i64 0]) (by simp [results, Tryd.results11, go_sem, frV, v0, v1, World.cell?_alloc_past, hq, hq2]) rfl ?_
    rw [HF.out]
    exact ⟨rfl, by have hb := HB1.out; clear HB1; go_grown⟩
end Go.Proofs.YtjobncfjebkcdaaDoor
