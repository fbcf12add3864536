/- The walk of the reference's Get. -/
import Derived.Test.YtggffmbhpgioaaaDoorZo
namespace Go.Proofs.YtggffmbhpgioaaaDoor
open Go Go.RowKit Go.Shelf
set_option linter.unusedSimpArgs false

/-- the reference's answer -/
def rgetF (D R : List En) (k : Nat) (key : ByteArray) (n : Int) : Option Bd :=
  let x := D.getD k en0
  let y := R.getD k en0
  if x.u && pfit key n x then some x.b else if y.u && pfit key n y then some y.b else none
def RGetP (w : World) (A B : Option Addr) (n ca cb : Nat) (f m : Int) (r : Option Bd) (e : Ending) (w' : World) : Prop :=
  e = .returned (.tuple #[.agg #[.slice A n ca, .slice B n cb, .int .i64 (if r.isSome then f + 1 else f), .int .i64 (if r.isSome then m else m + 1)], bdV (r.getD bd0), .bool r.isSome]) ∧ Below w.heap.size w w'
theorem rget_cases (D R : List En) (k : Nat) (key : ByteArray) (n : Int) (x y : En) (hx : D[k]? = some x) (hy : R[k]? = some y) :
    ((x.u && pfit key n x) = true ∧ rgetF D R k key n = some x.b) ∨ ((x.u && pfit key n x) = false ∧ (y.u && pfit key n y) = true ∧ rgetF D R k key n = some y.b) ∨ ((x.u && pfit key n x) = false ∧ (y.u && pfit key n y) = false ∧ rgetF D R k key n = none) := by
  have e1 : D.getD k en0 = x := by rw [List.getD_eq_getElem?_getD, hx]; rfl
  have e2 : R.getD k en0 = y := by rw [List.getD_eq_getElem?_getD, hy]; rfl
  unfold rgetF
  rw [e1, e2]
  simp only
  cases (x.u && pfit key n x) <;> cases (y.u && pfit key n y) <;> simp

/-- four values stored into a block of their own -/
def storeT (w : World) (b : Nat) (u0 u1 u2 u3 : Value) : World := (((w.setCell ⟨b, 0, none⟩ u0).setCell ⟨b, 1, none⟩ u1).setCell ⟨b, 2, none⟩ u2).setCell ⟨b, 3, none⟩ u3
theorem storeT_blk {w : World} {b : Nat} {v0 v1 v2 v3 : Value} {t : TypeId} (h : w.heap[b]? = some (.cells #[v0, v1, v2, v3] t (0, 0))) (u0 u1 u2 u3 : Value) : (storeT w b u0 u1 u2 u3).heap[b]? = some (.cells #[u0, u1, u2, u3] t (0, 0)) := by
  have h1 := heap_set_blk (i := 0) h u0
  have h2 := heap_set_blk (i := 1) h1 u1
  have h3 := heap_set_blk (i := 2) h2 u2
  have h4 := heap_set_blk (i := 3) h3 u3
  unfold storeT
  rw [h4]
  simp
theorem grown_storeT (w : World) (b : Nat) (u0 u1 u2 u3 : Value) : w.grownBy (storeT w b u0 u1 u2 u3) (some b) := by
  unfold storeT
  exact grown_trans (grown_trans (grown_trans (grown_set w b 0 u0) (grown_set _ b 1 u1)) (grown_set _ b 2 u2)) (grown_set _ b 3 u3)
theorem rget_end {w w4 : World} {v0 v1 v2 v3 x0 x1 x2 x3 : Value} {t t' : TypeId} (HB4 : Below w.heap.size w w4) (S4 : w4.heap[w.heap.size + 1]? = some (.cells #[v0, v1, v2, v3] t (0, 0))) (R4 : w4.heap[w.heap.size + 1 + 1]? = some (.cells #[x0, x1, x2, x3] t' (0, 0))) (u0 u1 u2 u3 : Value) (z : Bd) :
    (storeB (storeT w4 (w.heap.size + 1) u0 u1 u2 u3) (w.heap.size + 1 + 1) z).drew.heap[w.heap.size + 1]? = some (.cells #[u0, u1, u2, u3] t (0, 0)) ∧
    (storeB (storeT w4 (w.heap.size + 1) u0 u1 u2 u3) (w.heap.size + 1 + 1) z).drew.heap[w.heap.size + 1 + 1]? = some (.cells #[.int .i64 z.a, .int .i64 z.b, .int .i64 z.c, .int .i64 z.e] t' (0, 0)) ∧
    Below w.heap.size w (storeB (storeT w4 (w.heap.size + 1) u0 u1 u2 u3) (w.heap.size + 1 + 1) z).drew := by
  have l1 := (Array.getElem?_eq_some_iff.1 S4).1
  have l2 := (Array.getElem?_eq_some_iff.1 R4).1
  have g1 := grown_storeT w4 (w.heap.size + 1) u0 u1 u2 u3
  have g2 := grown_storeB (storeT w4 (w.heap.size + 1) u0 u1 u2 u3) (w.heap.size + 1 + 1) z
  have hA := (g2.block _ (Nat.lt_of_lt_of_le l1 g1.size) (by simp)).trans (storeT_blk S4 u0 u1 u2 u3)
  have hR := (g1.block _ l2 (by simp)).trans R4
  have hB := storeB_blk hR z
  have h1 := HB4.grown g1 HB4.size (by simp)
  have hC := (h1.grown g2 h1.size (by simp; omega)).drew
  generalize storeB (storeT w4 (w.heap.size + 1) u0 u1 u2 u3) (w.heap.size + 1 + 1) z = wf at *
  exact ⟨hA, hB, hC⟩

set_option maxHeartbeats 4000000 in
set_option maxRecDepth 100000 in
theorem rget_any (w : World) (P : Nat → Prop) (A B : Option Addr) (D R : List En) (ca cb : Nat) (f m : Int) (n0 : 0 < D.length) (h1 : D.length ≤ 4096) (hl : R.length = D.length) (ha : EnS w P A D) (hb : EnS w P B R)
    (key : ByteArray) (hks : key.size ≤ 9223372036854775807) (d : Int) (f0 : 0 ≤ f) (f1 : f ≤ 100000) (m0 : 0 ≤ m) (m1 : m ≤ 100000) :
    Calls Tryd.prog 23 #[.agg #[.slice A D.length ca, .slice B D.length cb, .int .i64 f, .int .i64 m], .string key, .int .i64 d] w (RGetP w A B D.length ca cb f m (rgetF D R (slotI key D.length) key d)) := by
  have hkn : slotI key D.length < D.length := Nat.mod_lt _ n0
  have HA := Lib.hid ha
  have HB := Lib.hid hb
  have CS := Lib.hid (fun (w : World) => rslot_any w A B D.length ca D.length cb f m n0 h1 key hks)
  generalize slotI key D.length = k at *
  obtain ⟨x, hx⟩ : ∃ x, D[k]? = some x := ⟨_, List.getElem?_eq_getElem (by omega)⟩
  obtain ⟨y, hy⟩ : ∃ y, R[k]? = some y := ⟨_, List.getElem?_eq_getElem (by omega)⟩
  have HX := Lib.hid hx
  have HY := Lib.hid hy
  have HG := Lib.hid (rget_cases D R k key d x y hx hy)
  clear hx hy ha hb hks hl
  go_enter Tryd.func23, Tryd.ntmps23
  go_wp2_with fail
  have HW1 := Lib.hid (three_new w (.cells #[.slice A D.length ca, .slice B D.length cb, .int .i64 f, .int .i64 m] 46) (.cells #[.slice none 0 0, .slice none 0 0, .int .i64 0, .int .i64 0] 46) (.cells #[.int .i64 0, .int .i64 0, .int .i64 0, .int .i64 0] 37))
  generalize ((w.alloc (.cells #[.slice A D.length ca, .slice B D.length cb, .int .i64 f, .int .i64 m] 46)).alloc (.cells #[.slice none 0 0, .slice none 0 0, .int .i64 0, .int .i64 0] 46)).alloc (.cells #[.int .i64 0, .int .i64 0, .int .i64 0, .int .i64 0] 37) = w1 at *
  refine (CS.out _).mono ?_
  rintro e2 w2 ⟨rfl, hb⟩
  have HB2 := Lib.hid (HW1.out.1.trans (hb.mono HW1.out.1.size))
  have T2 := Lib.hid ((hb.block _ (Array.getElem?_eq_some_iff.1 HW1.out.2.1).1).trans HW1.out.2.1)
  have S2 := Lib.hid ((hb.block _ (Array.getElem?_eq_some_iff.1 HW1.out.2.2.1).1).trans HW1.out.2.2.1)
  have R2 := Lib.hid ((hb.block _ (Array.getElem?_eq_some_iff.1 HW1.out.2.2.2).1).trans HW1.out.2.2.2)
  clear hb HW1 CS
  have c0 := cell_blk T2.out 0
  obtain ⟨ba, oa, rfl, hlt, -⟩ := HA.out.at HX.out
  obtain ⟨a0, a1, a2, a3, a4, a5, a6⟩ := (HA.out.below HB2.out).one HX.out
  have hne1 : ba ≠ w.heap.size + 1 := by omega
  have hne2 : ba ≠ w.heap.size + 1 + 1 := by omega
  clear hlt
  go_wp2_with fail
  refine (rfits_any w2 x key d).mono ?_
  rintro e2 w3 ⟨rfl, hb⟩
  have HB3 := Lib.hid (HB2.out.trans (hb.mono HB2.out.size))
  have T3 := Lib.hid ((hb.block _ (Array.getElem?_eq_some_iff.1 T2.out).1).trans T2.out)
  have S3 := Lib.hid ((hb.block _ (Array.getElem?_eq_some_iff.1 S2.out).1).trans S2.out)
  have R3 := Lib.hid ((hb.block _ (Array.getElem?_eq_some_iff.1 R2.out).1).trans R2.out)
  clear hb HB2 T2 S2 R2 c0 a0 a1 a2 a3 a4 a5 a6
  rcases HG.out with ⟨hx, hg⟩ | ⟨hx, hy, hg⟩ | ⟨hx, hy, hg⟩
  · rw [hx]
    have HGF := Lib.hid hg
    clear hx hg
    have c2 := cell_blk T3.out 2
    have fr2 := free_blk T3.out 2
    go_wp2_with fail
    have T4 := Lib.hid (heap_set_blk (i := 2) T3.out (.int .i64 (f + 1)))
    have S4 := Lib.hid ((Below.heap_setCell w3 ⟨w.heap.size, 2, none⟩ (.int .i64 (f + 1)) (w.heap.size + 1) (by simp)).trans S3.out)
    have R4 := Lib.hid ((Below.heap_setCell w3 ⟨w.heap.size, 2, none⟩ (.int .i64 (f + 1)) (w.heap.size + 1 + 1) (by simp; omega)).trans R3.out)
    have HB4 := Lib.hid (HB3.out.setCell (p := ⟨w.heap.size, 2, none⟩) (Nat.le_refl _) (.int .i64 (f + 1)))
    clear T3 S3 R3 HB3 c2 fr2
    generalize w3.setCell ⟨w.heap.size, 2, none⟩ (.int .i64 (f + 1)) = w4 at *
    obtain ⟨-, -, -, b0, b1, b2, b3⟩ := (HA.out.below HB4.out).one HX.out
    have b1' : w4.cell? ⟨ba, oa + k * 7 + 3 + 1, none⟩ = some (.int .i64 x.b.b) := b1
    have b2' : w4.cell? ⟨ba, oa + k * 7 + 3 + 2, none⟩ = some (.int .i64 x.b.c) := b2
    have b3' : w4.cell? ⟨ba, oa + k * 7 + 3 + 3, none⟩ = some (.int .i64 x.b.e) := b3
    clear b1 b2 b3
    have c0 := cell_blk T4.out 0
    have c1 := cell_blk T4.out 1
    have c2 := cell_blk T4.out 2
    have c3 := cell_blk T4.out 3
    have s0 := cell_blk S4.out 0
    have s1 := cell_blk S4.out 1
    have s2 := cell_blk S4.out 2
    have s3 := cell_blk S4.out 3
    have r0 := cell_blk R4.out 0
    have r1 := cell_blk R4.out 1
    have r2 := cell_blk R4.out 2
    have r3 := cell_blk R4.out 3
    have fs : ∀ o, w4.frozen? ⟨w.heap.size + 1, o, none⟩ = false := fun o => free_blk S4.out o
    have fr : ∀ o, w4.frozen? ⟨w.heap.size + 1 + 1, o, none⟩ = false := fun o => free_blk R4.out o
    have HE := Lib.hid (rget_end HB4.out S4.out R4.out (.slice (some ⟨ba, oa, none⟩) D.length ca) (.slice B D.length cb) (.int .i64 (f + 1)) (.int .i64 m) x.b)
    unfold storeB storeT at HE
    skip
    go_region
    clear c0 c1 c2 c3 s0 s1 s2 s3 r0 r1 r2 r3 fs fr b0 b1' b2' b3' T4 S4 R4
    go_wp2_with fail
    generalize ((((((((w4.setCell ⟨w.heap.size + 1, 0, none⟩ (.slice (some ⟨ba, oa, none⟩) D.length ca)).setCell ⟨w.heap.size + 1, 1, none⟩ (.slice B D.length cb)).setCell ⟨w.heap.size + 1, 2, none⟩ (.int .i64 (f + 1))).setCell ⟨w.heap.size + 1, 3, none⟩ (.int .i64 m)).setCell ⟨w.heap.size + 1 + 1, 0, none⟩ (.int .i64 x.b.a)).setCell ⟨w.heap.size + 1 + 1, 1, none⟩ (.int .i64 x.b.b)).setCell ⟨w.heap.size + 1 + 1, 2, none⟩ (.int .i64 x.b.c)).setCell ⟨w.heap.size + 1 + 1, 3, none⟩ (.int .i64 x.b.e)).drew = w6 at *
    have j0 := cell_blk HE.out.1 0
    have j1 := cell_blk HE.out.1 1
    have j2 := cell_blk HE.out.1 2
    have j3 := cell_blk HE.out.1 3
    have k0 := cell_blk HE.out.2.1 0
    have k1 := cell_blk HE.out.2.1 1
    have k2 := cell_blk HE.out.2.1 2
    have k3 := cell_blk HE.out.2.1 3
    refine bodyPost_ret (v := .tuple #[.agg #[.slice (some ⟨ba, oa, none⟩) D.length ca, .slice B D.length cb, .int .i64 (f + 1), .int .i64 m], bdV x.b, .bool true]) (by simp [results, Tryd.results23, go_sem, bdV, j0, j1, j2, j3, k0, k1, k2, k3]) rfl ?_
    rw [HGF.out]
    exact ⟨rfl, HE.out.2.2⟩
  · rw [hx]
    have HGF := Lib.hid hg
    have c1 := cell_blk T3.out 1
    obtain ⟨bb, ob, rfl, hlt, -⟩ := HB.out.at HY.out
    obtain ⟨a0, a1, a2, a3, a4, a5, a6⟩ := (HB.out.below HB3.out).one HY.out
    have hne3 : bb ≠ w.heap.size + 1 := by omega
    have hne4 : bb ≠ w.heap.size + 1 + 1 := by omega
    have HYV := Lib.hid hy
    clear hlt hx hg hy
    go_wp2_with fail
    refine (rfits_any w3 y key d).mono ?_
    rw [HYV.out]
    rintro e2 w5 ⟨rfl, hb⟩
    replace HB3 := Lib.hid (HB3.out.trans (hb.mono HB3.out.size))
    replace T3 := Lib.hid ((hb.block _ (Array.getElem?_eq_some_iff.1 T3.out).1).trans T3.out)
    replace S3 := Lib.hid ((hb.block _ (Array.getElem?_eq_some_iff.1 S3.out).1).trans S3.out)
    replace R3 := Lib.hid ((hb.block _ (Array.getElem?_eq_some_iff.1 R3.out).1).trans R3.out)
    clear hb c1 a0 a1 a2 a3 a4 a5 a6
    have c2 := cell_blk T3.out 2
    have fr2 := free_blk T3.out 2
    go_wp2_with fail
    have T4 := Lib.hid (heap_set_blk (i := 2) T3.out (.int .i64 (f + 1)))
    have S4 := Lib.hid ((Below.heap_setCell w5 ⟨w.heap.size, 2, none⟩ (.int .i64 (f + 1)) (w.heap.size + 1) (by simp)).trans S3.out)
    have R4 := Lib.hid ((Below.heap_setCell w5 ⟨w.heap.size, 2, none⟩ (.int .i64 (f + 1)) (w.heap.size + 1 + 1) (by simp; omega)).trans R3.out)
    have HB4 := Lib.hid (HB3.out.setCell (p := ⟨w.heap.size, 2, none⟩) (Nat.le_refl _) (.int .i64 (f + 1)))
    clear T3 S3 R3 HB3 c2 fr2
    generalize w5.setCell ⟨w.heap.size, 2, none⟩ (.int .i64 (f + 1)) = w4 at *
    obtain ⟨-, -, -, b0, b1, b2, b3⟩ := (HB.out.below HB4.out).one HY.out
    have b1' : w4.cell? ⟨bb, ob + k * 7 + 3 + 1, none⟩ = some (.int .i64 y.b.b) := b1
    have b2' : w4.cell? ⟨bb, ob + k * 7 + 3 + 2, none⟩ = some (.int .i64 y.b.c) := b2
    have b3' : w4.cell? ⟨bb, ob + k * 7 + 3 + 3, none⟩ = some (.int .i64 y.b.e) := b3
    clear b1 b2 b3
    have c0 := cell_blk T4.out 0
    have c1 := cell_blk T4.out 1
    have c2 := cell_blk T4.out 2
    have c3 := cell_blk T4.out 3
    have s0 := cell_blk S4.out 0
    have s1 := cell_blk S4.out 1
    have s2 := cell_blk S4.out 2
    have s3 := cell_blk S4.out 3
    have r0 := cell_blk R4.out 0
    have r1 := cell_blk R4.out 1
    have r2 := cell_blk R4.out 2
    have r3 := cell_blk R4.out 3
    have fs : ∀ o, w4.frozen? ⟨w.heap.size + 1, o, none⟩ = false := fun o => free_blk S4.out o
    have fr : ∀ o, w4.frozen? ⟨w.heap.size + 1 + 1, o, none⟩ = false := fun o => free_blk R4.out o
    have HE := Lib.hid (rget_end HB4.out S4.out R4.out (.slice (some ⟨ba, oa, none⟩) D.length ca) (.slice (some ⟨bb, ob, none⟩) D.length cb) (.int .i64 (f + 1)) (.int .i64 m) y.b)
    unfold storeB storeT at HE
    skip
    go_region
    clear c0 c1 c2 c3 s0 s1 s2 s3 r0 r1 r2 r3 fs fr b0 b1' b2' b3' T4 S4 R4
    go_wp2_with fail
    generalize ((((((((w4.setCell ⟨w.heap.size + 1, 0, none⟩ (.slice (some ⟨ba, oa, none⟩) D.length ca)).setCell ⟨w.heap.size + 1, 1, none⟩ (.slice (some ⟨bb, ob, none⟩) D.length cb)).setCell ⟨w.heap.size + 1, 2, none⟩ (.int .i64 (f + 1))).setCell ⟨w.heap.size + 1, 3, none⟩ (.int .i64 m)).setCell ⟨w.heap.size + 1 + 1, 0, none⟩ (.int .i64 y.b.a)).setCell ⟨w.heap.size + 1 + 1, 1, none⟩ (.int .i64 y.b.b)).setCell ⟨w.heap.size + 1 + 1, 2, none⟩ (.int .i64 y.b.c)).setCell ⟨w.heap.size + 1 + 1, 3, none⟩ (.int .i64 y.b.e)).drew = w6 at *
    have j0 := cell_blk HE.out.1 0
    have j1 := cell_blk HE.out.1 1
    have j2 := cell_blk HE.out.1 2
    have j3 := cell_blk HE.out.1 3
    have k0 := cell_blk HE.out.2.1 0
    have k1 := cell_blk HE.out.2.1 1
    have k2 := cell_blk HE.out.2.1 2
    have k3 := cell_blk HE.out.2.1 3
    refine bodyPost_ret (v := .tuple #[.agg #[.slice (some ⟨ba, oa, none⟩) D.length ca, .slice (some ⟨bb, ob, none⟩) D.length cb, .int .i64 (f + 1), .int .i64 m], bdV y.b, .bool true]) (by simp [results, Tryd.results23, go_sem, bdV, j0, j1, j2, j3, k0, k1, k2, k3]) rfl ?_
    rw [HGF.out]
    exact ⟨rfl, HE.out.2.2⟩
  · rw [hx]
    have HGF := Lib.hid hg
    have c1 := cell_blk T3.out 1
    obtain ⟨bb, ob, rfl, hlt, -⟩ := HB.out.at HY.out
    obtain ⟨a0, a1, a2, a3, a4, a5, a6⟩ := (HB.out.below HB3.out).one HY.out
    have hne3 : bb ≠ w.heap.size + 1 := by omega
    have hne4 : bb ≠ w.heap.size + 1 + 1 := by omega
    have HYV := Lib.hid hy
    clear hlt hx hg hy
    go_wp2_with fail
    refine (rfits_any w3 y key d).mono ?_
    rw [HYV.out]
    rintro e2 w5 ⟨rfl, hb⟩
    replace HB3 := Lib.hid (HB3.out.trans (hb.mono HB3.out.size))
    replace T3 := Lib.hid ((hb.block _ (Array.getElem?_eq_some_iff.1 T3.out).1).trans T3.out)
    replace S3 := Lib.hid ((hb.block _ (Array.getElem?_eq_some_iff.1 S3.out).1).trans S3.out)
    replace R3 := Lib.hid ((hb.block _ (Array.getElem?_eq_some_iff.1 R3.out).1).trans R3.out)
    clear hb c1 a0 a1 a2 a3 a4 a5 a6
    have c2 := cell_blk T3.out 3
    have fr2 := free_blk T3.out 3
    have s0 := cell_blk S3.out 0
    have s1 := cell_blk S3.out 1
    have s2 := cell_blk S3.out 2
    have s3 := cell_blk S3.out 3
    have r0 := cell_blk R3.out 0
    have r1 := cell_blk R3.out 1
    have r2 := cell_blk R3.out 2
    have r3 := cell_blk R3.out 3
    have fs : ∀ o, w5.frozen? ⟨w.heap.size + 1, o, none⟩ = false := fun o => free_blk S3.out o
    have fr : ∀ o, w5.frozen? ⟨w.heap.size + 1 + 1, o, none⟩ = false := fun o => free_blk R3.out o
    have t0 := cell_blk T3.out 0
    have t1 := cell_blk T3.out 1
    have t2 := cell_blk T3.out 2
    go_wp2_with fail
    have S4 := Lib.hid ((Below.heap_setCell w5 ⟨w.heap.size, 3, none⟩ (.int .i64 (m + 1)) (w.heap.size + 1) (by simp)).trans S3.out)
    have R4 := Lib.hid ((Below.heap_setCell w5 ⟨w.heap.size, 3, none⟩ (.int .i64 (m + 1)) (w.heap.size + 1 + 1) (by simp; omega)).trans R3.out)
    have HB4 := Lib.hid (HB3.out.setCell (p := ⟨w.heap.size, 3, none⟩) (Nat.le_refl _) (.int .i64 (m + 1)))
    have HE := Lib.hid (rget_end HB4.out S4.out R4.out (.slice (some ⟨ba, oa, none⟩) D.length ca) (.slice (some ⟨bb, ob, none⟩) D.length cb) (.int .i64 f) (.int .i64 (m + 1)) bd0)
    unfold storeB storeT bd0 at HE
    simp only at HE
    clear S4 R4 HB4 s0 s1 s2 s3 r0 r1 r2 r3 fs fr t0 t1 t2 c2 fr2
    generalize hw6 : ((((((((w5.setCell ⟨w.heap.size, 3, none⟩ (.int .i64 (m + 1))).setCell ⟨w.heap.size + 1, 0, none⟩ (.slice (some ⟨ba, oa, none⟩) D.length ca)).setCell ⟨w.heap.size + 1, 1, none⟩ (.slice (some ⟨bb, ob, none⟩) D.length cb)).setCell ⟨w.heap.size + 1, 2, none⟩ (.int .i64 f)).setCell ⟨w.heap.size + 1, 3, none⟩ (.int .i64 (m + 1))).setCell ⟨w.heap.size + 1 + 1, 0, none⟩ (.int .i64 0)).setCell ⟨w.heap.size + 1 + 1, 1, none⟩ (.int .i64 0)).setCell ⟨w.heap.size + 1 + 1, 2, none⟩ (.int .i64 0)).setCell ⟨w.heap.size + 1 + 1, 3, none⟩ (.int .i64 0) = w6 at *
    have j0 := cell_blk (w := w6.drew) HE.out.1 0
    have j1 := cell_blk (w := w6.drew) HE.out.1 1
    have j2 := cell_blk (w := w6.drew) HE.out.1 2
    have j3 := cell_blk (w := w6.drew) HE.out.1 3
    have k0 := cell_blk (w := w6.drew) HE.out.2.1 0
    have k1 := cell_blk (w := w6.drew) HE.out.2.1 1
    have k2 := cell_blk (w := w6.drew) HE.out.2.1 2
    have k3 := cell_blk (w := w6.drew) HE.out.2.1 3
    have hb6 : Below w.heap.size w w6 := by
      have h := HE.out.2.2
      exact ⟨h.os, h.tape, h.output, h.size, h.block⟩
    simp only [World.cell?_drew] at j0 j1 j2 j3 k0 k1 k2 k3
    refine bodyPost_ret (v := .tuple #[.agg #[.slice (some ⟨ba, oa, none⟩) D.length ca, .slice (some ⟨bb, ob, none⟩) D.length cb, .int .i64 f, .int .i64 (m + 1)], bdV bd0, .bool false]) (by simp [results, Tryd.results23, go_sem, bdV, bd0, j0, j1, j2, j3, k0, k1, k2, k3]) rfl ?_
    rw [HGF.out]
    exact ⟨rfl, hb6⟩
end Go.Proofs.YtggffmbhpgioaaaDoor
