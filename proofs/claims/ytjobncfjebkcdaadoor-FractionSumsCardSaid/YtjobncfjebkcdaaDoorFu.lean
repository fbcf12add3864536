/- The walk of the law FractionSums. -/
import Derived.Test.YtjobncfjebkcdaaDoorFn
import Derived.Test.YtjobncfjebkcdaaDoorFc
import Derived.Deep.DeepCutAuto
namespace Go.Proofs.YtjobncfjebkcdaaDoor
open Go Go.RowKit
set_option linter.unusedSimpArgs false

structure LS (w y : World) (qa qb q5 : Nat) (lo hi m : Fr) : Prop where
  below : Below w.heap.size w y
  ba : y.heap[qa]? = some (boxF lo)
  bb : y.heap[qb]? = some (boxF hi)
  b5 : y.heap[q5]? = some (boxF m)
  oa : w.heap.size ≤ qa
  ob : w.heap.size ≤ qb
  nab : qa ≠ qb
  na5 : qa ≠ q5
  nb5 : qb ≠ q5
theorem LS.keep {w y y' : World} {qa qb q5 : Nat} {lo hi m : Fr} (h : LS w y qa qb q5 lo hi m) (hb : Below y.heap.size y y') : LS w y' qa qb q5 lo hi m :=
  ⟨h.below.trans (hb.mono h.below.size), (hb.block _ (heap_lt h.ba)).trans h.ba, (hb.block _ (heap_lt h.bb)).trans h.bb, (hb.block _ (heap_lt h.b5)).trans h.b5, h.oa, h.ob, h.nab, h.na5, h.nb5⟩
theorem LS.put {w y : World} {qa qb q5 : Nat} {lo hi m : Fr} (h : LS w y qa qb q5 lo hi m) (a b c d : Int) :
    LS w ((((y.setCell ⟨qa, 0, none⟩ (.int .i64 a)).setCell ⟨qa, 1, none⟩ (.int .i64 b)).setCell ⟨qb, 0, none⟩ (.int .i64 c)).setCell ⟨qb, 1, none⟩ (.int .i64 d)) qa qb q5 ⟨a, b⟩ ⟨c, d⟩ m := by
  refine ⟨(((h.below.setCell h.oa _).setCell h.oa _).setCell h.ob _).setCell h.ob _, ?_, ?_, ?_, h.oa, h.ob, h.nab, h.na5, h.nb5⟩
  · exact box_far (box_far (box_set1 (box_set0 h.ba a) b) h.nab _) h.nab _
  · exact box_set1 (box_set0 (box_far (box_far h.bb (Ne.symm h.nab) _) (Ne.symm h.nab) _) c) d
  · exact box_far (box_far (box_far (box_far h.b5 (Ne.symm h.na5) _) (Ne.symm h.na5) _) (Ne.symm h.nb5) _) (Ne.symm h.nb5) _
theorem LS.puta {w y : World} {qa qb q5 : Nat} {lo hi m : Fr} (h : LS w y qa qb q5 lo hi m) (a b : Int) : LS w ((y.setCell ⟨qa, 0, none⟩ (.int .i64 a)).setCell ⟨qa, 1, none⟩ (.int .i64 b)) qa qb q5 ⟨a, b⟩ hi m :=
  ⟨(h.below.setCell h.oa _).setCell h.oa _, box_set1 (box_set0 h.ba a) b, box_far (box_far h.bb (Ne.symm h.nab) _) (Ne.symm h.nab) _, box_far (box_far h.b5 (Ne.symm h.na5) _) (Ne.symm h.na5) _, h.oa, h.ob, h.nab, h.na5, h.nb5⟩
theorem LS.putb {w y : World} {qa qb q5 : Nat} {lo hi m : Fr} (h : LS w y qa qb q5 lo hi m) (a b : Int) : LS w ((y.setCell ⟨qb, 0, none⟩ (.int .i64 a)).setCell ⟨qb, 1, none⟩ (.int .i64 b)) qa qb q5 lo ⟨a, b⟩ m :=
  ⟨(h.below.setCell h.ob _).setCell h.ob _, box_far (box_far h.ba h.nab _) h.nab _, box_set1 (box_set0 h.bb a) b, box_far (box_far h.b5 (Ne.symm h.nb5) _) (Ne.symm h.nb5) _, h.oa, h.ob, h.nab, h.na5, h.nb5⟩
theorem LS.facts {w y : World} {qa qb q5 : Nat} {a1 a2 b1 b2 c1 c2 : Int} (h : LS w y qa qb q5 ⟨a1, a2⟩ ⟨b1, b2⟩ ⟨c1, c2⟩) :
    (y.cell? ⟨qa, 0, none⟩ = some (.int .i64 a1) ∧ y.cell? ⟨qa, 1, none⟩ = some (.int .i64 a2) ∧ y.frozen? ⟨qa, 0, none⟩ = false ∧ y.frozen? ⟨qa, 1, none⟩ = false) ∧
    (y.cell? ⟨qb, 0, none⟩ = some (.int .i64 b1) ∧ y.cell? ⟨qb, 1, none⟩ = some (.int .i64 b2) ∧ y.frozen? ⟨qb, 0, none⟩ = false ∧ y.frozen? ⟨qb, 1, none⟩ = false) ∧
    (y.cell? ⟨q5, 0, none⟩ = some (.int .i64 c1) ∧ y.cell? ⟨q5, 1, none⟩ = some (.int .i64 c2)) := ⟨cells_two h.ba, cells_two h.bb, (cells_two h.b5).1, (cells_two h.b5).2.1⟩
/-- an element's cells, and that its block is an old one, of which the boxes of the call are none -/
def El (w y : World) (b c : Nat) (n d : Int) : Prop := b < w.heap.size ∧ y.cell? ⟨b, c, none⟩ = some (.int .i64 n) ∧ y.cell? ⟨b, c + 1, none⟩ = some (.int .i64 d)
theorem El.keep {w y y' : World} {b c : Nat} {n d : Int} (h : El w y b c n d) (hw : w.heap.size ≤ y.heap.size) (hb : Below y.heap.size y y') : El w y' b c n d :=
  ⟨h.1, (hb.cell (p := ⟨b, _, none⟩) (Nat.lt_of_lt_of_le h.1 hw)).trans h.2.1, (hb.cell (p := ⟨b, _, none⟩) (Nat.lt_of_lt_of_le h.1 hw)).trans h.2.2⟩
theorem El.set {w y : World} {b c : Nat} {n d : Int} (h : El w y b c n d) {q : Nat} (hq : w.heap.size ≤ q) (u v : Value) : El w ((y.setCell ⟨q, 0, none⟩ u).setCell ⟨q, 1, none⟩ v) b c n d :=
  have hne : b ≠ q := Nat.ne_of_lt (Nat.lt_of_lt_of_le h.1 hq)
  ⟨h.1, cell_far h.2.1 hne hne, cell_far h.2.2 hne hne⟩
theorem El.alloc {w y : World} {b c : Nat} {n d : Int} (h : El w y b c n d) (hw : w.heap.size ≤ y.heap.size) (o : Obj) : El w (y.alloc o) b c n d := h.keep hw ((Below.refl _ _).alloc (Nat.le_refl _) _)
theorem LS.start {w y : World} {q5 : Nat} {m : Fr} (h : Below w.heap.size w y ∧ w.heap.size ≤ y.heap.size ∧ w.heap.size ≤ q5 ∧ q5 < y.heap.size ∧ y.heap[q5]? = some (boxF m)) (f : Fr) :
    LS w ((y.alloc (boxF f)).alloc (boxF f)) y.heap.size (y.heap.size + 1) q5 f f m := by
  obtain ⟨h1, h2, h3, h4, h5⟩ := h
  refine ⟨(h1.alloc h2 _).alloc (by simp; omega) _, (two_box y _ _).1, (two_box y _ _).2, ?_, h2, by omega, by omega, by omega, by omega⟩
  rw [Below.heap_alloc _ _ _ (by simp; omega), Below.heap_alloc _ _ _ h4]
  exact h5
theorem LS.start2 {w y : World} {q5 : Nat} {m : Fr} (h : Below w.heap.size w y ∧ w.heap.size ≤ y.heap.size ∧ w.heap.size ≤ q5 ∧ q5 < y.heap.size ∧ y.heap[q5]? = some (boxF m)) (f : Fr) :
    LS w ((y.alloc (boxF f)).alloc (boxF f)) (y.heap.size + 1) y.heap.size q5 f f m := by
  obtain ⟨h1, h2, h3, h4, h5, h6, h7, h8, h9⟩ := LS.start h f
  exact ⟨h1, h3, h2, h4, h6, h5, Ne.symm h7, h9, h8⟩
def Two (y : World) (q : Nat) (a b : Int) : Prop := y.cell? ⟨q, 0, none⟩ = some (.int .i64 a) ∧ y.cell? ⟨q, 1, none⟩ = some (.int .i64 b)
theorem FrS.el {w : World} {b o : Nat} {l : List Fr} (h : FrS w (some ⟨b, o, none⟩) l) (hp : 0 < l.length) {k : Nat} {f : Fr} (hk : l[k]? = some f) : El w w b (o + k * 2) f.num f.den := by
  obtain ⟨b', o', hA, hlt, hc⟩ := h hp
  simp only [Option.some.injEq, Addr.mk.injEq, and_true] at hA
  obtain ⟨rfl, rfl⟩ := hA
  exact ⟨hlt, (hc k f hk).1, (hc k f hk).2⟩
def Cells6 (y : World) (qa qb b c : Nat) (a1 a2 b1 b2 n d : Int) : Prop :=
  y.cell? ⟨qa, 0, none⟩ = some (.int .i64 a1) ∧ y.cell? ⟨qa, 1, none⟩ = some (.int .i64 a2) ∧ y.cell? ⟨qb, 0, none⟩ = some (.int .i64 b1) ∧ y.cell? ⟨qb, 1, none⟩ = some (.int .i64 b2) ∧ y.cell? ⟨b, c, none⟩ = some (.int .i64 n) ∧ y.cell? ⟨b, c + 1, none⟩ = some (.int .i64 d)
theorem Cells6.of {w y : World} {qa qb q5 b c : Nat} {a1 a2 b1 b2 n d : Int} {m : Fr} (h : LS w y qa qb q5 ⟨a1, a2⟩ ⟨b1, b2⟩ m) (p0 : y.cell? ⟨b, c, none⟩ = some (.int .i64 n)) (p1 : y.cell? ⟨b, c + 1, none⟩ = some (.int .i64 d)) : Cells6 y qa qb b c a1 a2 b1 b2 n d :=
  ⟨(cells_two h.ba).1, (cells_two h.ba).2.1, (cells_two h.bb).1, (cells_two h.bb).2.1, p0, p1⟩
theorem Cells6.keep {w y y' : World} {qa qb q5 b c : Nat} {a1 a2 b1 b2 n d : Int} {m : Fr} (hc : Cells6 y qa qb b c a1 a2 b1 b2 n d) (h : LS w y qa qb q5 ⟨a1, a2⟩ ⟨b1, b2⟩ m) (hb : Below y.heap.size y y') (hl : b < y.heap.size) : Cells6 y' qa qb b c a1 a2 b1 b2 n d :=
  .of (h.keep hb) ((hb.cell (p := ⟨b, _, none⟩) hl).trans hc.2.2.2.2.1) ((hb.cell (p := ⟨b, _, none⟩) hl).trans hc.2.2.2.2.2)
theorem min_ok {a b : Fr} (ha : FrOk a) (hb : FrOk b) : FrOk (minF a b) ∧ cmpF (minF a b) a ≤ 0 ∧ cmpF (minF a b) b ≤ 0 := by
  have h0 : ∀ x : Fr, cmpF x x ≤ 0 := fun x => by rw [cmp_le]; omega
  unfold minF
  split
  · exact ⟨ha, h0 a, by assumption⟩
  · rename_i h
    exact ⟨hb, by rw [cmp_neg]; omega, h0 b⟩
theorem max_ok {a b : Fr} (ha : FrOk a) (hb : FrOk b) : FrOk (maxF a b) ∧ cmpF a (maxF a b) ≤ 0 ∧ cmpF b (maxF a b) ≤ 0 := by
  have h0 : ∀ x : Fr, cmpF x x ≤ 0 := fun x => by rw [cmp_le]; omega
  unfold maxF
  split
  · rename_i h
    exact ⟨ha, h0 a, by rw [cmp_neg]; omega⟩
  · exact ⟨hb, by omega, h0 b⟩
/-- the first k fractions lie between lo and hi -/
def BetwL (l : List Fr) (k : Nat) (lo hi : Fr) : Prop := FrOk lo ∧ FrOk hi ∧ ∀ (i : Nat) (x : Fr), i < k → l[i]? = some x → cmpF lo x ≤ 0 ∧ cmpF x hi ≤ 0
theorem BetwL.next {l : List Fr} {k : Nat} {lo hi x : Fr} (h : BetwL l k lo hi) (hv : ∀ x ∈ l, FrOk x) (hk : l[k]? = some x) : BetwL l (k + 1) (minF lo x) (maxF hi x) := by
  obtain ⟨h1, h2, h3⟩ := h
  have hx := hv x (List.mem_of_getElem? hk)
  obtain ⟨a1, a2, a3⟩ := min_ok h1 hx
  obtain ⟨b1, b2, b3⟩ := max_ok h2 hx
  refine ⟨a1, b1, fun i z hi hz => ?_⟩
  have hzv := hv z (List.mem_of_getElem? hz)
  by_cases hik : i < k
  · obtain ⟨c1, c2⟩ := h3 i z hik hz
    exact ⟨cmp_trans a1 h1 hzv a2 c1, cmp_trans hzv h2 b1 c2 b2⟩
  · obtain rfl : i = k := by omega
    obtain rfl : z = x := by rw [hz] at hk; exact Option.some.inj hk
    exact ⟨a3, b3⟩
theorem BetwL.all {l : List Fr} {lo hi : Fr} (h : BetwL l l.length lo hi) : (∀ x ∈ l, cmpF lo x ≤ 0) ∧ ∀ x ∈ l, cmpF x hi ≤ 0 := by
  obtain ⟨_, _, h3⟩ := h
  constructor <;> intro x hx <;> obtain ⟨i, hi, rfl⟩ := List.getElem_of_mem hx
  · exact (h3 i _ hi (List.getElem?_eq_getElem hi)).1
  · exact (h3 i _ hi (List.getElem?_eq_getElem hi)).2

set_option maxHeartbeats 8000000 in
set_option maxRecDepth 100000 in
theorem law_sums (w : World) (A : Option Addr) (cap : Nat) (l : List Fr) (hcap : (l.length : Int) ≤ 9223372036854775807) (hf : ∀ x ∈ l, FI x) (hs : FrS w A l) (ht : Tb w) : Calls Tryd.prog 8 #[.slice A l.length cap] w (YesP w) := by
  have HT := Lib.hid ht
  have HS := Lib.hid hs
  clear ht hs
  by_cases h60 : (60 : Int) < (l.length : Int)
  focus
    have t1 : decide ((60 : Int) < (l.length : Int)) = true := by simpa using h60
    clear hf
    go_enter Tryd.func8, Tryd.ntmps8
    go_wp2_with fail
    refine (awake_any w HT.out).mono ?_
    rintro e9 wc ⟨rfl, hb⟩
    go_wp2_with fail
    go_ret
    exact ⟨rfl, hb⟩
  have t1 : decide ((60 : Int) < (l.length : Int)) = false := by simpa using h60
  have hl : (l.length : Int) ≤ 1073741824 := by omega
  have P0 := Lib.hid (fun (y : World) (hy : FrS y A l) => sum_any y A cap l hl hf hy)
  have R0 := Lib.hid (fun (y : World) (hy : FrS y A l) => rsum_any y A cap l hl hf hy)
  have P1 := Lib.hid (fun (y : World) (hy : FrS y A l) => mean_any y A cap l hl hf hy)
  have R1 := Lib.hid (fun (y : World) (hy : FrS y A l) => rmean_any y A cap l hl hf hy)
  obtain ⟨⟨⟨x0, y0⟩, e0⟩, hx0⟩ : ∃ r, sumF l = r := ⟨_, rfl⟩
  obtain ⟨⟨⟨x1, y1⟩, e1⟩, hx1⟩ : ∃ r, meanF l = r := ⟨_, rfl⟩
  rw [hx0] at P0 R0
  rw [hx1] at P1 R1
  have HM := Lib.hid hx1
  clear hx0 hx1 hf h60
  by_cases he : e1 = 0
  rotate_left
  focus
    have t2 : (e1 == 0) = false := beq_eq_false_iff_ne.2 he
    have t3 : (e1 != 0) = true := bne_iff_ne.2 he
    clear he
    go_enter Tryd.func8, Tryd.ntmps8
    go_wp2_with fail
    have HX := Lib.hid (Bxs.nil w)
    obtain ⟨w0, hw0⟩ : ∃ w0, w0 = w := ⟨_, rfl⟩
    have HW0 := Lib.hid hw0
    rw [← hw0]
    have HS0 : Hid (FrS w0 A l) := by rw [hw0]; exact HS.out
    replace HX : Hid (Bxs w w0 []) := by rw [hw0]; exact HX.out
    clear hw0
    refine (P0.out w0 HS0.out).mono ?_
    rintro e9 wc ⟨rfl, hb⟩
    unfold frV
    have HS1 := Lib.hid (HS0.out.keep (hb.alloc hb.size (.cells #[.int .i64 x0, .int .i64 y0] 23)))
    have hc := (HX.out.keep hb).cells
    simp only [BCells] at hc
    replace HX := Lib.hid (show Bxs w (wc.alloc (.cells #[.int .i64 x0, .int .i64 y0] 23)) _ from HX.out.step hb ⟨x0, y0⟩)
    clear hb HS0
    go_wp2_with fail
    clear hc
    generalize wc.alloc (.cells #[.int .i64 x0, .int .i64 y0] 23) = w1 at *
    generalize wc.heap.size = q1 at *
    refine (P1.out w1 HS1.out).mono ?_
    rintro e9 wc ⟨rfl, hb⟩
    unfold frV
    have HS2 := Lib.hid (HS1.out.keep (hb.alloc hb.size (.cells #[.int .i64 x1, .int .i64 y1] 23)))
    have hc := (HX.out.keep hb).cells
    simp only [BCells] at hc
    replace HX := Lib.hid (show Bxs w (wc.alloc (.cells #[.int .i64 x1, .int .i64 y1] 23)) _ from HX.out.step hb ⟨x1, y1⟩)
    clear hb HS1
    go_wp2_with fail
    clear hc
    generalize wc.alloc (.cells #[.int .i64 x1, .int .i64 y1] 23) = w2 at *
    generalize wc.heap.size = q2 at *
    refine (R0.out w2 HS2.out).mono ?_
    rintro e9 wc ⟨rfl, hb⟩
    unfold frV
    have HS3 := Lib.hid (HS2.out.keep (hb.alloc hb.size (.cells #[.int .i64 x0, .int .i64 y0] 23)))
    have hc := (HX.out.keep hb).cells
    simp only [BCells] at hc
    replace HX := Lib.hid (show Bxs w (wc.alloc (.cells #[.int .i64 x0, .int .i64 y0] 23)) _ from HX.out.step hb ⟨x0, y0⟩)
    clear hb HS2
    go_wp2_with fail
    clear hc
    generalize wc.alloc (.cells #[.int .i64 x0, .int .i64 y0] 23) = w3 at *
    generalize wc.heap.size = q3 at *
    refine (R1.out w3 HS3.out).mono ?_
    rintro e9 wc ⟨rfl, hb⟩
    unfold frV
    have HS4 := Lib.hid (HS3.out.keep (hb.alloc hb.size (.cells #[.int .i64 x1, .int .i64 y1] 23)))
    have hc := (HX.out.keep hb).cells
    simp only [BCells] at hc
    replace HX := Lib.hid (show Bxs w (wc.alloc (.cells #[.int .i64 x1, .int .i64 y1] 23)) _ from HX.out.step hb ⟨x1, y1⟩)
    clear hb HS3
    go_wp2_with fail
    clear hc
    generalize wc.alloc (.cells #[.int .i64 x1, .int .i64 y1] 23) = w4 at *
    generalize wc.heap.size = q4 at *
    refine (awake_any w4 (HT.out.below HX.out.below)).mono ?_
    rintro e9 wc ⟨rfl, hb⟩
    replace HX := Lib.hid (HX.out.keep hb)
    clear hb
    go_wp2_with fail
    go_ret
    exact ⟨rfl, HX.out.below⟩
  subst he
  obtain ⟨hne, hval, hm, hbt⟩ := mean_ok HM.out hl
  have HV := Lib.hid hval
  have HBT := Lib.hid hbt
  have HMV := Lib.hid hm
  have hpos : 0 < l.length := List.length_pos_iff.2 hne
  have hposI : (0 : Int) < (l.length : Int) := by omega
  clear hne hval hm hbt
  go_enter Tryd.func8, Tryd.ntmps8
  go_wp2_with fail
  have HX := Lib.hid (Bxs.nil w)
  obtain ⟨w0, hw0⟩ : ∃ w0, w0 = w := ⟨_, rfl⟩
  have HW0 := Lib.hid hw0
  rw [← hw0]
  have HS0 : Hid (FrS w0 A l) := by rw [hw0]; exact HS.out
  replace HX : Hid (Bxs w w0 []) := by rw [hw0]; exact HX.out
  clear hw0
  refine (P0.out w0 HS0.out).mono ?_
  rintro e9 wc ⟨rfl, hb⟩
  unfold frV
  have HS1 := Lib.hid (HS0.out.keep (hb.alloc hb.size (.cells #[.int .i64 x0, .int .i64 y0] 23)))
  have hc := (HX.out.keep hb).cells
  simp only [BCells] at hc
  replace HX := Lib.hid (show Bxs w (wc.alloc (.cells #[.int .i64 x0, .int .i64 y0] 23)) _ from HX.out.step hb ⟨x0, y0⟩)
  clear hb HS0
  go_wp2_with fail
  clear hc
  generalize wc.alloc (.cells #[.int .i64 x0, .int .i64 y0] 23) = w1 at *
  generalize wc.heap.size = q1 at *
  refine (P1.out w1 HS1.out).mono ?_
  rintro e9 wc ⟨rfl, hb⟩
  unfold frV
  have HS2 := Lib.hid (HS1.out.keep (hb.alloc hb.size (.cells #[.int .i64 x1, .int .i64 y1] 23)))
  have hc := (HX.out.keep hb).cells
  simp only [BCells] at hc
  replace HX := Lib.hid (show Bxs w (wc.alloc (.cells #[.int .i64 x1, .int .i64 y1] 23)) _ from HX.out.step hb ⟨x1, y1⟩)
  clear hb HS1
  go_wp2_with fail
  clear hc
  generalize wc.alloc (.cells #[.int .i64 x1, .int .i64 y1] 23) = w2 at *
  generalize wc.heap.size = q2 at *
  refine (R0.out w2 HS2.out).mono ?_
  rintro e9 wc ⟨rfl, hb⟩
  unfold frV
  have HS3 := Lib.hid (HS2.out.keep (hb.alloc hb.size (.cells #[.int .i64 x0, .int .i64 y0] 23)))
  have hc := (HX.out.keep hb).cells
  simp only [BCells] at hc
  replace HX := Lib.hid (show Bxs w (wc.alloc (.cells #[.int .i64 x0, .int .i64 y0] 23)) _ from HX.out.step hb ⟨x0, y0⟩)
  clear hb HS2
  go_wp2_with fail
  clear hc
  generalize wc.alloc (.cells #[.int .i64 x0, .int .i64 y0] 23) = w3 at *
  generalize wc.heap.size = q3 at *
  refine (R1.out w3 HS3.out).mono ?_
  rintro e9 wc ⟨rfl, hb⟩
  unfold frV
  have HS4 := Lib.hid (HS3.out.keep (hb.alloc hb.size (.cells #[.int .i64 x1, .int .i64 y1] 23)))
  have hc := (HX.out.keep hb).cells
  simp only [BCells] at hc
  replace HX := Lib.hid (show Bxs w (wc.alloc (.cells #[.int .i64 x1, .int .i64 y1] 23)) _ from HX.out.step hb ⟨x1, y1⟩)
  clear hb HS3
  go_wp2_with fail
  clear hc
  generalize wc.alloc (.cells #[.int .i64 x1, .int .i64 y1] 23) = w4 at *
  generalize wc.heap.size = q4 at *
  obtain ⟨b, o, n0, d0, hA, hbl, hlf, p0, p1⟩ := HS4.out.at 0 hpos
  obtain ⟨b', o', _, _, hA', hbw, _⟩ := HS.out.at 0 hpos
  rw [hA] at hA'
  simp only [Option.some.injEq, Addr.mk.injEq, and_true] at hA'
  obtain ⟨rfl, rfl⟩ := hA'
  subst hA
  have HL0 := Lib.hid hlf
  clear hlf HW0
  simp only [Nat.zero_mul, Nat.add_zero] at p0 p1
  have HBW := Lib.hid hbw
  have HALL := Lib.hid (fun (k : Nat) (f : Fr) (hk : l[k]? = some f) => HS.out.el hpos hk)
  have HC0 := Lib.hid (show El w w4.drew b o n0 d0 from ⟨hbw, p0, p1⟩)
  clear p0 p1 hbl hbw
  have HSZ := Lib.hid HX.out.below.size
  have HQ2 := Lib.hid (show w.heap.size ≤ q2 ∧ q2 < w4.heap.size ∧ w4.heap[q2]? = some (boxF ⟨x1, y1⟩) from ⟨HX.out.old (q2, ⟨x1, y1⟩) (by simp), heap_lt (HX.out.blk (q2, ⟨x1, y1⟩) (by simp)), HX.out.blk (q2, ⟨x1, y1⟩) (by simp)⟩)
  have HXB := Lib.hid HX.out.below
  have HT4 := Lib.hid (HT.out.below HXB.out)
  go_cut [11, 12] (fun s11 s12 wx => ∃ qa qb, s11 = .pointer (some ⟨qa, 0, none⟩) ∧ s12 = .pointer (some ⟨qb, 0, none⟩) ∧ LS w wx qa qb q2 ⟨n0, d0⟩ ⟨n0, d0⟩ ⟨x1, y1⟩)
  case first =>
    have HF := Lib.hid (show Below w.heap.size w w4.drew ∧ w.heap.size ≤ w4.drew.heap.size ∧ w.heap.size ≤ q2 ∧ q2 < w4.drew.heap.size ∧ w4.drew.heap[q2]? = some (boxF ⟨x1, y1⟩) from ⟨HXB.out.drew, HSZ.out, HQ2.out⟩)
    have hsz5 : w.heap.size ≤ w4.drew.heap.size := HSZ.out
    refine region_R [([2, 5], fun y => El w y b o n0 d0)] 10 (by kernel_rfl) (by rfl) (cg_cons (.inl HC0.out) cg_nil) (fun hC => ?_)
    generalize w4.drew = w5 at *
    refine anyR_pure 0 (by rfl) (by kernel_rfl) (by kernel_rfl) (by kernel_rfl) (by kernel_rfl) (by kernel_rfl) (by intro c a w h; exact h) (by rfl) (by intro w'; go_simp; try with_reducible rfl) hC ?_
    replace hC := hC.set 0
    try simp only [Act.put, List.setIfInBounds_toArray, List.set_cons_zero, List.set_cons_succ]
    refine anyR_pure 1 (by rfl) (by kernel_rfl) (by kernel_rfl) (by kernel_rfl) (by kernel_rfl) (by kernel_rfl) (by intro c a w h; exact h) (by rfl) (by intro w'; go_simp; try with_reducible rfl) hC ?_
    replace hC := hC.set 1
    try simp only [Act.put, List.setIfInBounds_toArray, List.set_cons_zero, List.set_cons_succ]
    refine anyR_take 2 ([2, 5], fun y => El w y b o n0 d0) (by simp) (by simp) (by rfl) (by kernel_rfl) (by kernel_rfl) (by kernel_rfl) (by kernel_rfl) (by kernel_rfl) (by intro c a w h; exact h) (by rfl) (by intro w' hS; obtain ⟨_, s1, s2⟩ := hS; go_simp; try with_reducible rfl) hC ?_
    replace hC := hC.set 2
    try simp only [Act.put, List.setIfInBounds_toArray, List.set_cons_zero, List.set_cons_succ]
    refine anyR_pure 3 (by rfl) (by kernel_rfl) (by kernel_rfl) (by kernel_rfl) (by kernel_rfl) (by kernel_rfl) (by intro c a w h; exact h) (by rfl) (by intro w'; go_simp; try with_reducible rfl) hC ?_
    replace hC := hC.set 3
    try simp only [Act.put, List.setIfInBounds_toArray, List.set_cons_zero, List.set_cons_succ]
    refine anyR_pure 4 (by rfl) (by kernel_rfl) (by kernel_rfl) (by kernel_rfl) (by kernel_rfl) (by kernel_rfl) (by intro c a w h; exact h) (by rfl) (by intro w'; go_simp; try with_reducible rfl) hC ?_
    replace hC := hC.set 4
    try simp only [Act.put, List.setIfInBounds_toArray, List.set_cons_zero, List.set_cons_succ]
    refine anyR_take 5 ([2, 5], fun y => El w y b o n0 d0) (by simp) (by simp) (by rfl) (by kernel_rfl) (by kernel_rfl) (by kernel_rfl) (by kernel_rfl) (by kernel_rfl) (by intro c a w h; exact h) (by rfl) (by intro w' hS; obtain ⟨_, s1, s2⟩ := hS; go_simp; try with_reducible rfl) hC ?_
    replace hC := hC.set 5
    try simp only [Act.put, List.setIfInBounds_toArray, List.set_cons_zero, List.set_cons_succ]
    refine anyR_next [6, 7] (by kernel_rfl) (by rfl) ?_
    refine allR_cons _ (by rfl) (by rfl) (fun K hK => ?_) (allR_cons _ (by rfl) (by rfl) (fun K hK => ?_) trivial)
    focus
      go_simp
      refine hK _ _ (cg_cons (.inl (El.alloc HC0.out hsz5 (.cells #[.int .i64 0, .int .i64 0] 23))) cg_nil) ?_
      clear hK K
      try simp only [Act.put, List.setIfInBounds_toArray, List.set_cons_zero, List.set_cons_succ]
      refine anyR_next [7] (by kernel_rfl) (by rfl) ?_
      refine allR_cons _ (by rfl) (by rfl) (fun K hK => ?_) trivial
      go_simp
      refine hK _ _ (cg_cons (.inl (El.alloc (El.alloc HC0.out hsz5 (.cells #[.int .i64 0, .int .i64 0] 23)) (by simp; omega) _)) cg_nil) ?_
      clear hK K
      try simp only [Act.put, List.setIfInBounds_toArray, List.set_cons_zero, List.set_cons_succ]
      refine anyR_next [8] (by kernel_rfl) (by rfl) ?_
      refine allR_cons _ (by rfl) (by rfl) (fun K hK => ?_) trivial
      go_simp
      refine hK _ _ (cg_cons (.inl (El.alloc (El.alloc HC0.out hsz5 (.cells #[.int .i64 n0, .int .i64 d0] 23)) (by simp; omega) (.cells #[.int .i64 0, .int .i64 0] 23))) cg_nil) ?_
      clear hK K
      try simp only [Act.put, List.setIfInBounds_toArray, List.set_cons_zero, List.set_cons_succ]
      refine anyR_next [9] (by kernel_rfl) (by rfl) ?_
      refine allR_cons _ (by rfl) (by rfl) (fun K hK => ?_) trivial
      go_simp
      refine hK _ _ (cg_cons (.inl (El.alloc (El.alloc HC0.out hsz5 (.cells #[.int .i64 n0, .int .i64 d0] 23)) (by simp; omega) (.cells #[.int .i64 n0, .int .i64 d0] 23))) cg_nil) ?_
      clear hK K
      try simp only [Act.put, List.setIfInBounds_toArray, List.set_cons_zero, List.set_cons_succ]
      refine anyR_done (by kernel_rfl) ?_
      go_wp2_with fail
      go_meet
      exact ⟨_, _, rfl, rfl, LS.start HF.out ⟨n0, d0⟩⟩
    focus
      go_simp
      refine hK _ _ (cg_cons (.inl (El.alloc HC0.out hsz5 (.cells #[.int .i64 0, .int .i64 0] 23))) cg_nil) ?_
      clear hK K
      try simp only [Act.put, List.setIfInBounds_toArray, List.set_cons_zero, List.set_cons_succ]
      refine anyR_next [6] (by kernel_rfl) (by rfl) ?_
      refine allR_cons _ (by rfl) (by rfl) (fun K hK => ?_) trivial
      go_simp
      refine hK _ _ (cg_cons (.inl (El.alloc (El.alloc HC0.out hsz5 (.cells #[.int .i64 0, .int .i64 0] 23)) (by simp; omega) _)) cg_nil) ?_
      clear hK K
      try simp only [Act.put, List.setIfInBounds_toArray, List.set_cons_zero, List.set_cons_succ]
      refine anyR_next [8] (by kernel_rfl) (by rfl) ?_
      refine allR_cons _ (by rfl) (by rfl) (fun K hK => ?_) trivial
      go_simp
      refine hK _ _ (cg_cons (.inl (El.alloc (El.alloc HC0.out hsz5 (.cells #[.int .i64 0, .int .i64 0] 23)) (by simp; omega) (.cells #[.int .i64 n0, .int .i64 d0] 23))) cg_nil) ?_
      clear hK K
      try simp only [Act.put, List.setIfInBounds_toArray, List.set_cons_zero, List.set_cons_succ]
      refine anyR_next [9] (by kernel_rfl) (by rfl) ?_
      refine allR_cons _ (by rfl) (by rfl) (fun K hK => ?_) trivial
      go_simp
      refine hK _ _ (cg_cons (.inl (El.alloc (El.alloc HC0.out hsz5 (.cells #[.int .i64 n0, .int .i64 d0] 23)) (by simp; omega) (.cells #[.int .i64 n0, .int .i64 d0] 23))) cg_nil) ?_
      clear hK K
      try simp only [Act.put, List.setIfInBounds_toArray, List.set_cons_zero, List.set_cons_succ]
      refine anyR_done (by kernel_rfl) ?_
      go_wp2_with fail
      go_meet
      exact ⟨_, _, rfl, rfl, LS.start2 HF.out ⟨n0, d0⟩⟩
  case rest =>
    obtain ⟨qa, qb, rfl, rfl, hL⟩ := hcut
    have HLS := Lib.hid hL
    have HOK0 := Lib.hid (show FrOk ⟨n0, d0⟩ from by rw [← HL0.out]; exact HV.out _ (List.getElem_mem hpos))
    clear hL HC0 HSZ HQ2 HXB HX HS4
    go_wp2_with fail
    go_loopw [67] (fun i wr => ∃ (k : Nat) (lo hi : Fr), k ≤ l.length ∧ i = .int .i64 k ∧ Hid (LS w wr qa qb q2 lo hi ⟨x1, y1⟩ ∧ BetwL l k lo hi)) (fun i _ => l.length - (intOf i).toNat)
    case atStart => exact ⟨0, ⟨n0, d0⟩, ⟨n0, d0⟩, Nat.zero_le _, rfl, HLS.out, HOK0.out, HOK0.out, by intro i x hi; omega⟩
    case round =>
      clear HLS HOK0 HL0
      obtain ⟨k, ⟨a1, a2⟩, ⟨b1, b2⟩, hk, rfl, HI⟩ := hrel
      have HL := Lib.hid HI.out.1
      have hsz : w.heap.size ≤ wr.heap.size := HL.out.below.size
      by_cases hlk : k < l.length
      rotate_left
      focus
        obtain rfl : k = l.length := by omega
        obtain ⟨hv1, hv2, _⟩ := HI.out.2
        have hall := HI.out.2.all
        have hcm := HBT.out _ _ hv1 hv2 hall.1 hall.2
        have C1 := Lib.hid (fun w => cmp_any w ⟨a1, a2⟩ ⟨x1, y1⟩ hv1.fb HMV.out.fb)
        have C2 := Lib.hid (fun w => cmp_any w ⟨x1, y1⟩ ⟨b1, b2⟩ HMV.out.fb hv2.fb)
        obtain ⟨r1, hr1⟩ : ∃ r, cmpF ⟨a1, a2⟩ ⟨x1, y1⟩ = r := ⟨_, rfl⟩
        obtain ⟨r2, hr2⟩ : ∃ r, cmpF ⟨x1, y1⟩ ⟨b1, b2⟩ = r := ⟨_, rfl⟩
        rw [hr1] at C1 hcm
        rw [hr2] at C2 hcm
        have t5 : decide (r1 ≤ 0) = true := by simpa using hcm.1
        have t6 : decide (r2 ≤ 0) = true := by simpa using hcm.2
        clear hv1 hv2 hall hcm hr1 hr2 HI
        unfold frV at C1 C2
        have hc := HL.out.facts
        go_wp2_with fail
        clear hc
        refine (C1.out _).mono ?_
        rintro e9 w6 ⟨rfl, hb⟩
        replace HL := Lib.hid (HL.out.keep hb)
        have hc := HL.out.facts
        clear hb
        go_wp2_with fail
        clear hc
        refine (C2.out _).mono ?_
        rintro e9 w7 ⟨rfl, hb⟩
        replace HL := Lib.hid (HL.out.keep hb)
        clear hb
        go_wp2_with fail
        refine (awake_any w7 (HT.out.below HL.out.below)).mono ?_
        rintro e9 w8 ⟨rfl, hb⟩
        replace HL := Lib.hid (HL.out.keep hb)
        clear hb
        go_wp2_with fail
        go_ret
        exact ⟨rfl, HL.out.below⟩
      have hfx := HV.out _ (List.getElem_mem hlk)
      have HEL0 := Lib.hid (HALL.out k _ (List.getElem?_eq_getElem hlk))
      have HGE := Lib.hid (List.getElem?_eq_getElem hlk)
      generalize l[k] = f at *
      obtain ⟨n, d⟩ := f
      have hv1 := HI.out.2.1
      have hv2 := HI.out.2.2.1
      have HNX := Lib.hid (HI.out.2.next HV.out HGE.out)
      have MN := Lib.hid (fun w => min_any w ⟨a1, a2⟩ ⟨n, d⟩ hv1.fb hfx.fb)
      have MX := Lib.hid (fun w => max_any w ⟨b1, b2⟩ ⟨n, d⟩ hv2.fb hfx.fb)
      generalize minF ⟨a1, a2⟩ ⟨n, d⟩ = mi at *
      generalize maxF ⟨b1, b2⟩ ⟨n, d⟩ = ma at *
      obtain ⟨i1, i2⟩ := mi
      obtain ⟨j1, j2⟩ := ma
      unfold frV at MN MX
      clear hv1 hv2 hfx HGE
      have HC := Lib.hid (show Two wr.drew qa a1 a2 ∧ Two wr.drew qb b1 b2 ∧ El w wr.drew b (o + k * 2) n d ∧ LS w wr.drew qa qb q2 ⟨a1, a2⟩ ⟨b1, b2⟩ ⟨x1, y1⟩ ∧ w.heap.size ≤ wr.drew.heap.size from ⟨⟨HL.out.facts.1.1, HL.out.facts.1.2.1⟩, ⟨HL.out.facts.2.1.1, HL.out.facts.2.1.2.1⟩, HEL0.out.keep (Nat.le_refl _) HL.out.below.drew, HL.out.keep Below.drew1_, hsz⟩)
      go_wp2_with fail
      refine region_R [([0], fun y => Two y qa a1 a2), ([6], fun y => Two y qb b1 b2), ([4, 10], fun y => El w y b (o + k * 2) n d)] 14 (by kernel_rfl) (by rfl) (cg_cons (.inl HC.out.1) (cg_cons (.inl HC.out.2.1) (cg_cons (.inl HC.out.2.2.1) cg_nil))) (fun hC => ?_)
      replace HL := Lib.hid HC.out.2.2.2.1
      replace hsz := HC.out.2.2.2.2
      have HE := Lib.hid HC.out.2.2.1
      clear HC
      generalize wr.drew = w5 at *
      refine anyR_take 0 ([0], fun y => Two y qa a1 a2) (by simp) (by simp) (by rfl) (by kernel_rfl) (by kernel_rfl) (by kernel_rfl) (by kernel_rfl) (by kernel_rfl) (by intro c a w h; exact h) (by rfl) (by intro w' hS; obtain ⟨s1, s2⟩ := hS; go_simp; try with_reducible rfl) hC ?_
      replace hC := hC.set 0
      try simp only [Act.put, List.setIfInBounds_toArray, List.set_cons_zero, List.set_cons_succ]
      refine anyR_pure 1 (by rfl) (by kernel_rfl) (by kernel_rfl) (by kernel_rfl) (by kernel_rfl) (by kernel_rfl) (by intro c a w h; exact h) (by rfl) (by intro w'; go_simp; try with_reducible rfl) hC ?_
      replace hC := hC.set 1
      try simp only [Act.put, List.setIfInBounds_toArray, List.set_cons_zero, List.set_cons_succ]
      refine anyR_pure 2 (by rfl) (by kernel_rfl) (by kernel_rfl) (by kernel_rfl) (by kernel_rfl) (by kernel_rfl) (by intro c a w h; exact h) (by rfl) (by intro w'; go_simp; try with_reducible rfl) hC ?_
      replace hC := hC.set 2
      try simp only [Act.put, List.setIfInBounds_toArray, List.set_cons_zero, List.set_cons_succ]
      refine anyR_pure 3 (by rfl) (by kernel_rfl) (by kernel_rfl) (by kernel_rfl) (by kernel_rfl) (by kernel_rfl) (by intro c a w h; exact h) (by rfl) (by intro w'; go_simp; try with_reducible rfl) hC ?_
      replace hC := hC.set 3
      try simp only [Act.put, List.setIfInBounds_toArray, List.set_cons_zero, List.set_cons_succ]
      refine anyR_take 4 ([4, 10], fun y => El w y b (o + k * 2) n d) (by simp) (by simp) (by rfl) (by kernel_rfl) (by kernel_rfl) (by kernel_rfl) (by kernel_rfl) (by kernel_rfl) (by intro c a w h; exact h) (by rfl) (by intro w' hS; obtain ⟨_, s1, s2⟩ := hS; go_simp; try with_reducible rfl) hC ?_
      replace hC := hC.set 4
      try simp only [Act.put, List.setIfInBounds_toArray, List.set_cons_zero, List.set_cons_succ]
      refine anyR_take 6 ([6], fun y => Two y qb b1 b2) (by simp) (by simp) (by rfl) (by kernel_rfl) (by kernel_rfl) (by kernel_rfl) (by kernel_rfl) (by kernel_rfl) (by intro c a w h; exact h) (by rfl) (by intro w' hS; obtain ⟨s1, s2⟩ := hS; go_simp; try with_reducible rfl) hC ?_
      replace hC := hC.set 6
      try simp only [Act.put, List.setIfInBounds_toArray, List.set_cons_zero, List.set_cons_succ]
      refine anyR_pure 7 (by rfl) (by kernel_rfl) (by kernel_rfl) (by kernel_rfl) (by kernel_rfl) (by kernel_rfl) (by intro c a w h; exact h) (by rfl) (by intro w'; go_simp; try with_reducible rfl) hC ?_
      replace hC := hC.set 7
      try simp only [Act.put, List.setIfInBounds_toArray, List.set_cons_zero, List.set_cons_succ]
      refine anyR_pure 8 (by rfl) (by kernel_rfl) (by kernel_rfl) (by kernel_rfl) (by kernel_rfl) (by kernel_rfl) (by intro c a w h; exact h) (by rfl) (by intro w'; go_simp; try with_reducible rfl) hC ?_
      replace hC := hC.set 8
      try simp only [Act.put, List.setIfInBounds_toArray, List.set_cons_zero, List.set_cons_succ]
      refine anyR_pure 9 (by rfl) (by kernel_rfl) (by kernel_rfl) (by kernel_rfl) (by kernel_rfl) (by kernel_rfl) (by intro c a w h; exact h) (by rfl) (by intro w'; go_simp; try with_reducible rfl) hC ?_
      replace hC := hC.set 9
      try simp only [Act.put, List.setIfInBounds_toArray, List.set_cons_zero, List.set_cons_succ]
      refine anyR_take 10 ([4, 10], fun y => El w y b (o + k * 2) n d) (by simp) (by simp) (by rfl) (by kernel_rfl) (by kernel_rfl) (by kernel_rfl) (by kernel_rfl) (by kernel_rfl) (by intro c a w h; exact h) (by rfl) (by intro w' hS; obtain ⟨_, s1, s2⟩ := hS; go_simp; try with_reducible rfl) hC ?_
      replace hC := hC.set 10
      try simp only [Act.put, List.setIfInBounds_toArray, List.set_cons_zero, List.set_cons_succ]
      clear hC
      refine anyR_next [5] (by kernel_rfl) (by rfl) ?_
      refine allR_cons _ (by rfl) (by rfl) (fun K hK => ?_) trivial
      go_simp
      refine (MN.out _).mono ?_
      rintro e9 w6 ⟨rfl, hb⟩
      replace HE := Lib.hid (HE.out.keep hsz hb)
      replace HL := Lib.hid (HL.out.keep hb)
      replace hsz := HL.out.below.size
      clear hb
      refine hK _ _ (cg_cons (.inr (by kernel_rfl)) (cg_cons (.inl ⟨HL.out.facts.2.1.1, HL.out.facts.2.1.2.1⟩) (cg_cons (.inl HE.out) cg_nil))) ?_
      clear hK K
      try simp only [Act.put, List.setIfInBounds_toArray, List.set_cons_zero, List.set_cons_succ]
      refine anyR_next [11] (by kernel_rfl) (by rfl) ?_
      refine allR_cons _ (by rfl) (by rfl) (fun K hK => ?_) trivial
      go_simp
      refine (MX.out _).mono ?_
      rintro e9 w7 ⟨rfl, hb⟩
      replace HL := Lib.hid (HL.out.keep hb)
      clear hb HE hsz
      refine hK _ _ (cg_cons (.inr (by kernel_rfl)) (cg_cons (.inr (by kernel_rfl)) (cg_cons (.inr (by kernel_rfl)) cg_nil))) ?_
      clear hK K
      try simp only [Act.put, List.setIfInBounds_toArray, List.set_cons_zero, List.set_cons_succ]
      have hc := HL.out.facts
      have hne := HL.out.nab
      refine anyR_next [12] (by kernel_rfl) (by rfl) ?_
      refine allR_cons _ (by rfl) (by rfl) (fun K hK => ?_) trivial
      go_simp
      replace HL := Lib.hid (HL.out.puta i1 i2)
      refine hK _ _ (cg_cons (.inr (by kernel_rfl)) (cg_cons (.inr (by kernel_rfl)) (cg_cons (.inr (by kernel_rfl)) cg_nil))) ?_
      clear hK K hc
      try simp only [Act.put, List.setIfInBounds_toArray, List.set_cons_zero, List.set_cons_succ]
      generalize (w7.setCell ⟨qa, 0, none⟩ (.int .i64 i1)).setCell ⟨qa, 1, none⟩ (.int .i64 i2) = w8 at *
      have hc := HL.out.facts
      refine anyR_next [13] (by kernel_rfl) (by rfl) ?_
      refine allR_cons _ (by rfl) (by rfl) (fun K hK => ?_) trivial
      go_simp
      replace HL := Lib.hid (HL.out.putb j1 j2)
      refine hK _ _ (cg_cons (.inr (by kernel_rfl)) (cg_cons (.inr (by kernel_rfl)) (cg_cons (.inr (by kernel_rfl)) cg_nil))) ?_
      clear hK K hc
      try simp only [Act.put, List.setIfInBounds_toArray, List.set_cons_zero, List.set_cons_succ]
      refine anyR_done (by kernel_rfl) ?_
      go_wp2_with fail
      go_roundw
      case rel => exact ⟨k + 1, ⟨i1, i2⟩, ⟨j1, j2⟩, by omega, by go_num, HL.out, HNX.out⟩
      case measure => simp [intOf]; omega
end Go.Proofs.YtjobncfjebkcdaaDoor
