/- The walks of Sum and Mean, of the program and of the reference. -/
import Derived.Test.YtjobncfjebkcdaaDoorFb
import Derived.Test.YtjobncfjebkcdaaDoorMy
import Derived.Deep.RegionHeld3
namespace Go.Proofs.YtjobncfjebkcdaaDoor
open Go Go.RowKit
set_option linter.unusedSimpArgs false

/-- a slice of fractions in memory -/
def FrS (w : World) (A : Option Addr) (l : List Fr) : Prop :=
  0 < l.length → ∃ b o, A = some ⟨b, o, none⟩ ∧ b < w.heap.size ∧ ∀ (i : Nat) (f : Fr), l[i]? = some f → w.cell? ⟨b, o + i * 2, none⟩ = some (.int .i64 f.num) ∧ w.cell? ⟨b, o + i * 2 + 1, none⟩ = some (.int .i64 f.den)
theorem FrS.keep {w w' : World} {A : Option Addr} {l : List Fr} (h : FrS w A l) (hb : Below w.heap.size w w') : FrS w' A l := by
  intro hn
  obtain ⟨b, o, hA, hlt, hc⟩ := h hn
  exact ⟨b, o, hA, Nat.lt_of_lt_of_le hlt hb.size, fun i f hf => ⟨(hb.cell (p := ⟨b, _, none⟩) hlt).trans (hc i f hf).1, (hb.cell (p := ⟨b, _, none⟩) hlt).trans (hc i f hf).2⟩⟩
theorem FrS.at {w : World} {A : Option Addr} {l : List Fr} (h : FrS w A l) (k : Nat) (hk : k < l.length) :
    ∃ b o n d, A = some ⟨b, o, none⟩ ∧ b < w.heap.size ∧ l[k] = ⟨n, d⟩ ∧ w.cell? ⟨b, o + k * 2, none⟩ = some (.int .i64 n) ∧ w.cell? ⟨b, o + k * 2 + 1, none⟩ = some (.int .i64 d) := by
  obtain ⟨b, o, hA, hlt, hc⟩ := h (by omega)
  obtain ⟨h1, h2⟩ := hc k _ (List.getElem?_eq_getElem hk)
  exact ⟨b, o, l[k].num, l[k].den, hA, hlt, rfl, h1, h2⟩
theorem Bxs.drop1 {w0 w : World} {x : Nat × Fr} {l : List (Nat × Fr)} (h : Bxs w0 w (x :: l)) : Bxs w0 w l :=
  ⟨h.below, fun y hy => h.blk y (List.mem_cons_of_mem _ hy), fun y hy => h.old y (List.mem_cons_of_mem _ hy), (List.pairwise_cons.1 h.ord).2⟩
theorem drop_cons {l : List Fr} {k : Nat} (hk : k < l.length) : l.drop k = l[k] :: l.drop (k + 1) := List.drop_eq_getElem_cons hk
theorem addF_fi {a b : Fr} {s : Fr} (h : addF a b = (s, 0)) : FrOk s := by
  unfold addF at h
  split at h
  · exact mkF_ok h
  · simp at h
theorem sumFrom_cons_ok {s x t : Fr} {l : List Fr} (h : addF s x = (t, 0)) : sumFrom s (x :: l) = sumFrom t l := by
  simp only [sumFrom, h, if_true]
theorem sumFrom_cons_no {s x t : Fr} {e : Int} {l : List Fr} (h : addF s x = (t, e)) (he : e ≠ 0) : sumFrom s (x :: l) = (⟨0, 0⟩, e) := by
  simp only [sumFrom, h, if_neg he]
theorem Below.drew1_ {w : World} : Below w.heap.size w w.drew := (Below.refl _ _).drew
theorem Below.alloc1_ {w : World} (o : Obj) : Below w.heap.size w (w.alloc o) := (Below.refl _ _).alloc (Nat.le_refl _) _
theorem Below.alloc2_ {w : World} (o : Obj) : Below w.heap.size w (w.alloc o).drew := ((Below.refl _ _).alloc (Nat.le_refl _) _).drew
theorem new_cells {y w9 : World} {a b : Value} {t : TypeId} (h : Below (y.alloc (.cells #[a, b] t)).drew.heap.size (y.alloc (.cells #[a, b] t)).drew w9) :
    w9.cell? ⟨y.heap.size, 0, none⟩ = some a ∧ w9.cell? ⟨y.heap.size, 1, none⟩ = some b ∧ w9.frozen? ⟨y.heap.size, 0, none⟩ = false ∧ w9.frozen? ⟨y.heap.size, 1, none⟩ = false :=
  cells_two ((h.block y.heap.size (by simp)).trans (heap_alloc_new y _))
theorem stepC {y y' : World} {q4 b c c' o o' : Nat} {u v u' v' : Value} (h : y.cell? ⟨q4, o, none⟩ = some u ∧ y.cell? ⟨q4, o', none⟩ = some v ∧ y.cell? ⟨b, c, none⟩ = some u' ∧ y.cell? ⟨b, c', none⟩ = some v') (hb : Below y.heap.size y y') (h1 : q4 < y.heap.size) (h2 : b < y.heap.size) :
    y'.cell? ⟨q4, o, none⟩ = some u ∧ y'.cell? ⟨q4, o', none⟩ = some v ∧ y'.cell? ⟨b, c, none⟩ = some u' ∧ y'.cell? ⟨b, c', none⟩ = some v' :=
  ⟨(hb.cell (p := ⟨q4, _, none⟩) h1).trans h.1, (hb.cell (p := ⟨q4, _, none⟩) h1).trans h.2.1, (hb.cell (p := ⟨b, _, none⟩) h2).trans h.2.2.1, (hb.cell (p := ⟨b, _, none⟩) h2).trans h.2.2.2⟩
theorem stepC2 {y y' : World} {ob : Obj} {q4 b c c' o o' : Nat} {u v u' v' : Value} (h : y.cell? ⟨q4, o, none⟩ = some u ∧ y.cell? ⟨q4, o', none⟩ = some v ∧ y.cell? ⟨b, c, none⟩ = some u' ∧ y.cell? ⟨b, c', none⟩ = some v') (hb : Below (y.alloc ob).drew.heap.size (y.alloc ob).drew y') (h1 : q4 < y.heap.size) (h2 : b < y.heap.size) :
    y'.cell? ⟨q4, o, none⟩ = some u ∧ y'.cell? ⟨q4, o', none⟩ = some v ∧ y'.cell? ⟨b, c, none⟩ = some u' ∧ y'.cell? ⟨b, c', none⟩ = some v' :=
  stepC h (((Below.refl _ _).alloc (Nat.le_refl _) ob).drew.trans (hb.mono (by simp))) h1 h2
theorem stepC1 {y y' : World} {q4 b c c' o o' : Nat} {u v u' v' : Value} (h : y.cell? ⟨q4, o, none⟩ = some u ∧ y.cell? ⟨q4, o', none⟩ = some v ∧ y.cell? ⟨b, c, none⟩ = some u' ∧ y.cell? ⟨b, c', none⟩ = some v') (hb : Below y.drew.heap.size y.drew y') (h1 : q4 < y.heap.size) (h2 : b < y.heap.size) :
    y'.cell? ⟨q4, o, none⟩ = some u ∧ y'.cell? ⟨q4, o', none⟩ = some v ∧ y'.cell? ⟨b, c, none⟩ = some u' ∧ y'.cell? ⟨b, c', none⟩ = some v' :=
  stepC h ((Below.refl _ _).drew.trans hb) h1 h2
theorem cell_far {y : World} {q o : Nat} {p p' : Addr} {u v x : Value} (h : y.cell? ⟨q, o, none⟩ = some u) (h1 : q ≠ p.block) (h2 : q ≠ p'.block) : ((y.setCell p v).setCell p' x).cell? ⟨q, o, none⟩ = some u :=
  (World.cell?_of_block (a := ⟨q, o, none⟩) ((Below.heap_setCell _ p' x q h2).trans (Below.heap_setCell _ p v q h1))).trans h
theorem setC {y : World} {p p' : Addr} {x z : Value} {q4 b c c' o o' : Nat} {u v u' v' : Value} (h : y.cell? ⟨q4, o, none⟩ = some u ∧ y.cell? ⟨q4, o', none⟩ = some v ∧ y.cell? ⟨b, c, none⟩ = some u' ∧ y.cell? ⟨b, c', none⟩ = some v')
    (h1 : q4 ≠ p.block) (h2 : b ≠ p.block) (h3 : q4 ≠ p'.block) (h4 : b ≠ p'.block) :
    ((y.setCell p x).setCell p' z).cell? ⟨q4, o, none⟩ = some u ∧ ((y.setCell p x).setCell p' z).cell? ⟨q4, o', none⟩ = some v ∧ ((y.setCell p x).setCell p' z).cell? ⟨b, c, none⟩ = some u' ∧ ((y.setCell p x).setCell p' z).cell? ⟨b, c', none⟩ = some v' :=
  ⟨cell_far h.1 h1 h3, cell_far h.2.1 h1 h3, cell_far h.2.2.1 h2 h4, cell_far h.2.2.2 h2 h4⟩
def OutG (w : World) (x y e : Int) (en : Ending) (w' : World) : Prop := en = .returned (.tuple #[.agg #[.int .i64 x, .int .i64 y], .int .i64 e]) ∧ Below w.heap.size w w'
def SumI (w wr : World) (l : List Fr) (k : Nat) (s : Fr) (q4 q2 : Nat) : Prop := FrOk s ∧ sumF l = sumFrom s (l.drop k) ∧ Bxs w wr [(q4, s), (q2, ⟨0, 0⟩)]

set_option maxHeartbeats 8000000 in
set_option maxRecDepth 100000 in
theorem int_any (w : World) (n : Int) : Calls Tryd.prog 46 #[.int .i64 n] w (OutB w (frV ⟨n, 1⟩)) := by
  go_enter Tryd.func46, Tryd.ntmps46
  go_wp2_with fail
  refine bodyPost_ret (v := frV ⟨n, 1⟩) (by simp [results, Tryd.results46, go_sem, frV]) rfl ?_
  exact ⟨rfl, by go_grown⟩

set_option maxHeartbeats 8000000 in
set_option maxRecDepth 100000 in
theorem sum_any (w : World) (A : Option Addr) (cap : Nat) (l : List Fr) (hl : (l.length : Int) ≤ 1073741824) (hf : ∀ x ∈ l, FI x) (hs : FrS w A l) :
    Calls Tryd.prog 32 #[.slice A l.length cap] w (OutF w (sumF l)) := by
  have HF := Lib.hid hf
  have HS := Lib.hid hs
  clear hf hs
  go_enter Tryd.func32, Tryd.ntmps32
  go_wp2_with fail
  have HX := Lib.hid (show Bxs w ((w.alloc (.cells #[.int .i64 0, .int .i64 0] 23)).alloc (.cells #[.int .i64 0, .int .i64 1] 23)) _ from Bxs.two w ⟨0, 0⟩ ⟨0, 1⟩)
  generalize (w.alloc (.cells #[.int .i64 0, .int .i64 0] 23)).alloc (.cells #[.int .i64 0, .int .i64 1] 23) = w0 at *
  go_loopw [12] (fun i wr => ∃ (k : Nat) (s : Fr), k ≤ l.length ∧ i = .int .i64 k ∧ Hid (SumI w wr l k s (w.heap.size + 1) w.heap.size)) (fun i _ => l.length - (intOf i).toNat)
  case atStart => exact ⟨0, ⟨0, 1⟩, Nat.zero_le _, rfl, by decide, rfl, HX.out⟩
  case round =>
    clear HX
    obtain ⟨k, ⟨s, t⟩, hk, rfl, HI⟩ := hrel
    have HX := Lib.hid HI.out.2.2
    have HSr := Lib.hid (HS.out.keep HX.out.below)
    have hc := HX.out.cells
    simp only [BCells] at hc
    have hz := HX.out.froz
    by_cases hlk : k < l.length
    rotate_left
    focus
      have HR : Hid (sumF l = (⟨s, t⟩, 0)) := by
        unfold Hid
        rw [HI.out.2.1, List.drop_eq_nil_of_le (by omega)]
        rfl
      have hz2 := HX.out.drop1.froz
      go_wp2_with fail
      refine bodyPost_ret (v := .tuple #[frV ⟨s, t⟩, .int .i64 0]) (by simp [results, Tryd.results32, go_sem, frV, hc, hz2]) rfl ?_
      rw [HR.out]
      refine ⟨rfl, ?_⟩
      have hb := HX.out.below
      clear HX HSr hc hz hz2
      go_grown
    have HD := Lib.hid (drop_cons hlk)
    have hfi := HF.out _ (List.getElem_mem hlk)
    obtain ⟨b, o, n, d, rfl, hbl, hlf, p0, p1⟩ := HSr.out.at k hlk
    rw [hlf] at HD hfi
    have HFI := Lib.hid hfi
    clear hlf hfi
    have HOK := Lib.hid HI.out.1
    obtain ⟨⟨⟨x, y⟩, e⟩, hx⟩ : ∃ r, addF ⟨s, t⟩ ⟨n, d⟩ = r := ⟨_, rfl⟩
    have HA := Lib.hid hx
    have CA := Lib.hid (fun w => add_any w ⟨s, t⟩ ⟨n, d⟩ HOK.out.fi HFI.out)
    rw [hx] at CA
    clear hx
    unfold frV at CA
    have CG : Hid (∀ w, Calls Tryd.prog 15 #[.agg #[.int .i64 s, .int .i64 t], .agg #[.int .i64 n, .int .i64 d]] w (OutG w x y e)) := fun w => (CA.out w).mono (fun _ _ h => h)
    by_cases he : e = 0
    rotate_left
    focus
      have t1 : (e == 0) = false := beq_eq_false_iff_ne.2 he
      have t2 : (e != 0) = true := bne_iff_ne.2 he
      have HR : Hid (sumF l = (⟨0, 0⟩, e)) := by
        unfold Hid
        rw [HI.out.2.1, HD.out, sumFrom_cons_no HA.out he]
      clear he
      go_wp2_with fail
      replace HX := Lib.hid (show Bxs w (wr.alloc (.cells #[.int .i64 n, .int .i64 d] 23)) _ from HX.out.new ⟨n, d⟩)
      clear hc hz p0 p1
      generalize wr.alloc (.cells #[.int .i64 n, .int .i64 d] 23) = w2 at *
      refine (CA.out _).mono ?_
      rintro e9 wc ⟨rfl, hb⟩
      unfold frV
      replace HX := Lib.hid (HX.out.keep hb)
      clear hb
      have hc := HX.out.drop1.cells
      simp only [BCells] at hc
      have hz2 := HX.out.drop1.drop1.froz
      go_wp2_with fail
      refine bodyPost_ret (v := .tuple #[frV ⟨0, 0⟩, .int .i64 e]) (by simp [results, Tryd.results32, go_sem, frV, hc, hz2]) rfl ?_
      rw [HR.out]
      refine ⟨rfl, ?_⟩
      have hb := HX.out.below
      clear HX HSr hc hz2
      exact ((hb.setCell (Nat.le_refl _) _).setCell (Nat.le_refl _) _).alloc (by have := hb.size; simpa using this) _
    subst he
    have HR : Hid (sumF l = sumFrom ⟨x, y⟩ (l.drop (k + 1))) := by
      unfold Hid
      rw [HI.out.2.1, HD.out, sumFrom_cons_ok HA.out]
    have HOK2 := Lib.hid (addF_fi HA.out)
    go_wp2_with fail
    replace HX := Lib.hid (show Bxs w (wr.alloc (.cells #[.int .i64 n, .int .i64 d] 23)) _ from HX.out.new ⟨n, d⟩)
    clear hc hz p0 p1
    generalize wr.alloc (.cells #[.int .i64 n, .int .i64 d] 23) = w2 at *
    refine (CA.out _).mono ?_
    rintro e9 wc ⟨rfl, hb⟩
    unfold frV
    replace HX := Lib.hid (HX.out.keep hb)
    clear hb
    have hc := HX.out.drop1.cells
    simp only [BCells] at hc
    have hz := HX.out.drop1.froz
    go_wp2_with fail
    replace HX := Lib.hid (show Bxs w (((wc.setCell ⟨(w.heap.size + 1), 0, none⟩ (.int .i64 x)).setCell ⟨(w.heap.size + 1), 1, none⟩ (.int .i64 y)).alloc (.cells #[.int .i64 x, .int .i64 y] 23)) _ from ((HX.out.drop1.put x y).new ⟨x, y⟩).drop1)
    go_roundw
    case rel => exact ⟨k + 1, ⟨x, y⟩, by omega, by go_num, HOK2.out, HR.out, HX.out⟩
    case measure => simp [intOf]; omega

set_option maxHeartbeats 8000000 in
set_option maxRecDepth 100000 in
theorem rsum_any (w : World) (A : Option Addr) (cap : Nat) (l : List Fr) (hl : (l.length : Int) ≤ 1073741824) (hf : ∀ x ∈ l, FI x) (hs : FrS w A l) :
    Calls Tryd.prog 34 #[.slice A l.length cap] w (OutF w (sumF l)) := by
  have HF := Lib.hid hf
  have HS := Lib.hid hs
  clear hf hs
  go_enter Tryd.func34, Tryd.ntmps34
  go_wp2_with fail
  have HX := Lib.hid (show Bxs w (w.alloc (.cells #[.int .i64 0, .int .i64 0] 23)) _ from Bxs.one w ⟨0, 0⟩)
  generalize hw0 : w.alloc (.cells #[.int .i64 0, .int .i64 0] 23) = w0 at *
  have HW0 := Lib.hid hw0
  clear hw0
  refine (int_any w0 0).mono ?_
  rintro e9 w1 ⟨rfl, hb⟩
  unfold frV
  replace HX := Lib.hid (show Bxs w (w1.alloc (.cells #[.int .i64 0, .int .i64 1] 23)) _ from HX.out.step hb ⟨0, 1⟩)
  clear hb HW0
  go_wp2_with fail
  generalize w1.alloc (.cells #[.int .i64 0, .int .i64 1] 23) = w0 at *
  generalize w1.heap.size = q4 at *
  go_loopw [11] (fun i wr => ∃ (k : Nat) (s : Fr), k ≤ l.length ∧ i = .int .i64 k ∧ Hid (SumI w wr l k s q4 w.heap.size)) (fun i _ => l.length - (intOf i).toNat)
  case atStart => exact ⟨0, ⟨0, 1⟩, Nat.zero_le _, rfl, by decide, rfl, HX.out⟩
  case round =>
    clear HX
    obtain ⟨k, ⟨s, t⟩, hk, rfl, HI⟩ := hrel
    have HX := Lib.hid HI.out.2.2
    have HSr := Lib.hid (HS.out.keep HX.out.below)
    have hc := HX.out.cells
    simp only [BCells] at hc
    have hz := HX.out.froz
    by_cases hlk : k < l.length
    rotate_left
    focus
      have HR : Hid (sumF l = (⟨s, t⟩, 0)) := by
        unfold Hid
        rw [HI.out.2.1, List.drop_eq_nil_of_le (by omega)]
        rfl
      have hz2 := HX.out.drop1.froz
      go_wp2_with fail
      refine bodyPost_ret (v := .tuple #[frV ⟨s, t⟩, .int .i64 0]) (by simp [results, Tryd.results34, go_sem, frV, hc, hz2]) rfl ?_
      rw [HR.out]
      refine ⟨rfl, ?_⟩
      have hb := HX.out.below
      clear HX HSr hc hz hz2
      go_grown
    have HD := Lib.hid (drop_cons hlk)
    have hfi := HF.out _ (List.getElem_mem hlk)
    obtain ⟨b, o, n, d, rfl, hbl, hlf, p0, p1⟩ := HSr.out.at k hlk
    rw [hlf] at HD hfi
    have HFI := Lib.hid hfi
    clear hlf hfi
    have HOK := Lib.hid HI.out.1
    obtain ⟨⟨⟨x, y⟩, e⟩, hx⟩ : ∃ r, addF ⟨s, t⟩ ⟨n, d⟩ = r := ⟨_, rfl⟩
    have HA := Lib.hid hx
    have CA := Lib.hid (fun w => doadd_any w ⟨s, t⟩ ⟨n, d⟩ HOK.out.fi HFI.out)
    rw [hx] at CA
    clear hx
    unfold frV at CA
    have CG : Hid (∀ w, Calls Tryd.prog 45 #[.int .u8 43, .agg #[.int .i64 s, .int .i64 t], .agg #[.int .i64 n, .int .i64 d]] w (OutG w x y e)) := fun w => (CA.out w).mono (fun _ _ h => h)
    by_cases he : e = 0
    rotate_left
    focus
      have t1 : (e == 0) = false := beq_eq_false_iff_ne.2 he
      have t2 : (e != 0) = true := bne_iff_ne.2 he
      have HR : Hid (sumF l = (⟨0, 0⟩, e)) := by
        unfold Hid
        rw [HI.out.2.1, HD.out, sumFrom_cons_no HA.out he]
      clear he
      go_wp2_with fail
      have hq4 : q4 < wr.heap.size := hc.2.2.1
      have hne1 : q4 ≠ wr.heap.size := Nat.ne_of_lt hq4
      have hne2 : b ≠ wr.heap.size := Nat.ne_of_lt hbl
      have HC := Lib.hid (show wr.cell? _ = _ ∧ wr.cell? _ = _ ∧ wr.cell? _ = _ ∧ wr.cell? _ = _ from ⟨hc.1, hc.2.1, p0, p1⟩)
      clear hc hz p0 p1
      go_region_held3 (fun y => y.cell? ⟨q4, 0, none⟩ = some (.int .i64 s) ∧ y.cell? ⟨q4, 1, none⟩ = some (.int .i64 t) ∧ y.cell? ⟨b, o + k * 2, none⟩ = some (.int .i64 n) ∧ y.cell? ⟨b, o + k * 2 + 1, none⟩ = some (.int .i64 d)) (first | (exact HC.out) | (exact stepC HC.out (Below.alloc2_ _) hq4 hbl) | (exact stepC ‹_ ∧ _ ∧ _ ∧ _› hb9 (by simp; omega) (by simp; omega)) | (exact setC hc9 hne1 hne2 hne1 hne2) | go_keep) ((go_at_call 45; (with_reducible refine (CG.out _).mono ?_); rintro e9 w9 ⟨rfl, hb9⟩; first | (have hc9 := stepC1 HC.out hb9 hq4 hbl) | (have hq9 := new_cells hb9; have hc9 := stepC2 HC.out hb9 hq4 hbl)))
      focus
        replace HX := Lib.hid (show Bxs w (w9.alloc (.cells #[.int .i64 x, .int .i64 y] 23)) _ from ((HX.out.drew 1).keep hb9).new ⟨x, y⟩)
        clear hb9 hc9
        try clear hq9
        generalize w9.alloc (.cells #[.int .i64 x, .int .i64 y] 23) = wc at *
        generalize hq6 : w9.heap.size = q6 at *
        have HQ6 := Lib.hid hq6
        clear hq6
        have hc := HX.out.cells
        simp only [BCells] at hc
        have hz2 := HX.out.drop1.drop1.froz
        go_wp2_with fail
        refine bodyPost_ret (v := .tuple #[frV ⟨0, 0⟩, .int .i64 e]) (by simp [results, Tryd.results34, go_sem, frV, hc, hz2]) rfl ?_
        rw [HR.out]
        refine ⟨rfl, ?_⟩
        have hb := HX.out.below
        clear HX HSr hc hz2
        exact (hb.setCell (Nat.le_refl _) _).setCell (Nat.le_refl _) _
      focus
        replace HX := Lib.hid (show Bxs w ((w9.setCell ⟨wr.heap.size, 0, none⟩ (.int .i64 x)).setCell ⟨wr.heap.size, 1, none⟩ (.int .i64 y)) _ from (((HX.out.new ⟨0, 0⟩).drew 1).keep hb9).put x y)
        clear hb9 hc9
        try clear hq9
        generalize (w9.setCell ⟨wr.heap.size, 0, none⟩ (.int .i64 x)).setCell ⟨wr.heap.size, 1, none⟩ (.int .i64 y) = wc at *
        generalize hq6 : wr.heap.size = q6 at *
        have HQ6 := Lib.hid hq6
        clear hq6
        have hc := HX.out.cells
        simp only [BCells] at hc
        have hz2 := HX.out.drop1.drop1.froz
        go_wp2_with fail
        refine bodyPost_ret (v := .tuple #[frV ⟨0, 0⟩, .int .i64 e]) (by simp [results, Tryd.results34, go_sem, frV, hc, hz2]) rfl ?_
        rw [HR.out]
        refine ⟨rfl, ?_⟩
        have hb := HX.out.below
        clear HX HSr hc hz2
        exact (hb.setCell (Nat.le_refl _) _).setCell (Nat.le_refl _) _
    subst he
    have HR : Hid (sumF l = sumFrom ⟨x, y⟩ (l.drop (k + 1))) := by
      unfold Hid
      rw [HI.out.2.1, HD.out, sumFrom_cons_ok HA.out]
    have HOK2 := Lib.hid (addF_fi HA.out)
    go_wp2_with fail
    have hq4 : q4 < wr.heap.size := hc.2.2.1
    have hne1 : q4 ≠ wr.heap.size := Nat.ne_of_lt hq4
    have hne2 : b ≠ wr.heap.size := Nat.ne_of_lt hbl
    have HC := Lib.hid (show wr.cell? _ = _ ∧ wr.cell? _ = _ ∧ wr.cell? _ = _ ∧ wr.cell? _ = _ from ⟨hc.1, hc.2.1, p0, p1⟩)
    clear hc hz p0 p1
    go_region_held3 (fun y => y.cell? ⟨q4, 0, none⟩ = some (.int .i64 s) ∧ y.cell? ⟨q4, 1, none⟩ = some (.int .i64 t) ∧ y.cell? ⟨b, o + k * 2, none⟩ = some (.int .i64 n) ∧ y.cell? ⟨b, o + k * 2 + 1, none⟩ = some (.int .i64 d)) (first | (exact HC.out) | (exact stepC HC.out (Below.alloc2_ _) hq4 hbl) | (exact stepC ‹_ ∧ _ ∧ _ ∧ _› hb9 (by simp; omega) (by simp; omega)) | (exact setC hc9 hne1 hne2 hne1 hne2) | go_keep) ((go_at_call 45; (with_reducible refine (CG.out _).mono ?_); rintro e9 w9 ⟨rfl, hb9⟩; first | (have hc9 := stepC1 HC.out hb9 hq4 hbl) | (have hq9 := new_cells hb9; have hc9 := stepC2 HC.out hb9 hq4 hbl)))
    focus
      replace HX := Lib.hid (show Bxs w (w9.alloc (.cells #[.int .i64 x, .int .i64 y] 23)) _ from ((HX.out.drew 1).keep hb9).new ⟨x, y⟩)
      clear hb9 hc9
      try clear hq9
      generalize w9.alloc (.cells #[.int .i64 x, .int .i64 y] 23) = wc at *
      generalize hq6 : w9.heap.size = q6 at *
      have HQ6 := Lib.hid hq6
      clear hq6
      have hc := HX.out.cells
      simp only [BCells] at hc
      have hz := HX.out.drop1.froz
      go_wp2_with fail
      replace HX := Lib.hid (show Bxs w ((wc.setCell ⟨q4, 0, none⟩ (.int .i64 x)).setCell ⟨q4, 1, none⟩ (.int .i64 y)) _ from HX.out.drop1.put x y)
      go_roundw
      case rel => exact ⟨k + 1, ⟨x, y⟩, by omega, by go_num, HOK2.out, HR.out, HX.out⟩
      case measure => simp [intOf]; omega
    focus
      replace HX := Lib.hid (show Bxs w ((w9.setCell ⟨wr.heap.size, 0, none⟩ (.int .i64 x)).setCell ⟨wr.heap.size, 1, none⟩ (.int .i64 y)) _ from (((HX.out.new ⟨0, 0⟩).drew 1).keep hb9).put x y)
      clear hb9 hc9
      try clear hq9
      generalize (w9.setCell ⟨wr.heap.size, 0, none⟩ (.int .i64 x)).setCell ⟨wr.heap.size, 1, none⟩ (.int .i64 y) = wc at *
      generalize hq6 : wr.heap.size = q6 at *
      have HQ6 := Lib.hid hq6
      clear hq6
      have hc := HX.out.cells
      simp only [BCells] at hc
      have hz := HX.out.drop1.froz
      go_wp2_with fail
      replace HX := Lib.hid (show Bxs w ((wc.setCell ⟨q4, 0, none⟩ (.int .i64 x)).setCell ⟨q4, 1, none⟩ (.int .i64 y)) _ from HX.out.drop1.put x y)
      go_roundw
      case rel => exact ⟨k + 1, ⟨x, y⟩, by omega, by go_num, HOK2.out, HR.out, HX.out⟩
      case measure => simp [intOf]; omega

end Go.Proofs.YtjobncfjebkcdaaDoor
