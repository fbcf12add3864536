/- The walks of Mean, of the program and of the reference. -/
import Derived.Test.YtjobncfjebkcdaaDoorFs
namespace Go.Proofs.YtjobncfjebkcdaaDoor
open Go Go.RowKit
set_option linter.unusedSimpArgs false

theorem meanF_nil : meanF [] = (⟨0, 0⟩, 13) := by unfold meanF; rw [if_pos rfl]
theorem meanF_err {l : List Fr} {e : Int} {x : Fr} (hn : l ≠ []) (h : sumF l = (x, e)) (he : e ≠ 0) : meanF l = (⟨0, 0⟩, e) := by unfold meanF; rw [if_neg hn, h, if_neg he]
theorem meanF_ok {l : List Fr} {x : Fr} (hn : l ≠ []) (h : sumF l = (x, 0)) : meanF l = divF x ⟨l.length, 1⟩ := by unfold meanF; rw [if_neg hn, h, if_pos rfl]
theorem sumF_fi {l : List Fr} {x : Fr} (h : sumF l = (x, 0)) : FrOk x := (sumFrom_ok l _ _ (by decide) h).1
theorem step2 {y y' : World} {q : Nat} {u v : Value} (h : y.cell? ⟨q, 0, none⟩ = some u ∧ y.cell? ⟨q, 1, none⟩ = some v) (hb : Below y.heap.size y y') (h1 : q < y.heap.size) :
    y'.cell? ⟨q, 0, none⟩ = some u ∧ y'.cell? ⟨q, 1, none⟩ = some v := ⟨(hb.cell (p := ⟨q, _, none⟩) h1).trans h.1, (hb.cell (p := ⟨q, _, none⟩) h1).trans h.2⟩
theorem set2 {y : World} {p p' : Addr} {x z : Value} {q : Nat} {u v : Value} (h : y.cell? ⟨q, 0, none⟩ = some u ∧ y.cell? ⟨q, 1, none⟩ = some v) (h1 : q ≠ p.block) (h3 : q ≠ p'.block) :
    ((y.setCell p x).setCell p' z).cell? ⟨q, 0, none⟩ = some u ∧ ((y.setCell p x).setCell p' z).cell? ⟨q, 1, none⟩ = some v := ⟨cell_far h.1 h1 h3, cell_far h.2 h1 h3⟩

set_option maxHeartbeats 8000000 in
set_option maxRecDepth 100000 in
theorem mean_any (w : World) (A : Option Addr) (cap : Nat) (l : List Fr) (hl : (l.length : Int) ≤ 1073741824) (hf : ∀ x ∈ l, FI x) (hs : FrS w A l) :
    Calls Tryd.prog 33 #[.slice A l.length cap] w (OutF w (meanF l)) := by
  by_cases hn : l = []
  focus
    subst hn
    clear hf hs hl
    have HR := Lib.hid meanF_nil
    go_enter Tryd.func33, Tryd.ntmps33
    go_wp2_with fail
    refine bodyPost_ret (v := .tuple #[frV ⟨0, 0⟩, .int .i64 13]) (by simp [results, Tryd.results33, go_sem, frV]) rfl ?_
    rw [HR.out]
    exact ⟨rfl, by go_grown⟩
  have SM := Lib.hid (fun (y : World) (hy : FrS y A l) => sum_any y A cap l hl hf hy)
  have HS := Lib.hid hs
  obtain ⟨⟨⟨x, y⟩, e⟩, hx⟩ : ∃ r, sumF l = r := ⟨_, rfl⟩
  rw [hx] at SM
  have hlen : ((l.length : Int) == 0) = false := beq_eq_false_iff_ne.2 (by have := List.length_pos_iff.2 hn; omega)
  have hlen2 : (l.length == 0) = false := beq_eq_false_iff_ne.2 (by have := List.length_pos_iff.2 hn; omega)
  by_cases he : e = 0
  rotate_left
  focus
    have t1 : (e == 0) = false := beq_eq_false_iff_ne.2 he
    have t2 : (e != 0) = true := bne_iff_ne.2 he
    have HR := Lib.hid (meanF_err hn hx he)
    clear hf hs hx hn he
    go_enter Tryd.func33, Tryd.ntmps33
    go_wp2_with fail
    have HX := Lib.hid (show Bxs w (w.alloc (.cells #[.int .i64 0, .int .i64 0] 23)) _ from Bxs.one w ⟨0, 0⟩)
    generalize w.alloc (.cells #[.int .i64 0, .int .i64 0] 23) = w0 at *
    have HS0 := Lib.hid (HS.out.keep HX.out.below)
    refine (SM.out w0 HS0.out).mono ?_
    rintro e9 wc ⟨rfl, hb⟩
    unfold frV
    replace HX := Lib.hid (HX.out.keep hb)
    clear hb HS0
    have hc := HX.out.cells
    simp only [BCells] at hc
    have hz := HX.out.froz
    go_wp2_with fail
    refine bodyPost_ret (v := .tuple #[frV ⟨0, 0⟩, .int .i64 e]) (by simp [results, Tryd.results33, go_sem, frV, hc, hz]) rfl ?_
    rw [HR.out]
    have hb := HX.out.below
    clear HX hc hz
    refine ⟨rfl, ?_⟩
    first | (exact ((hb.setCell (Nat.le_refl _) _).setCell (Nat.le_refl _) _).alloc (by have := hb.size; simpa using this) _) | (go_grown; done)
  subst he
  have hfi := (sumF_fi hx).fi
  have hlI : I64 (l.length : Int) := ⟨by omega, by omega⟩
  have CA := Lib.hid (fun w => quo_any w ⟨x, y⟩ ⟨l.length, 1⟩ hfi ⟨hlI, ⟨by simp, by simp⟩⟩)
  have HR := Lib.hid (meanF_ok hn hx)
  obtain ⟨⟨⟨m, d⟩, e⟩, hx2⟩ : ∃ r, divF ⟨x, y⟩ ⟨l.length, 1⟩ = r := ⟨_, rfl⟩
  rw [hx2] at CA HR
  unfold frV at CA
  have CG : Hid (∀ w, Calls Tryd.prog 18 #[.agg #[.int .i64 x, .int .i64 y], .agg #[.int .i64 l.length, .int .i64 1]] w (OutG w m d e)) := fun w => (CA.out w).mono (fun _ _ h => h)
  clear hf hs hx hn hx2 CA hfi hlI
  go_enter Tryd.func33, Tryd.ntmps33
  go_wp2_with fail
  have HX := Lib.hid (show Bxs w (w.alloc (.cells #[.int .i64 0, .int .i64 0] 23)) _ from Bxs.one w ⟨0, 0⟩)
  generalize w.alloc (.cells #[.int .i64 0, .int .i64 0] 23) = w0 at *
  have HS0 := Lib.hid (HS.out.keep HX.out.below)
  refine (SM.out w0 HS0.out).mono ?_
  rintro e9 wc ⟨rfl, hb⟩
  unfold frV
  replace HX := Lib.hid (HX.out.keep hb)
  clear hb HS0
  have hc := HX.out.cells
  simp only [BCells] at hc
  have hz := HX.out.froz
  go_wp2_with fail
  replace HX := Lib.hid (show Bxs w (wc.alloc (.cells #[.int .i64 x, .int .i64 y] 23)) _ from HX.out.new ⟨x, y⟩)
  clear hc hz
  generalize wc.alloc (.cells #[.int .i64 x, .int .i64 y] 23) = w2 at *
  refine (CG.out _).mono ?_
  rintro e9 w3 ⟨rfl, hb⟩
  replace HX := Lib.hid (HX.out.keep hb)
  clear hb
  have hc := HX.out.cells
  simp only [BCells] at hc
  have hz := HX.out.drop1.froz
  go_wp2_with fail
  refine bodyPost_ret (v := .tuple #[frV ⟨m, d⟩, .int .i64 e]) (by simp [results, Tryd.results33, go_sem, frV, hc, hz]) rfl ?_
  rw [HR.out]
  have hb := HX.out.below
  clear HX hc hz
  refine ⟨rfl, ?_⟩
  exact (hb.setCell (Nat.le_refl _) _).setCell (Nat.le_refl _) _

set_option maxHeartbeats 8000000 in
set_option maxRecDepth 100000 in
theorem rmean_any (w : World) (A : Option Addr) (cap : Nat) (l : List Fr) (hl : (l.length : Int) ≤ 1073741824) (hf : ∀ x ∈ l, FI x) (hs : FrS w A l) :
    Calls Tryd.prog 35 #[.slice A l.length cap] w (OutF w (meanF l)) := by
  by_cases hn : l = []
  focus
    subst hn
    clear hf hs hl
    have HR := Lib.hid meanF_nil
    go_enter Tryd.func35, Tryd.ntmps35
    go_wp2_with fail
    refine bodyPost_ret (v := .tuple #[frV ⟨0, 0⟩, .int .i64 13]) (by simp [results, Tryd.results35, go_sem, frV]) rfl ?_
    rw [HR.out]
    exact ⟨rfl, by go_grown⟩
  have SM := Lib.hid (fun (y : World) (hy : FrS y A l) => rsum_any y A cap l hl hf hy)
  have HS := Lib.hid hs
  obtain ⟨⟨⟨x, y⟩, e⟩, hx⟩ : ∃ r, sumF l = r := ⟨_, rfl⟩
  rw [hx] at SM
  have hlen : ((l.length : Int) == 0) = false := beq_eq_false_iff_ne.2 (by have := List.length_pos_iff.2 hn; omega)
  have hlen2 : (l.length == 0) = false := beq_eq_false_iff_ne.2 (by have := List.length_pos_iff.2 hn; omega)
  by_cases he : e = 0
  rotate_left
  focus
    have t1 : (e == 0) = false := beq_eq_false_iff_ne.2 he
    have t2 : (e != 0) = true := bne_iff_ne.2 he
    have HR := Lib.hid (meanF_err hn hx he)
    clear hf hs hx hn he
    go_enter Tryd.func35, Tryd.ntmps35
    go_wp2_with fail
    have HX := Lib.hid (show Bxs w (w.alloc (.cells #[.int .i64 0, .int .i64 0] 23)) _ from Bxs.one w ⟨0, 0⟩)
    generalize w.alloc (.cells #[.int .i64 0, .int .i64 0] 23) = w0 at *
    have HS0 := Lib.hid (HS.out.keep HX.out.below)
    refine (SM.out w0 HS0.out).mono ?_
    rintro e9 wc ⟨rfl, hb⟩
    unfold frV
    replace HX := Lib.hid (HX.out.keep hb)
    clear hb HS0
    have hc := HX.out.cells
    simp only [BCells] at hc
    have hz := HX.out.froz
    go_wp2_with fail
    refine bodyPost_ret (v := .tuple #[frV ⟨0, 0⟩, .int .i64 e]) (by simp [results, Tryd.results35, go_sem, frV, hc, hz]) rfl ?_
    rw [HR.out]
    have hb := HX.out.below
    clear HX hc hz
    refine ⟨rfl, ?_⟩
    first | (exact ((hb.setCell (Nat.le_refl _) _).setCell (Nat.le_refl _) _).alloc (by have := hb.size; simpa using this) _) | (go_grown; done)
  subst he
  have hfi := (sumF_fi hx).fi
  have hlI : I64 (l.length : Int) := ⟨by omega, by omega⟩
  have CA := Lib.hid (fun w => doquo_any w ⟨x, y⟩ ⟨l.length, 1⟩ hfi ⟨hlI, ⟨by simp, by simp⟩⟩)
  have HR := Lib.hid (meanF_ok hn hx)
  obtain ⟨⟨⟨m, d⟩, e⟩, hx2⟩ : ∃ r, divF ⟨x, y⟩ ⟨l.length, 1⟩ = r := ⟨_, rfl⟩
  rw [hx2] at CA HR
  unfold frV at CA
  have CG : Hid (∀ w, Calls Tryd.prog 45 #[.int .u8 47, .agg #[.int .i64 x, .int .i64 y], .agg #[.int .i64 l.length, .int .i64 1]] w (OutG w m d e)) := fun w => (CA.out w).mono (fun _ _ h => h)
  clear hf hs hx hn hx2 CA hfi hlI
  go_enter Tryd.func35, Tryd.ntmps35
  go_wp2_with fail
  have HX := Lib.hid (show Bxs w (w.alloc (.cells #[.int .i64 0, .int .i64 0] 23)) _ from Bxs.one w ⟨0, 0⟩)
  generalize w.alloc (.cells #[.int .i64 0, .int .i64 0] 23) = w0 at *
  have HS0 := Lib.hid (HS.out.keep HX.out.below)
  refine (SM.out w0 HS0.out).mono ?_
  rintro e9 wc ⟨rfl, hb⟩
  unfold frV
  replace HX := Lib.hid (HX.out.keep hb)
  clear hb HS0
  have hc := HX.out.cells
  simp only [BCells] at hc
  have hz := HX.out.froz
  go_wp2_with fail
  replace HX := Lib.hid (show Bxs w (wc.alloc (.cells #[.int .i64 x, .int .i64 y] 23)) _ from HX.out.new ⟨x, y⟩)
  clear hc hz
  generalize wc.alloc (.cells #[.int .i64 x, .int .i64 y] 23) = w2 at *
  generalize hq : wc.heap.size = q2 at *
  have HQ := Lib.hid hq
  clear hq
  have hc := HX.out.cells
  simp only [BCells] at hc
  have hq2 : q2 < w2.heap.size := hc.2.2.1
  have hne : q2 ≠ w.heap.size := by have := HX.out.ord; rw [List.pairwise_cons] at this; have := this.1 _ List.mem_cons_self; simp only at this; omega
  have HC := Lib.hid (show w2.cell? _ = _ ∧ w2.cell? _ = _ from ⟨hc.1, hc.2.1⟩)
  have HF := Lib.hid (HX.out.drew 1)
  have hz := HX.out.drop1.froz
  have hl2 : w.heap.size < w2.heap.size := hc.2.2.2.2.2.1
  have HC2 := Lib.hid (show w2.cell? ⟨w.heap.size, 0, none⟩ = some (.int .i64 0) ∧ w2.cell? ⟨w.heap.size, 1, none⟩ = some (.int .i64 0) from ⟨hc.2.2.2.1, hc.2.2.2.2.1⟩)
  clear hc hz
  have CI : Hid (∀ w, Calls Tryd.prog 46 #[.int .i64 l.length] w (OutB w (.agg #[.int .i64 l.length, .int .i64 1]))) := fun w => int_any w l.length
  go_region_held3 (fun z => z.cell? ⟨q2, 0, none⟩ = some (.int .i64 x) ∧ z.cell? ⟨q2, 1, none⟩ = some (.int .i64 y)) (first | (exact HC.out) | (exact step2 HC.out Below.drew1_ hq2) | (exact step2 ‹_ ∧ _› hb9 (by first | assumption | omega)) | (exact set2 ‹_ ∧ _› hne hne) | go_keep) (first | ((go_at_call 46; (with_reducible refine (CI.out _).mono ?_); rintro e9 w9 ⟨rfl, hb9⟩; have hs9 : q2 < w9.heap.size := Nat.lt_of_lt_of_le hq2 hb9.size; have HXI := Lib.hid (HF.out.keep hb9))) | ((go_at_call 45; (with_reducible refine (CG.out _).mono ?_); rintro e9 w9 ⟨rfl, hb9⟩; have HXD := Lib.hid (HXI.out.keep hb9); have hz9 := HXD.out.drop1.froz; have hc9 := HXD.out.drop1.cells; simp only [BCells] at hc9)))
  replace HX := HXD
  have hc := HX.out.cells
  simp only [BCells] at hc
  have hz := HX.out.drop1.froz
  clear HXI HF hc9 hz9
  go_wp2_with fail
  refine bodyPost_ret (v := .tuple #[frV ⟨m, d⟩, .int .i64 e]) (by simp [results, Tryd.results35, go_sem, frV, hc, hz]) rfl ?_
  rw [HR.out]
  have hb := HX.out.below
  clear HX hc hz
  refine ⟨rfl, ?_⟩
  exact (hb.setCell (Nat.le_refl _) _).setCell (Nat.le_refl _) _

end Go.Proofs.YtjobncfjebkcdaaDoor
