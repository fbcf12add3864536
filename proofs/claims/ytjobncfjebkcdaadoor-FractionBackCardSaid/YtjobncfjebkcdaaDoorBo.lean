/- The walk of the law FractionBack. -/
import Derived.Test.YtjobncfjebkcdaaDoorBn
namespace Go.Proofs.YtjobncfjebkcdaaDoor
open Go Go.RowKit Go.Shelf
set_option linter.unusedSimpArgs false

def Fou (w : World) (q p : Nat) (a b : Int) : Prop := w.cell? ⟨q, 0, none⟩ = some (.int .i64 a) ∧ w.cell? ⟨q, 1, none⟩ = some (.int .i64 b) ∧ w.cell? ⟨p, 0, none⟩ = some (.int .i64 a) ∧ w.cell? ⟨p, 1, none⟩ = some (.int .i64 b) ∧ q < w.heap.size ∧ p < w.heap.size
theorem four {w w0 : World} {q p : Nat} {a b : Int} {l : List (Nat × Fr)} (h : Bxs w0 w l) (m1 : (q, ⟨a, b⟩) ∈ l) (m2 : (p, ⟨a, b⟩) ∈ l) : Fou w q p a b := by
  have h1 := h.blk (q, ⟨a, b⟩) m1
  have h2 := h.blk (p, ⟨a, b⟩) m2
  exact ⟨(cells_two h1).1, (cells_two h1).2.1, (cells_two h2).1, (cells_two h2).2.1, heap_lt h1, heap_lt h2⟩
theorem keep_fou {w y : World} {q p : Nat} {a b : Int} (h : Fou w q p a b) (hb : Below w.heap.size w y) : y.cell? ⟨q, 0, none⟩ = some (.int .i64 a) ∧ y.cell? ⟨q, 1, none⟩ = some (.int .i64 b) ∧ y.cell? ⟨p, 0, none⟩ = some (.int .i64 a) ∧ y.cell? ⟨p, 1, none⟩ = some (.int .i64 b) ∧ Hid (Below w.heap.size w y) := by
  obtain ⟨h1, h2, h3, h4, h5, h6⟩ := h
  exact ⟨(hb.cell (p := ⟨q, 0, none⟩) h5).trans h1, (hb.cell (p := ⟨q, 1, none⟩) h5).trans h2, (hb.cell (p := ⟨p, 0, none⟩) h6).trans h3, (hb.cell (p := ⟨p, 1, none⟩) h6).trans h4, hb⟩
theorem last_fou {a b c d e : Prop} (h : a ∧ b ∧ c ∧ d ∧ Hid e) : e := h.2.2.2.2
theorem text_size {f : Fr} (hf : FI f) : (⟨(textF f).toArray⟩ : ByteArray).size ≤ 50 := by
  have h1 := Lib.itoa_length_le f.num hf.1.1 hf.1.2
  have h2 := Lib.itoa_length_le f.den hf.2.1 hf.2.2
  show (textF f).toArray.size ≤ 50
  rw [List.size_toArray]
  unfold textF
  split
  · omega
  · simp; omega

set_option maxHeartbeats 8000000 in
set_option maxRecDepth 100000 in
theorem back_long (w : World) (fn fd : Int) (s : ByteArray) (t1 : decide ((100 : Int) < (s.size : Int)) = true) (HT : Hid (Tb w)) : Calls Tryd.prog 9 #[.agg #[.int .i64 fn, .int .i64 fd], .string s] w (YesP w) := by
  go_enter Tryd.func9, Tryd.ntmps9
  go_wp2_with fail
  have HX := Lib.hid (show Bxs w (w.alloc (.cells #[.int .i64 fn, .int .i64 fd] 23)) _ from Bxs.one w ⟨fn, fd⟩)
  generalize w.alloc (.cells #[.int .i64 fn, .int .i64 fd] 23) = w0 at *
  refine (awake_any w0 (HT.out.below HX.out.below)).mono ?_
  rintro e9 w1 ⟨rfl, hb⟩
  replace HX := Lib.hid (HX.out.keep hb)
  clear hb
  go_wp2_with fail
  go_ret
  exact ⟨rfl, HX.out.below⟩

set_option maxHeartbeats 8000000 in
set_option maxRecDepth 100000 in
theorem back_ff (w : World) (fn fd gn gd : Int) (s : ByteArray) (t1 : decide ((100 : Int) < (s.size : Int)) = false) (HT : Hid (Tb w)) (HE : Hid (Er w)) (P : Hid (∀ w, Tb w → Er w → Calls Tryd.prog 36 #[.string s] w (OutF w (⟨gn, gd⟩, 1)))) (R : Hid (∀ w, Calls Tryd.prog 37 #[.string s] w (OutF w (⟨gn, gd⟩, 1)))) (VF : Hid (∀ w, Calls Tryd.prog 13 #[.agg #[.int .i64 fn, .int .i64 fd]] w (OutB w (.bool false)))) : Calls Tryd.prog 9 #[.agg #[.int .i64 fn, .int .i64 fd], .string s] w (YesP w) := by
  go_enter Tryd.func9, Tryd.ntmps9
  go_wp2_with fail
  have HX := Lib.hid (show Bxs w (w.alloc (.cells #[.int .i64 fn, .int .i64 fd] 23)) _ from Bxs.one w ⟨fn, fd⟩)
  generalize w.alloc (.cells #[.int .i64 fn, .int .i64 fd] 23) = w0 at *
  refine (P.out w0 (HT.out.below HX.out.below) (HE.out.below HX.out.below)).mono ?_
  rintro e9 wc ⟨rfl, hb⟩
  unfold frV
  have hc := (HX.out.keep hb).cells
  simp only [BCells] at hc
  replace HX := Lib.hid (show Bxs w (wc.alloc (.cells #[.int .i64 gn, .int .i64 gd] 23)) _ from HX.out.step hb ⟨gn, gd⟩)
  clear hb
  go_wp2_with fail
  clear hc
  generalize wc.alloc (.cells #[.int .i64 gn, .int .i64 gd] 23) = w1 at *
  generalize wc.heap.size = q1 at *
  refine (R.out w1).mono ?_
  rintro e9 wc ⟨rfl, hb⟩
  unfold frV
  have hc := (HX.out.keep hb).cells
  simp only [BCells] at hc
  replace HX := Lib.hid (show Bxs w (wc.alloc (.cells #[.int .i64 gn, .int .i64 gd] 23)) _ from HX.out.step hb ⟨gn, gd⟩)
  clear hb
  go_wp2_with fail
  clear hc
  generalize wc.alloc (.cells #[.int .i64 gn, .int .i64 gd] 23) = w2 at *
  generalize wc.heap.size = q2 at *
  refine (VF.out w2 ).mono ?_
  rintro e9 w3 ⟨rfl, hb⟩
  replace HX := Lib.hid (HX.out.keep hb)
  clear hb
  have hc := HX.out.cells
  simp only [BCells] at hc
  go_wp2_with fail
  clear hc
  refine (awake_any w3 (HT.out.below HX.out.below)).mono ?_
  rintro e9 w4 ⟨rfl, hb⟩
  replace HX := Lib.hid (HX.out.keep hb)
  clear hb
  go_wp2_with fail
  go_ret
  exact ⟨rfl, HX.out.below⟩

set_option maxHeartbeats 8000000 in
set_option maxRecDepth 100000 in
theorem back_tf (w : World) (fn fd gn gd : Int) (s : ByteArray) (t1 : decide ((100 : Int) < (s.size : Int)) = false) (HT : Hid (Tb w)) (HE : Hid (Er w)) (P : Hid (∀ w, Tb w → Er w → Calls Tryd.prog 36 #[.string s] w (OutF w (⟨gn, gd⟩, 0)))) (R : Hid (∀ w, Calls Tryd.prog 37 #[.string s] w (OutF w (⟨gn, gd⟩, 0)))) (TG : Hid (∀ w, Tb w → Calls Tryd.prog 38 #[.agg #[.int .i64 gn, .int .i64 gd]] w (OutB w (.string s)))) (VF : Hid (∀ w, Calls Tryd.prog 13 #[.agg #[.int .i64 fn, .int .i64 fd]] w (OutB w (.bool false)))) : Calls Tryd.prog 9 #[.agg #[.int .i64 fn, .int .i64 fd], .string s] w (YesP w) := by
  go_enter Tryd.func9, Tryd.ntmps9
  go_wp2_with fail
  have HX := Lib.hid (show Bxs w (w.alloc (.cells #[.int .i64 fn, .int .i64 fd] 23)) _ from Bxs.one w ⟨fn, fd⟩)
  generalize w.alloc (.cells #[.int .i64 fn, .int .i64 fd] 23) = w0 at *
  refine (P.out w0 (HT.out.below HX.out.below) (HE.out.below HX.out.below)).mono ?_
  rintro e9 wc ⟨rfl, hb⟩
  unfold frV
  have hc := (HX.out.keep hb).cells
  simp only [BCells] at hc
  replace HX := Lib.hid (show Bxs w (wc.alloc (.cells #[.int .i64 gn, .int .i64 gd] 23)) _ from HX.out.step hb ⟨gn, gd⟩)
  clear hb
  go_wp2_with fail
  clear hc
  generalize wc.alloc (.cells #[.int .i64 gn, .int .i64 gd] 23) = w1 at *
  generalize wc.heap.size = q1 at *
  refine (R.out w1).mono ?_
  rintro e9 wc ⟨rfl, hb⟩
  unfold frV
  have hc := (HX.out.keep hb).cells
  simp only [BCells] at hc
  replace HX := Lib.hid (show Bxs w (wc.alloc (.cells #[.int .i64 gn, .int .i64 gd] 23)) _ from HX.out.step hb ⟨gn, gd⟩)
  clear hb
  go_wp2_with fail
  clear hc
  generalize wc.alloc (.cells #[.int .i64 gn, .int .i64 gd] 23) = w2 at *
  generalize wc.heap.size = q2 at *
  refine (TG.out w2 (HT.out.below HX.out.below)).mono ?_
  rintro e9 w3 ⟨rfl, hb⟩
  replace HX := Lib.hid (HX.out.keep hb)
  clear hb
  have hc := HX.out.cells
  simp only [BCells] at hc
  go_wp2_with fail
  clear hc
  refine (VF.out w3 ).mono ?_
  rintro e9 w4 ⟨rfl, hb⟩
  replace HX := Lib.hid (HX.out.keep hb)
  clear hb
  have hc := HX.out.cells
  simp only [BCells] at hc
  go_wp2_with fail
  clear hc
  refine (awake_any w4 (HT.out.below HX.out.below)).mono ?_
  rintro e9 w5 ⟨rfl, hb⟩
  replace HX := Lib.hid (HX.out.keep hb)
  clear hb
  go_wp2_with fail
  go_ret
  exact ⟨rfl, HX.out.below⟩

set_option maxHeartbeats 8000000 in
set_option maxRecDepth 100000 in
theorem back_ft (w : World) (fn fd gn gd : Int) (s : ByteArray) (t1 : decide ((100 : Int) < (s.size : Int)) = false) (HT : Hid (Tb w)) (HE : Hid (Er w)) (P : Hid (∀ w, Tb w → Er w → Calls Tryd.prog 36 #[.string s] w (OutF w (⟨gn, gd⟩, 1)))) (R : Hid (∀ w, Calls Tryd.prog 37 #[.string s] w (OutF w (⟨gn, gd⟩, 1)))) (VF : Hid (∀ w, Calls Tryd.prog 13 #[.agg #[.int .i64 fn, .int .i64 fd]] w (OutB w (.bool true)))) (tx : ByteArray) (TF : Hid (∀ w, Tb w → Calls Tryd.prog 38 #[.agg #[.int .i64 fn, .int .i64 fd]] w (OutB w (.string tx)))) (RT : Hid (∀ w, Calls Tryd.prog 39 #[.agg #[.int .i64 fn, .int .i64 fd]] w (OutB w (.string tx)))) (PT : Hid (∀ w, Tb w → Er w → Calls Tryd.prog 36 #[.string tx] w (OutF w (⟨fn, fd⟩, 0)))) : Calls Tryd.prog 9 #[.agg #[.int .i64 fn, .int .i64 fd], .string s] w (YesP w) := by
  go_enter Tryd.func9, Tryd.ntmps9
  go_wp2_with fail
  have HX := Lib.hid (show Bxs w (w.alloc (.cells #[.int .i64 fn, .int .i64 fd] 23)) _ from Bxs.one w ⟨fn, fd⟩)
  generalize w.alloc (.cells #[.int .i64 fn, .int .i64 fd] 23) = w0 at *
  refine (P.out w0 (HT.out.below HX.out.below) (HE.out.below HX.out.below)).mono ?_
  rintro e9 wc ⟨rfl, hb⟩
  unfold frV
  have hc := (HX.out.keep hb).cells
  simp only [BCells] at hc
  replace HX := Lib.hid (show Bxs w (wc.alloc (.cells #[.int .i64 gn, .int .i64 gd] 23)) _ from HX.out.step hb ⟨gn, gd⟩)
  clear hb
  go_wp2_with fail
  clear hc
  generalize wc.alloc (.cells #[.int .i64 gn, .int .i64 gd] 23) = w1 at *
  generalize wc.heap.size = q1 at *
  refine (R.out w1).mono ?_
  rintro e9 wc ⟨rfl, hb⟩
  unfold frV
  have hc := (HX.out.keep hb).cells
  simp only [BCells] at hc
  replace HX := Lib.hid (show Bxs w (wc.alloc (.cells #[.int .i64 gn, .int .i64 gd] 23)) _ from HX.out.step hb ⟨gn, gd⟩)
  clear hb
  go_wp2_with fail
  clear hc
  generalize wc.alloc (.cells #[.int .i64 gn, .int .i64 gd] 23) = w2 at *
  generalize wc.heap.size = q2 at *
  refine (VF.out w2 ).mono ?_
  rintro e9 w3 ⟨rfl, hb⟩
  replace HX := Lib.hid (HX.out.keep hb)
  clear hb
  have hc := HX.out.cells
  simp only [BCells] at hc
  go_wp2_with fail
  clear hc
  refine (TF.out w3 (HT.out.below HX.out.below)).mono ?_
  rintro e9 w4 ⟨rfl, hb⟩
  replace HX := Lib.hid (HX.out.keep hb)
  clear hb
  have hc := HX.out.cells
  simp only [BCells] at hc
  go_wp2_with fail
  clear hc
  refine (PT.out w4 (HT.out.below HX.out.below) (HE.out.below HX.out.below)).mono ?_
  rintro e9 wc ⟨rfl, hb⟩
  unfold frV
  have hc := (HX.out.keep hb).cells
  simp only [BCells] at hc
  replace HX := Lib.hid (show Bxs w (wc.alloc (.cells #[.int .i64 fn, .int .i64 fd] 23)) _ from HX.out.step hb ⟨fn, fd⟩)
  clear hb
  go_wp2_with fail
  clear hc
  generalize wc.alloc (.cells #[.int .i64 fn, .int .i64 fd] 23) = w5 at *
  generalize wc.heap.size = q5 at *
  have HZ := Lib.hid (show BCells w5 _ from HX.out.cells)
  have HI := Lib.hid (Below.refl w5.heap.size w5)
  have hB := HX.out.below
  have HTk := Lib.hid (HT.out.below hB)
  have HCT := Lib.hid (fun (y : World) (hy : Below w5.heap.size w5 y) => TF.out y (HTk.out.below hy))
  have HCA := Lib.hid (fun (y : World) (hy : Below w5.heap.size w5 y) => awake_any y (HTk.out.below hy))
  have HBk := Lib.hid hB
  have HC := Lib.hid (show Fou w5 q5 w.heap.size fn fd from four HX.out (by simp) (by simp))
  clear hB HX HZ
  go_region_held3 (fun y => y.cell? ⟨q5, 0, none⟩ = some (.int .i64 fn) ∧ y.cell? ⟨q5, 1, none⟩ = some (.int .i64 fd) ∧ y.cell? ⟨w.heap.size, 0, none⟩ = some (.int .i64 fn) ∧ y.cell? ⟨w.heap.size, 1, none⟩ = some (.int .i64 fd) ∧ Hid (Below w5.heap.size w5 y)) (first | (exact keep_fou HC.out (Below.drew HI.out)) | (exact keep_fou HC.out (Below.drew (last_fou ‹_ ∧ _ ∧ _ ∧ _ ∧ Hid _›))) | (exact keep_fou HC.out (trans_any (last_fou ‹_ ∧ _ ∧ _ ∧ _ ∧ Hid _›) hb9))) (first | (go_at_call 38; (with_reducible refine (HCT.out _ (last_fou ‹_ ∧ _ ∧ _ ∧ _ ∧ Hid _›)).mono ?_); rintro e9 w9 ⟨rfl, hb9⟩) | (go_at_call 39; (with_reducible refine (RT.out _).mono ?_); rintro e9 w9 ⟨rfl, hb9⟩) | (go_at_call 14; (with_reducible refine (HCA.out _ (last_fou ‹_ ∧ _ ∧ _ ∧ _ ∧ Hid _›)).mono ?_); rintro e9 w9 ⟨rfl, hb9⟩))
  all_goals
    have HF := Lib.hid (last_fou ‹_ ∧ _ ∧ _ ∧ _ ∧ Hid (Below w5.heap.size w5 w9)›)
    go_wp2_with fail
    go_ret
    exact ⟨rfl, HBk.out.trans (HF.out.mono HBk.out.size)⟩

set_option maxHeartbeats 8000000 in
set_option maxRecDepth 100000 in
theorem back_tt (w : World) (fn fd gn gd : Int) (s : ByteArray) (t1 : decide ((100 : Int) < (s.size : Int)) = false) (HT : Hid (Tb w)) (HE : Hid (Er w)) (P : Hid (∀ w, Tb w → Er w → Calls Tryd.prog 36 #[.string s] w (OutF w (⟨gn, gd⟩, 0)))) (R : Hid (∀ w, Calls Tryd.prog 37 #[.string s] w (OutF w (⟨gn, gd⟩, 0)))) (TG : Hid (∀ w, Tb w → Calls Tryd.prog 38 #[.agg #[.int .i64 gn, .int .i64 gd]] w (OutB w (.string s)))) (VF : Hid (∀ w, Calls Tryd.prog 13 #[.agg #[.int .i64 fn, .int .i64 fd]] w (OutB w (.bool true)))) (tx : ByteArray) (TF : Hid (∀ w, Tb w → Calls Tryd.prog 38 #[.agg #[.int .i64 fn, .int .i64 fd]] w (OutB w (.string tx)))) (RT : Hid (∀ w, Calls Tryd.prog 39 #[.agg #[.int .i64 fn, .int .i64 fd]] w (OutB w (.string tx)))) (PT : Hid (∀ w, Tb w → Er w → Calls Tryd.prog 36 #[.string tx] w (OutF w (⟨fn, fd⟩, 0)))) : Calls Tryd.prog 9 #[.agg #[.int .i64 fn, .int .i64 fd], .string s] w (YesP w) := by
  go_enter Tryd.func9, Tryd.ntmps9
  go_wp2_with fail
  have HX := Lib.hid (show Bxs w (w.alloc (.cells #[.int .i64 fn, .int .i64 fd] 23)) _ from Bxs.one w ⟨fn, fd⟩)
  generalize w.alloc (.cells #[.int .i64 fn, .int .i64 fd] 23) = w0 at *
  refine (P.out w0 (HT.out.below HX.out.below) (HE.out.below HX.out.below)).mono ?_
  rintro e9 wc ⟨rfl, hb⟩
  unfold frV
  have hc := (HX.out.keep hb).cells
  simp only [BCells] at hc
  replace HX := Lib.hid (show Bxs w (wc.alloc (.cells #[.int .i64 gn, .int .i64 gd] 23)) _ from HX.out.step hb ⟨gn, gd⟩)
  clear hb
  go_wp2_with fail
  clear hc
  generalize wc.alloc (.cells #[.int .i64 gn, .int .i64 gd] 23) = w1 at *
  generalize wc.heap.size = q1 at *
  refine (R.out w1).mono ?_
  rintro e9 wc ⟨rfl, hb⟩
  unfold frV
  have hc := (HX.out.keep hb).cells
  simp only [BCells] at hc
  replace HX := Lib.hid (show Bxs w (wc.alloc (.cells #[.int .i64 gn, .int .i64 gd] 23)) _ from HX.out.step hb ⟨gn, gd⟩)
  clear hb
  go_wp2_with fail
  clear hc
  generalize wc.alloc (.cells #[.int .i64 gn, .int .i64 gd] 23) = w2 at *
  generalize wc.heap.size = q2 at *
  refine (TG.out w2 (HT.out.below HX.out.below)).mono ?_
  rintro e9 w3 ⟨rfl, hb⟩
  replace HX := Lib.hid (HX.out.keep hb)
  clear hb
  have hc := HX.out.cells
  simp only [BCells] at hc
  go_wp2_with fail
  clear hc
  refine (VF.out w3 ).mono ?_
  rintro e9 w4 ⟨rfl, hb⟩
  replace HX := Lib.hid (HX.out.keep hb)
  clear hb
  have hc := HX.out.cells
  simp only [BCells] at hc
  go_wp2_with fail
  clear hc
  refine (TF.out w4 (HT.out.below HX.out.below)).mono ?_
  rintro e9 w5 ⟨rfl, hb⟩
  replace HX := Lib.hid (HX.out.keep hb)
  clear hb
  have hc := HX.out.cells
  simp only [BCells] at hc
  go_wp2_with fail
  clear hc
  refine (PT.out w5 (HT.out.below HX.out.below) (HE.out.below HX.out.below)).mono ?_
  rintro e9 wc ⟨rfl, hb⟩
  unfold frV
  have hc := (HX.out.keep hb).cells
  simp only [BCells] at hc
  replace HX := Lib.hid (show Bxs w (wc.alloc (.cells #[.int .i64 fn, .int .i64 fd] 23)) _ from HX.out.step hb ⟨fn, fd⟩)
  clear hb
  go_wp2_with fail
  clear hc
  generalize wc.alloc (.cells #[.int .i64 fn, .int .i64 fd] 23) = w6 at *
  generalize wc.heap.size = q6 at *
  have HZ := Lib.hid (show BCells w6 _ from HX.out.cells)
  have HI := Lib.hid (Below.refl w6.heap.size w6)
  have hB := HX.out.below
  have HTk := Lib.hid (HT.out.below hB)
  have HCT := Lib.hid (fun (y : World) (hy : Below w6.heap.size w6 y) => TF.out y (HTk.out.below hy))
  have HCA := Lib.hid (fun (y : World) (hy : Below w6.heap.size w6 y) => awake_any y (HTk.out.below hy))
  have HBk := Lib.hid hB
  have HC := Lib.hid (show Fou w6 q6 w.heap.size fn fd from four HX.out (by simp) (by simp))
  clear hB HX HZ
  go_region_held3 (fun y => y.cell? ⟨q6, 0, none⟩ = some (.int .i64 fn) ∧ y.cell? ⟨q6, 1, none⟩ = some (.int .i64 fd) ∧ y.cell? ⟨w.heap.size, 0, none⟩ = some (.int .i64 fn) ∧ y.cell? ⟨w.heap.size, 1, none⟩ = some (.int .i64 fd) ∧ Hid (Below w6.heap.size w6 y)) (first | (exact keep_fou HC.out (Below.drew HI.out)) | (exact keep_fou HC.out (Below.drew (last_fou ‹_ ∧ _ ∧ _ ∧ _ ∧ Hid _›))) | (exact keep_fou HC.out (trans_any (last_fou ‹_ ∧ _ ∧ _ ∧ _ ∧ Hid _›) hb9))) (first | (go_at_call 38; (with_reducible refine (HCT.out _ (last_fou ‹_ ∧ _ ∧ _ ∧ _ ∧ Hid _›)).mono ?_); rintro e9 w9 ⟨rfl, hb9⟩) | (go_at_call 39; (with_reducible refine (RT.out _).mono ?_); rintro e9 w9 ⟨rfl, hb9⟩) | (go_at_call 14; (with_reducible refine (HCA.out _ (last_fou ‹_ ∧ _ ∧ _ ∧ _ ∧ Hid _›)).mono ?_); rintro e9 w9 ⟨rfl, hb9⟩))
  all_goals
    have HF := Lib.hid (last_fou ‹_ ∧ _ ∧ _ ∧ _ ∧ Hid (Below w6.heap.size w6 w9)›)
    go_wp2_with fail
    go_ret
    exact ⟨rfl, HBk.out.trans (HF.out.mono HBk.out.size)⟩

theorem law_back (w : World) (f : Fr) (s : ByteArray) (hf : FI f) (_ : s.size ≤ 9223372036854775807) (ht : Tb w) (he : Er w) : Calls Tryd.prog 9 #[frV f, .string s] w (YesP w) := by
  obtain ⟨fn, fd⟩ := f
  by_cases hl : (100 : Int) < (s.size : Int)
  · exact back_long w fn fd s (by simpa using hl) (Lib.hid ht)
  have t1 : decide ((100 : Int) < (s.size : Int)) = false := by simpa using hl
  have hs : s.size ≤ 4294967280 := by omega
  have P0 := fun w ht he => parse_any w s hs ht he
  have R0 := fun w => rparse_any w s hs
  have V0 := fun w => rvalid_any w ⟨fn, fd⟩ hf
  have TF := Lib.hid (fun w ht => text_any w ⟨fn, fd⟩ hf ht)
  have RT := Lib.hid (fun w => rtext_any w ⟨fn, fd⟩ hf)
  have PT0 := fun w ht he => parse_any w ⟨(textF ⟨fn, fd⟩).toArray⟩ (Nat.le_trans (text_size hf) (by omega)) ht he
  rcases parse_cases s.data.toList with ⟨⟨gn, gd⟩, hg, htx, hp⟩ | ⟨hp, _⟩
  · rw [hp] at P0 R0
    have TG := Lib.hid (fun w ht => text_any w ⟨gn, gd⟩ hg.fi ht)
    rw [htx] at TG
    by_cases hv : FrOk ⟨fn, fd⟩
    · rw [show decide (FrOk ⟨fn, fd⟩) = true from by simp [hv]] at V0
      have hpt : parseF (⟨(textF ⟨fn, fd⟩).toArray⟩ : ByteArray).data.toList = (⟨fn, fd⟩, 0) := parse_text hv
      rw [hpt] at PT0
      exact back_tt w fn fd gn gd s t1 (Lib.hid ht) (Lib.hid he) (Lib.hid P0) (Lib.hid R0) TG (Lib.hid V0) _ TF RT (Lib.hid PT0)
    · rw [show decide (FrOk ⟨fn, fd⟩) = false from by simp [hv]] at V0
      exact back_tf w fn fd gn gd s t1 (Lib.hid ht) (Lib.hid he) (Lib.hid P0) (Lib.hid R0) TG (Lib.hid V0)
  · rw [hp] at P0 R0
    by_cases hv : FrOk ⟨fn, fd⟩
    · rw [show decide (FrOk ⟨fn, fd⟩) = true from by simp [hv]] at V0
      have hpt : parseF (⟨(textF ⟨fn, fd⟩).toArray⟩ : ByteArray).data.toList = (⟨fn, fd⟩, 0) := parse_text hv
      rw [hpt] at PT0
      exact back_ft w fn fd 0 0 s t1 (Lib.hid ht) (Lib.hid he) (Lib.hid P0) (Lib.hid R0) (Lib.hid V0) _ TF RT (Lib.hid PT0)
    · rw [show decide (FrOk ⟨fn, fd⟩) = false from by simp [hv]] at V0
      exact back_ff w fn fd 0 0 s t1 (Lib.hid ht) (Lib.hid he) (Lib.hid P0) (Lib.hid R0) (Lib.hid V0)
end Go.Proofs.YtjobncfjebkcdaaDoor
