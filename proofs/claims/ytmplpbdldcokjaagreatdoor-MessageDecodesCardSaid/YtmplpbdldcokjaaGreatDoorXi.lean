/- Merged texts: parser.Parse, Rule, Term, Terms. gameplayerplain.Term, Terms: equal values are reported equal. gameplayerplain.Rule, Rules: equal values are reported equal. -/
import Derived.Test.YtmplpbdldcokjaaGreatDoorXh
namespace Go.Proofs.YtmplpbdldcokjaaGreatDoor
/- parser.Parse, Rule, Term, Terms. -/
section
open Go Go.RowKit
set_option linter.unusedSimpArgs false

set_option maxHeartbeats 4000000 in
theorem pterm_any (w : World) (s : ByteArray) (hs : s.size ≤ 9223372036854775807) (hw : Wd w) :
    Calls Tryz.prog 57 #[.string s] w (OutP (VS TmV) (.agg #[.string ⟨#[]⟩, .slice none 0 0]) w (termRF s.data.toList)) := by
  have hb0 : Below w.heap.size w (w.alloc (.cells #[.string ⟨#[]⟩, .slice none 0 0] 25)) := (Below.refl _ _).alloc (Nat.le_refl _) _
  have HR := Lib.hid (read_term (w.alloc (.cells #[.string ⟨#[]⟩, .slice none 0 0] 25)) s hs (hw.below hb0 hw.1))
  have HB0 := Lib.hid hb0
  have HRES := Lib.hid (heap_alloc_new w (.cells #[.string ⟨#[]⟩, .slice none 0 0] 25))
  have hs0 : (w.alloc (.cells #[.string ⟨#[]⟩, .slice none 0 0] 25)).heap.size = w.heap.size + 1 := by simp
  clear hb0
  go_enter Tryz.func57, Tryz.ntmps57
  go_wp2_with fail
  generalize w.alloc (.cells #[.string ⟨#[]⟩, .slice none 0 0] 25) = w0 at *
  refine HR.out.mono ?_
  rintro e w1 ⟨hb, he⟩
  have HB := Lib.hid hb
  obtain ⟨a, aa, y, yy⟩ := cells_two ((hb.block _ (heap_lt HRES.out)).trans HRES.out)
  have HB2 := Lib.hid (HB0.out.trans (hb.mono (by omega)))
  cases hr : termRF s.data.toList with
  | err p k =>
    rw [show readF _ s.data.toList = _ from hr] at he
    have HF := Lib.hid hr
    clear hr hb
    subst he
    go_wp2_with fail
    refine bodyPost_ret (v := .tuple #[.agg #[.string ⟨#[]⟩, .slice none 0 0], .int .i64 p, .int .i64 k]) (by simp [results, Tryz.results57, go_sem, a, aa]) rfl ⟨(below_set (below_set HB2.out _ _ _ (Nat.le_refl _)) _ _ _ (Nat.le_refl _)), ?_⟩
    rw [HF.out]
  | ok l =>
    rw [show readF _ s.data.toList = _ from hr] at he
    have HF := Lib.hid hr
    clear hr
    have hsz := hb.size
    clear hb
    obtain ⟨v, rfl, x, rfl, hv⟩ := he
    obtain ⟨nm, A, cp, a0, rfl, rfl⟩ := hv.form
    have HV := Lib.hid hv
    clear hv
    go_wp2_with fail
    refine bodyPost_ret (v := .tuple #[.agg #[.string (bs nm), .slice A a0.length cp], .int .i64 0, .int .i64 0]) (by simp [results, Tryz.results57, go_sem, a, aa]) rfl ⟨(below_set (below_set HB2.out _ _ _ (Nat.le_refl _)) _ _ _ (Nat.le_refl _)), ?_⟩
    rw [HF.out]
    exact ⟨_, rfl, [.string (bs nm), .slice A a0.length cp], rfl, keeps_tm _ _ _ _ _ _ HV.out (fun b hb hlt => ⟨by omega, ((Below.heap_setCell _ _ _ _ (by simp; omega)).trans (Below.heap_setCell _ _ _ _ (by simp; omega)))⟩) (by simp)⟩


end
/- gameplayerplain.Term, Terms: equal values are reported equal. -/
section
open Go Go.RowKit
set_option linter.unusedSimpArgs false

def YesP (w : World) (e : Ending) (w' : World) : Prop := e = .returned (.bool true) ∧ Below w.heap.size w w'

set_option maxHeartbeats 4000000 in
set_option maxRecDepth 100000 in
theorem plTerms (w : World) (P P' : Nat → Prop) (A B : Option Addr) (n c1 c2 : Nat) (xs ys : List (List Value)) (hx : Arr w P A 2 xs) (hy : Arr w P' B 2 ys) (hxl : xs.length = n) (hyl : ys.length = n) (hn : n < 4611686018427387904)
    (hx2 : ∀ x ∈ xs, ∃ a b, x = [a, b]) (hy2 : ∀ y ∈ ys, ∃ a b, y = [a, b])
    (hc : ∀ (i : Nat) (x y : List Value), xs[i]? = some x → ys[i]? = some y → ∀ w', Below w.heap.size w w' → Calls Tryz.prog 25 #[.agg x.toArray, .agg y.toArray] w' (YesP w')) :
    Calls Tryz.prog 26 #[.slice A n c1, .slice B n c2] w (YesP w) := by
  have HC := Lib.hid hc
  have HX2 := Lib.hid hx2
  have HY2 := Lib.hid hy2
  have HX := Lib.hid hx
  have HY := Lib.hid hy
  clear hc hx2 hy2 hx hy
  go_enter Tryz.func26, Tryz.ntmps26
  go_wp2_with fail
  go_loopw [13] (fun i wr => ∃ k : Nat, k ≤ n ∧ i = .int .i64 k ∧ Hid (Below w.heap.size w wr)) (fun i _ => n - (intOf i).toNat)
  case atStart => exact ⟨0, by omega, rfl, Below.refl _ _⟩
  case round =>
    obtain ⟨k, hk, rfl, HB⟩ := hrel
    rcases Nat.lt_or_ge k n with hlt | hge
    · have hki : (k : Int) < (n : Int) := by omega
      obtain ⟨x, hxk⟩ : ∃ x, xs[k]? = some x := ⟨_, List.getElem?_eq_getElem (by omega)⟩
      obtain ⟨y, hyk⟩ : ∃ y, ys[k]? = some y := ⟨_, List.getElem?_eq_getElem (by omega)⟩
      obtain ⟨xa, xb, rfl⟩ := HX2.out x (List.mem_of_getElem? hxk)
      obtain ⟨ya, yb, rfl⟩ := HY2.out y (List.mem_of_getElem? hyk)
      obtain ⟨bA, oA, rfl, _, hlA, hcA⟩ := HX.out (by omega)
      obtain ⟨bB, oB, rfl, _, hlB, hcB⟩ := HY.out (by omega)
      have x0 := hcA k _ hxk 0 xa rfl
      have x1 := hcA k _ hxk 1 xb rfl
      have y0 := hcB k _ hyk 0 ya rfl
      have y1 := hcB k _ hyk 1 yb rfl
      have HX0 := Lib.hid (show wr.cell? ⟨bA, oA + k * 2, none⟩ = some xa from (HB.out.cell hlA).trans x0)
      have HX1 := Lib.hid (show wr.cell? ⟨bA, oA + k * 2 + 1, none⟩ = some xb from (HB.out.cell hlA).trans x1)
      have HY0 := Lib.hid (show wr.cell? ⟨bB, oB + k * 2, none⟩ = some ya from (HB.out.cell hlB).trans y0)
      have HY1 := Lib.hid (show wr.cell? ⟨bB, oB + k * 2 + 1, none⟩ = some yb from (HB.out.cell hlB).trans y1)
      have HCK := Lib.hid (HC.out k _ _ hxk hyk)
      have hk0 : (0 : Int) ≤ (k : Int) := by omega
      clear x0 x1 y0 y1 hcA hcB hxk hyk
      go_wp2_with fail
      refine region_tail 8 (by kernel_rfl) (by kernel_rfl) ?_
      have HBD := Lib.hid HB.out.drew
      have HCD := Lib.hid (HCK.out wr.drew HB.out.drew)
      have x0 : wr.drew.cell? ⟨bA, oA + k * 2, none⟩ = some xa := HX0.out
      have x1 : wr.drew.cell? ⟨bA, oA + k * 2 + 1, none⟩ = some xb := HX1.out
      have y0 : wr.drew.cell? ⟨bB, oB + k * 2, none⟩ = some ya := HY0.out
      have y1 : wr.drew.cell? ⟨bB, oB + k * 2 + 1, none⟩ = some yb := HY1.out
      clear HX0 HX1 HY0 HY1 HCK
      generalize wr.drew = wd at *
      simp only [List.take_succ_cons, List.take_zero, List.drop_succ_cons, List.drop_zero]
      repeat still_step
      refine wpStill_nil ?_
      go_wp2_with fail
      refine HCD.out.mono ?_
      rintro e w2 ⟨rfl, hb2⟩
      have HB2 := Lib.hid (HBD.out.trans (hb2.mono HBD.out.size))
      clear hb2 x0 x1 y0 y1
      go_wp2_with fail
      go_roundw
      case measure => simp [intOf]; omega
      case rel => exact ⟨k + 1, by omega, by first | rfl | (congr 1; omega), HB2.out⟩
    · have hkn : k = n := by omega
      subst hkn
      go_wp2_with fail
      refine bodyPost_ret (v := .bool true) (by simp [results, Tryz.results26, go_sem]) rfl ⟨rfl, HB.out⟩

/-- lists of arguments are not too long -/
inductive TmS : Tm → Prop
  | mk (nm : List UInt8) (l : List Tm) (hl : l.length < 4611686018427387904) (h : ∀ t ∈ l, TmS t) : TmS (.mk nm l)

theorem TmV.inv {w : World} {P : Nat → Prop} {x : List Value} {nm : List UInt8} {l : List Tm} (h : TmV w P x (.mk nm l)) :
    ∃ A cap xs, x = [.string (bs nm), .slice A l.length cap] ∧ xs.length = l.length ∧ Arr w P A 2 xs ∧ ∀ (i : Nat) (x : List Value) (t : Tm), xs[i]? = some x → l[i]? = some t → TmV w P x t := by
  cases h with
  | mk nm A cap l xs hl ha ht => exact ⟨A, cap, xs, rfl, hl, ha, ht⟩

set_option maxHeartbeats 4000000 in
set_option maxRecDepth 100000 in
theorem plTerm {t : Tm} (hs : TmS t) : ∀ (w : World) (P P' : Nat → Prop) (x y : List Value), TmV w P x t → TmV w P' y t → Calls Tryz.prog 25 #[.agg x.toArray, .agg y.toArray] w (YesP w) := by
  induction hs with
  | mk nm l hl h ih =>
    intro w P P' x y hx hy
    obtain ⟨A, c1, xs, rfl, hxl, hA, hxt⟩ := hx.inv
    obtain ⟨B, c2, ys, rfl, hyl, hB, hyt⟩ := hy.inv
    clear hx hy
    have hb : Below w.heap.size w ((w.alloc (.cells #[.string (bs nm), .slice A l.length c1] 25)).alloc (.cells #[.string (bs nm), .slice B l.length c2] 25)) := ((Below.refl _ _).alloc (Nat.le_refl _) _).alloc (by simp) _
    have hkp : ∀ (Q : Nat → Prop) (b : Nat), Q b → b < w.heap.size → Q b ∧ ((w.alloc (.cells #[.string (bs nm), .slice A l.length c1] 25)).alloc (.cells #[.string (bs nm), .slice B l.length c2] 25)).heap[b]? = w.heap[b]? := fun Q b hQ hlt => ⟨hQ, hb.block b hlt⟩
    have hC : Calls Tryz.prog 26 #[.slice A l.length c1, .slice B l.length c2] ((w.alloc (.cells #[.string (bs nm), .slice A l.length c1] 25)).alloc (.cells #[.string (bs nm), .slice B l.length c2] 25)) (YesP ((w.alloc (.cells #[.string (bs nm), .slice A l.length c1] 25)).alloc (.cells #[.string (bs nm), .slice B l.length c2] 25))) := by
      refine plTerms _ P P' A B l.length c1 c2 xs ys (hA.keep (hkp P) hb.size) (hB.keep (hkp P') hb.size) hxl hyl hl ?_ ?_ ?_
      · intro x hx
        obtain ⟨i, hi⟩ := List.mem_iff_getElem?.1 hx
        have hil : i < l.length := by rw [← hxl]; exact (List.getElem?_eq_some_iff.1 hi).1
        obtain ⟨nm', A', cap', l', rfl, _⟩ := (hxt i x _ hi (List.getElem?_eq_getElem hil)).form
        exact ⟨_, _, rfl⟩
      · intro x hx
        obtain ⟨i, hi⟩ := List.mem_iff_getElem?.1 hx
        have hil : i < l.length := by rw [← hyl]; exact (List.getElem?_eq_some_iff.1 hi).1
        obtain ⟨nm', A', cap', l', rfl, _⟩ := (hyt i x _ hi (List.getElem?_eq_getElem hil)).form
        exact ⟨_, _, rfl⟩
      · intro i x y hx hy w' hb'
        have hil : i < l.length := by rw [← hxl]; exact (List.getElem?_eq_some_iff.1 hx).1
        have hg := List.getElem?_eq_getElem hil
        have hb2 := hb.trans (hb'.mono hb.size)
        exact ih _ (List.mem_of_getElem? hg) w' P P' x y ((hxt i x _ hx hg).keep (fun b hQ hlt => ⟨hQ, hb2.block b hlt⟩) hb2.size) ((hyt i y _ hy hg).keep (fun b hQ hlt => ⟨hQ, hb2.block b hlt⟩) hb2.size)
    have HC := Lib.hid hC
    have HB := Lib.hid hb
    obtain ⟨e0, e1, _, _⟩ := cells_two ((Below.heap_alloc (w.alloc (.cells #[.string (bs nm), .slice A l.length c1] 25)) (.cells #[.string (bs nm), .slice B l.length c2] 25) w.heap.size (by simp)).trans (heap_alloc_new w _))
    have hs1 : (w.alloc (.cells #[.string (bs nm), .slice A l.length c1] 25)).heap.size = w.heap.size + 1 := by simp
    obtain ⟨z0, z1, _, _⟩ := cells_two (heap_alloc_new (w.alloc (.cells #[.string (bs nm), .slice A l.length c1] 25)) (.cells #[.string (bs nm), .slice B l.length c2] 25))
    rw [hs1] at z0 z1
    have heq : ((bs nm).toList == (bs nm).toList) = true := by simp
    clear hC hb hkp hA hB hxt hyt ih h hs1
    go_enter Tryz.func25, Tryz.ntmps25
    go_wp2_with fail
    refine HC.out.mono ?_
    rintro e w2 ⟨rfl, hb2⟩
    have HB2 := Lib.hid (HB.out.trans (hb2.mono HB.out.size))
    clear hb2 e0 e1 z0 z1
    go_wp2_with fail
    refine bodyPost_ret (v := .bool true) (by simp [results, Tryz.results25, go_sem]) rfl ⟨rfl, HB2.out⟩

end
/- gameplayerplain.Rule, Rules: equal values are reported equal. -/
section
open Go Go.RowKit
set_option linter.unusedSimpArgs false

structure RuS (r : Ru) : Prop where
  hd : TmS r.head
  len : r.body.length < 4611686018427387904
  at_ : ∀ l ∈ r.body, TmS l.atom


end
end Go.Proofs.YtmplpbdldcokjaaGreatDoor
