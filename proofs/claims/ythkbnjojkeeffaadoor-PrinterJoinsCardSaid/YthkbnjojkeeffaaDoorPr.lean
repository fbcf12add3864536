/- gameplayerplain.Rule, Rules: equal values are reported equal. -/
import Derived.Test.YthkbnjojkeeffaaDoorPl
namespace Go.Proofs.YthkbnjojkeeffaaDoor
open Go Go.RowKit
set_option linter.unusedSimpArgs false

set_option maxHeartbeats 4000000 in
set_option maxRecDepth 100000 in
theorem plRules (w : World) (P P' : Nat → Prop) (A B : Option Addr) (n c1 c2 : Nat) (xs ys : List (List Value)) (hx : Arr w P A 3 xs) (hy : Arr w P' B 3 ys) (hxl : xs.length = n) (hyl : ys.length = n) (hn : n < 4611686018427387904)
    (hx2 : ∀ x ∈ xs, ∃ a b c, x = [a, b, c]) (hy2 : ∀ y ∈ ys, ∃ a b c, y = [a, b, c])
    (hc : ∀ (i : Nat) (x y : List Value), xs[i]? = some x → ys[i]? = some y → ∀ w', Below w.heap.size w w' → Calls Tryd.prog 29 #[.agg x.toArray, .agg y.toArray] w' (YesP w')) :
    Calls Tryd.prog 27 #[.slice A n c1, .slice B n c2] w (YesP w) := by
  have HC := Lib.hid hc
  have HX2 := Lib.hid hx2
  have HY2 := Lib.hid hy2
  have HX := Lib.hid hx
  have HY := Lib.hid hy
  clear hc hx2 hy2 hx hy
  go_enter Tryd.func27, Tryd.ntmps27
  go_wp2_with fail
  go_loopw [13] (fun i wr => ∃ k : Nat, k ≤ n ∧ i = .int .i64 k ∧ Hid (Below w.heap.size w wr)) (fun i _ => n - (intOf i).toNat)
  case atStart => exact ⟨0, by omega, rfl, Below.refl _ _⟩
  case round =>
    obtain ⟨k, hk, rfl, HB⟩ := hrel
    rcases Nat.lt_or_ge k n with hlt | hge
    · have hki : (k : Int) < (n : Int) := by omega
      obtain ⟨x, hxk⟩ : ∃ x, xs[k]? = some x := ⟨_, List.getElem?_eq_getElem (by omega)⟩
      obtain ⟨y, hyk⟩ : ∃ y, ys[k]? = some y := ⟨_, List.getElem?_eq_getElem (by omega)⟩
      obtain ⟨xa, xb, xc, rfl⟩ := HX2.out x (List.mem_of_getElem? hxk)
      obtain ⟨ya, yb, yc, rfl⟩ := HY2.out y (List.mem_of_getElem? hyk)
      obtain ⟨bA, oA, rfl, _, hlA, hcA⟩ := HX.out (by omega)
      obtain ⟨bB, oB, rfl, _, hlB, hcB⟩ := HY.out (by omega)
      have x0 := hcA k _ hxk 0 xa rfl
      have x1 := hcA k _ hxk 1 xb rfl
      have x2 := hcA k _ hxk 2 xc rfl
      have y2 := hcB k _ hyk 2 yc rfl
      have y0 := hcB k _ hyk 0 ya rfl
      have y1 := hcB k _ hyk 1 yb rfl
      have HX0 := Lib.hid (show wr.cell? ⟨bA, oA + k * 3, none⟩ = some xa from (HB.out.cell hlA).trans x0)
      have HX1 := Lib.hid (show wr.cell? ⟨bA, oA + k * 3 + 1, none⟩ = some xb from (HB.out.cell hlA).trans x1)
      have HX2' := Lib.hid (show wr.cell? ⟨bA, oA + k * 3 + 2, none⟩ = some xc from (HB.out.cell hlA).trans x2)
      have HY2' := Lib.hid (show wr.cell? ⟨bB, oB + k * 3 + 2, none⟩ = some yc from (HB.out.cell hlB).trans y2)
      have HY0 := Lib.hid (show wr.cell? ⟨bB, oB + k * 3, none⟩ = some ya from (HB.out.cell hlB).trans y0)
      have HY1 := Lib.hid (show wr.cell? ⟨bB, oB + k * 3 + 1, none⟩ = some yb from (HB.out.cell hlB).trans y1)
      have HCK := Lib.hid (HC.out k _ _ hxk hyk)
      have hk0 : (0 : Int) ≤ (k : Int) := by omega
      clear x0 x1 x2 y0 y1 y2 hcA hcB hxk hyk
      go_wp2_with fail
      refine region_tail 8 (by kernel_rfl) (by kernel_rfl) ?_
      have HBD := Lib.hid HB.out.drew
      have HCD := Lib.hid (HCK.out wr.drew HB.out.drew)
      have x0 : wr.drew.cell? ⟨bA, oA + k * 3, none⟩ = some xa := HX0.out
      have x1 : wr.drew.cell? ⟨bA, oA + k * 3 + 1, none⟩ = some xb := HX1.out
      have y0 : wr.drew.cell? ⟨bB, oB + k * 3, none⟩ = some ya := HY0.out
      have y1 : wr.drew.cell? ⟨bB, oB + k * 3 + 1, none⟩ = some yb := HY1.out
      have x2 : wr.drew.cell? ⟨bA, oA + k * 3 + 2, none⟩ = some xc := HX2'.out
      have y2 : wr.drew.cell? ⟨bB, oB + k * 3 + 2, none⟩ = some yc := HY2'.out
      clear HX0 HX1 HY0 HY1 HCK HX2' HY2'
      generalize wr.drew = wd at *
      simp only [List.take_succ_cons, List.take_zero, List.drop_succ_cons, List.drop_zero]
      repeat still_step
      refine wpStill_nil ?_
      go_wp2_with fail
      refine HCD.out.mono ?_
      rintro e w2 ⟨rfl, hb2⟩
      have HB2 := Lib.hid (HBD.out.trans (hb2.mono HBD.out.size))
      clear hb2 x0 x1 x2 y0 y1 y2
      go_wp2_with fail
      go_roundw
      case measure => simp [intOf]; omega
      case rel => exact ⟨k + 1, by omega, by first | rfl | (congr 1; omega), HB2.out⟩
    · have hkn : k = n := by omega
      subst hkn
      go_wp2_with fail
      refine bodyPost_ret (v := .bool true) (by simp [results, Tryd.results27, go_sem]) rfl ⟨rfl, HB.out⟩


structure RuS (r : Ru) : Prop where
  hd : TmS r.head
  len : r.body.length < 4611686018427387904
  at_ : ∀ l ∈ r.body, TmS l.atom

set_option maxHeartbeats 8000000 in
set_option maxRecDepth 100000 in
theorem plRule {r : Ru} (hs : RuS r) (w : World) (P P' : Nat → Prop) (x y : List Value) (hx : RuV w P x r) (hy : RuV w P' y r) :
    Calls Tryd.prog 29 #[.agg x.toArray, .agg y.toArray] w (YesP w) := by
  obtain ⟨hxs, A, c1, rfl, hxh, xs, hxl, hxA, hxt⟩ := hx
  obtain ⟨hys, B, c2, rfl, hyh, ys, hyl, hyA, hyt⟩ := hy
  obtain ⟨nm, A0, c3, a0, rfl, hre⟩ := hxh.form
  obtain ⟨nm2, B0, c4, b0, rfl, hre2⟩ := hyh.form
  have hb : Below w.heap.size w ((w.alloc (.cells #[.string (bs nm), .slice A0 a0.length c3, .slice A r.body.length c1] 27)).alloc (.cells #[.string (bs nm2), .slice B0 b0.length c4, .slice B r.body.length c2] 27)) := ((Below.refl _ _).alloc (Nat.le_refl _) _).alloc (by simp) _
  obtain ⟨p0, p1, p2, _, _, _⟩ := cells_three ((Below.heap_alloc (w.alloc (.cells #[.string (bs nm), .slice A0 a0.length c3, .slice A r.body.length c1] 27)) (.cells #[.string (bs nm2), .slice B0 b0.length c4, .slice B r.body.length c2] 27) w.heap.size (by simp)).trans (heap_alloc_new w _))
  have hs1 : (w.alloc (.cells #[.string (bs nm), .slice A0 a0.length c3, .slice A r.body.length c1] 27)).heap.size = w.heap.size + 1 := by simp
  have hs2 : ((w.alloc (.cells #[.string (bs nm), .slice A0 a0.length c3, .slice A r.body.length c1] 27)).alloc (.cells #[.string (bs nm2), .slice B0 b0.length c4, .slice B r.body.length c2] 27)).heap.size = w.heap.size + 2 := by simp
  obtain ⟨q0, q1, q2, _, _, _⟩ := cells_three (heap_alloc_new (w.alloc (.cells #[.string (bs nm), .slice A0 a0.length c3, .slice A r.body.length c1] 27)) (.cells #[.string (bs nm2), .slice B0 b0.length c4, .slice B r.body.length c2] 27))
  rw [hs1] at q0 q1 q2
  have HB0 := Lib.hid hb
  have HS2 := Lib.hid hs2
  have hn := hs.len
  have HAT := Lib.hid hs.at_
  have hhd : Calls Tryd.prog 48 #[.agg #[.string (bs nm), .slice A0 a0.length c3], .agg #[.string (bs nm2), .slice B0 b0.length c4]] ((w.alloc (.cells #[.string (bs nm), .slice A0 a0.length c3, .slice A r.body.length c1] 27)).alloc (.cells #[.string (bs nm2), .slice B0 b0.length c4, .slice B r.body.length c2] 27)) _ :=
    plTerm hs.hd _ P P' _ _ (hxh.keep (fun b hQ hlt => ⟨hQ, hb.block b hlt⟩) hb.size) (hyh.keep (fun b hQ hlt => ⟨hQ, hb.block b hlt⟩) hb.size)
  have HHD := Lib.hid hhd
  have HXA := Lib.hid hxA
  have HYA := Lib.hid hyA
  have HXT := Lib.hid hxt
  have HYT := Lib.hid hyt
  clear hb hs1 hs2 hhd hxA hyA hxt hyt hxh hyh hs
  go_enter Tryd.func29, Tryd.ntmps29
  go_wp2_with fail
  generalize (w.alloc (.cells #[.string (bs nm), .slice A0 a0.length c3, .slice A r.body.length c1] 27)).alloc (.cells #[.string (bs nm2), .slice B0 b0.length c4, .slice B r.body.length c2] 27) = w0 at *
  refine HHD.out.mono ?_
  rintro e w1 ⟨rfl, hb1⟩
  have hsw := HS2.out
  have HP2 := Lib.hid p2
  have HQ2 := Lib.hid q2
  have pp2 := (hb1.cell (p := ⟨w.heap.size, 2, none⟩) (by simp; omega)).trans p2
  have qq2 := (hb1.cell (p := ⟨w.heap.size + 1, 2, none⟩) (by simp; omega)).trans q2
  have HB1 := Lib.hid hb1
  clear p0 p1 p2 q0 q1 q2 hb1 HHD
  go_wp2_with fail
  clear pp2 qq2
  go_loopw [24] (fun i wr => ∃ k : Nat, k ≤ r.body.length ∧ i = .int .i64 k ∧ Hid (Below w0.heap.size w0 wr)) (fun i _ => r.body.length - (intOf i).toNat)
  case atStart => exact ⟨0, by omega, rfl, HB1.out⟩
  case round =>
    obtain ⟨k, hk, rfl, HB⟩ := hrel
    clear HB1 w1
    rcases Nat.lt_or_ge k r.body.length with hlt | hge
    · have hki : (k : Int) < (r.body.length : Int) := by omega
      have hk0 : (0 : Int) ≤ (k : Int) := by omega
      obtain ⟨x, hxk⟩ : ∃ x, xs[k]? = some x := ⟨_, List.getElem?_eq_getElem (by omega)⟩
      obtain ⟨y, hyk⟩ : ∃ y, ys[k]? = some y := ⟨_, List.getElem?_eq_getElem (by omega)⟩
      have hbk := List.getElem?_eq_getElem hlt
      have hvx := HXT.out k x _ hxk hbk
      have hvy := HYT.out k y _ hyk hbk
      have hsm := HAT.out _ (List.mem_of_getElem? hbk)
      obtain ⟨bn, nmx, Ax, cx, ax, rfl, hex⟩ := hvx.form
      obtain ⟨bn2, nmy, Ay, cy, ay, rfl, hey⟩ := hvy.form
      have hbe : bn = bn2 := by rw [hex] at hey; injection hey
      subst hbe
      obtain ⟨_, hx', htx⟩ := hvx
      obtain ⟨_, hy', hty⟩ := hvy
      injection hx' with _ hx'
      injection hy' with _ hy'
      subst hx'
      subst hy'
      obtain ⟨bA, oA, rfl, _, hlA, hcA⟩ := HXA.out (by omega)
      obtain ⟨bB, oB, rfl, _, hlB, hcB⟩ := HYA.out (by omega)
      have hbw : Below w.heap.size w wr := HB0.out.trans (HB.out.mono HB0.out.size)
      have HCT : Hid (Calls Tryd.prog 48 #[.agg #[.string (bs nmx), .slice Ax ax.length cx], .agg #[.string (bs nmy), .slice Ay ay.length cy]] wr.drew (YesP wr.drew)) :=
        plTerm hsm wr.drew P P' _ _ (htx.keep (fun b hQ hlt => ⟨hQ, hbw.drew.block b hlt⟩) hbw.drew.size) (hty.keep (fun b hQ hlt => ⟨hQ, hbw.drew.block b hlt⟩) hbw.drew.size)
      have pp2 : wr.drew.cell? ⟨w.heap.size, 2, none⟩ = _ := (HB.out.drew.cell (p := ⟨w.heap.size, 2, none⟩) (by simp; omega)).trans HP2.out
      have qq2 : wr.drew.cell? ⟨w.heap.size + 1, 2, none⟩ = _ := (HB.out.drew.cell (p := ⟨w.heap.size + 1, 2, none⟩) (by simp; omega)).trans HQ2.out
      have x0 : wr.drew.cell? ⟨bA, oA + k * 3, none⟩ = some (.bool bn) := (hbw.drew.cell hlA).trans (hcA k _ hxk 0 _ rfl)
      have x1 : wr.drew.cell? ⟨bA, oA + k * 3 + 1, none⟩ = some (.string (bs nmx)) := (hbw.drew.cell hlA).trans (hcA k _ hxk 1 _ rfl)
      have x2 : wr.drew.cell? ⟨bA, oA + k * 3 + 2, none⟩ = some (.slice Ax ax.length cx) := (hbw.drew.cell hlA).trans (hcA k _ hxk 2 _ rfl)
      have y0 : wr.drew.cell? ⟨bB, oB + k * 3, none⟩ = some (.bool bn) := (hbw.drew.cell hlB).trans (hcB k _ hyk 0 _ rfl)
      have y1 : wr.drew.cell? ⟨bB, oB + k * 3 + 1, none⟩ = some (.string (bs nmy)) := (hbw.drew.cell hlB).trans (hcB k _ hyk 1 _ rfl)
      have y2 : wr.drew.cell? ⟨bB, oB + k * 3 + 2, none⟩ = some (.slice Ay ay.length cy) := (hbw.drew.cell hlB).trans (hcB k _ hyk 2 _ rfl)
      have HBD := Lib.hid HB.out.drew
      clear hcA hcB hxk hyk hbk hex hey htx hty hsm hbw
      go_wp2_with fail
      refine region_tail 26 (by kernel_rfl) (by kernel_rfl) ?_
      generalize wr.drew = wd at *
      simp only [List.take_succ_cons, List.take_zero, List.drop_succ_cons, List.drop_zero]
      repeat still_step
      refine wpStill_nil ?_
      go_wp2_with fail
      refine HCT.out.mono ?_
      rintro e w2 ⟨rfl, hb2⟩
      have HB2 := Lib.hid (HBD.out.trans (hb2.mono HBD.out.size))
      clear hb2 x0 x1 x2 y0 y1 y2 pp2 qq2
      go_wp2_with fail
      go_roundw
      case measure => simp [intOf]; omega
      case rel => exact ⟨k + 1, by omega, by first | rfl | (congr 1; omega), HB2.out⟩
    · have hkn : k = r.body.length := by omega
      subst hkn
      go_wp2_with fail
      refine bodyPost_ret (v := .bool true) (by simp [results, Tryd.results29, go_sem]) rfl ⟨rfl, HB0.out.trans (HB.out.mono HB0.out.size)⟩
end Go.Proofs.YthkbnjojkeeffaaDoor
