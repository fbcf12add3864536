/- The walk of the law ParserOne. -/
import Derived.Test.YtnlphgpcpdfjhaaDoorLw
import Derived.Test.YtnlphgpcpdfjhaaDoorEz
import Derived.Deep.RegionHeld3
namespace Go.Proofs.YtnlphgpcpdfjhaaDoor
open Go Go.RowKit
set_option linter.unusedSimpArgs false

/-- what the two readings give -/
theorem one_cases (l : List UInt8) : (∃ x, ruleRF l = .ok x ∧ parseF l = .ok [x]) ∨ (∃ p e, ruleRF l = .err p e ∧ e ≠ 0 ∧ ((∃ p' e', parseF l = .err p' e' ∧ e' ≠ 0) ∨ ∃ v, parseF l = .ok v ∧ v.length ≠ 1)) := by
  cases hr : ruleRF l with
  | ok x => exact .inl ⟨x, rfl, rule_one hr⟩
  | err p e =>
    refine .inr ⟨p, e, rfl, nz_ruleR hr, ?_⟩
    cases hp : parseF l with
    | err p' e' => exact .inl ⟨p', e', rfl, nz_parse hp⟩
    | ok v =>
      refine .inr ⟨v, rfl, fun h1 => ?_⟩
      match v, h1 with
      | [x], _ => rw [one_rule hp] at hr; cases hr

theorem keep6 {w4 x : World} {a b c d e f : Addr} {va vb vc vd ve vf : Value} (h : w4.cell? a = some va ∧ w4.cell? b = some vb ∧ w4.cell? c = some vc ∧ w4.cell? d = some vd ∧ w4.cell? e = some ve ∧ w4.cell? f = some vf ∧
      a.block < w4.heap.size ∧ b.block < w4.heap.size ∧ c.block < w4.heap.size ∧ d.block < w4.heap.size ∧ e.block < w4.heap.size ∧ f.block < w4.heap.size)
    (hb : Below w4.heap.size w4 x) : x.cell? a = some va ∧ x.cell? b = some vb ∧ x.cell? c = some vc ∧ x.cell? d = some vd ∧ x.cell? e = some ve ∧ x.cell? f = some vf ∧ Hid (Below w4.heap.size w4 x) := by
  obtain ⟨h1, h2, h3, h4, h5, h6, l1, l2, l3, l4, l5, l6⟩ := h
  exact ⟨(hb.cell l1).trans h1, (hb.cell l2).trans h2, (hb.cell l3).trans h3, (hb.cell l4).trans h4, (hb.cell l5).trans h5, (hb.cell l6).trans h6, hb⟩
theorem last6 {p1 p2 p3 p4 p5 p6 p : Prop} (h : p1 ∧ p2 ∧ p3 ∧ p4 ∧ p5 ∧ p6 ∧ Hid p) : p := h.2.2.2.2.2.2

set_option maxHeartbeats 8000000 in
set_option maxRecDepth 100000 in
theorem law_one (w : World) (s : ByteArray) (hs : s.size ≤ 9223372036854775807) (hw : Wd w) : Calls Tryd.prog 8 #[.string s] w (YesP w) := by
  have HW := Lib.hid hw
  clear hw
  by_cases hl : (2000 : Int) < (s.size : Int)
  · go_enter Tryd.func8, Tryd.ntmps8
    go_wp2_with fail
    refine (awake_any w HW.out).mono ?_
    rintro e w1 ⟨rfl, hb⟩
    go_wp2_with fail
    go_ret
    exact ⟨rfl, hb⟩
  have hl' : decide ((2000 : Int) < (s.size : Int)) = false := by simpa using hl
  clear hl
  rcases one_cases s.data.toList with ⟨x, h1, h2⟩ | ⟨p, e, h1, he, h2⟩
  · have HR := Lib.hid (prule_any w s hs HW.out)
    rw [h1] at HR
    have HRV := Lib.hid (rus_valid (ruleRF_valid h1))
    have HP := fun w hw => parse_any w s hs hw
    rw [h2] at HP
    have HP2 := Lib.hid HP
    clear HP h1 h2
    go_enter Tryd.func8, Tryd.ntmps8
    go_wp2_with fail
    refine HR.out.mono ?_
    rintro e wa ⟨hb1, v, rfl, x', rfl, hs1⟩
    obtain ⟨nm, A, cp, l0, A2, cp2, rfl, _⟩ := hs1.form
    have hba : Below wa.heap.size wa (wa.alloc (.cells #[.string (bs nm), .slice A l0.length cp, .slice A2 x.body.length cp2] 34)) := (Below.refl _ _).alloc (Nat.le_refl _) _
    have HB1 := Lib.hid (hb1.trans (hba.mono hb1.size))
    have HW1 := Lib.hid (HW.out.below (hb1.trans (hba.mono hb1.size)) HW.out.1)
    have HS1 := Lib.hid (keeps_ru _ _ _ (fun _ => True) _ _ hs1 (fun b _ hlt => ⟨trivial, hba.block b hlt⟩) hba.size)
    have HX1 := Lib.hid (heap_alloc_new wa (.cells #[.string (bs nm), .slice A l0.length cp, .slice A2 x.body.length cp2] 34))
    clear hb1 hba hs1
    go_wp2_with fail
    generalize wa.alloc (.cells #[.string (bs nm), .slice A l0.length cp, .slice A2 x.body.length cp2] 34) = w1 at *
    generalize wa.heap.size = q1 at *
    clear wa
    refine (HP2.out w1 HW1.out).mono ?_
    rintro e w2 ⟨hb2, v, rfl, Al, cpl, rfl, hs2⟩
    have HB2 := Lib.hid (HB1.out.trans (hb2.mono HB1.out.size))
    have HW2 := Lib.hid (HW1.out.below hb2 HW1.out.1)
    have HX2 := Lib.hid ((hb2.block _ (heap_lt HX1.out)).trans HX1.out)
    have HSa := Lib.hid (keeps_ru _ _ _ (fun _ => True) _ _ HS1.out (fun b _ hlt => ⟨trivial, hb2.block b hlt⟩) hb2.size)
    obtain ⟨b, o, y, rfl, hbl, hry, hyc⟩ := hs2.at 0 _ rfl
    obtain ⟨nm2, A3, cp3, l3, A4, cp4, rfl, _⟩ := hry.form
    have HSb := Lib.hid hry
    have q0 : w2.cell? ⟨b, o, none⟩ = some (.string (bs nm2)) := by have := hyc 0 _ rfl; simpa using this
    have q1' : w2.cell? ⟨b, o + 1, none⟩ = some (.slice A3 l3.length cp3) := by have := hyc 1 _ rfl; simpa using this
    have q2 : w2.cell? ⟨b, o + 1 + 1, none⟩ = some (.slice A4 x.body.length cp4) := by have := hyc 2 _ rfl; simpa using this
    obtain ⟨v0, v1, v2, g0, g1, g2⟩ := cells_three HX2.out
    have hql := heap_lt HX2.out
    clear hb2 hs2 hry hyc HX1 HS1 HB1 HW1 g0 g1 g2
    have hln : (([x] : List Ru).length : Int) = 1 := rfl
    have hln2 : ([x] : List Ru).length = 1 := rfl
    rw [hln2]
    clear hln hln2
    go_wp2_with fail
    have HC := Lib.hid (And.intro v0 (And.intro v1 (And.intro v2 (And.intro q0 (And.intro q1' (And.intro q2 (And.intro hql (And.intro hql (And.intro hql (And.intro hbl (And.intro hbl hbl)))))))))))
    have HB0 := Lib.hid (Below.refl w2.heap.size w2)
    have HCR := Lib.hid (fun (y : World) (hy : Below w2.heap.size w2 y) => plRule HRV.out y (fun _ => True) (fun _ => True) _ _ (keeps_ru _ _ _ (fun _ => True) _ _ HSa.out (fun b _ hlt => ⟨trivial, hy.block b hlt⟩) hy.size) (keeps_ru _ _ _ (fun _ => True) _ _ HSb.out (fun b _ hlt => ⟨trivial, hy.block b hlt⟩) hy.size))
    have HCA := Lib.hid (fun (y : World) (hy : Below w2.heap.size w2 y) => awake_any y (HW2.out.below hy HW2.out.1))
    clear v0 v1 v2 q0 q1' q2 hql hbl
    go_region_held3 (fun y => y.cell? ⟨q1, 0, none⟩ = some (.string (bs nm)) ∧ y.cell? ⟨q1, 1, none⟩ = some (.slice A l0.length cp) ∧ y.cell? ⟨q1, 2, none⟩ = some (.slice A2 x.body.length cp2) ∧ y.cell? ⟨b, o, none⟩ = some (.string (bs nm2)) ∧ y.cell? ⟨b, o + 1, none⟩ = some (.slice A3 l3.length cp3) ∧ y.cell? ⟨b, o + 1 + 1, none⟩ = some (.slice A4 x.body.length cp4) ∧ Hid (Below w2.heap.size w2 y)) (first | (exact keep6 HC.out (Below.drew HB0.out)) | (exact keep6 HC.out (Below.drew (last6 ‹_ ∧ _ ∧ _ ∧ _ ∧ _ ∧ _ ∧ Hid _›))) | (exact keep6 HC.out (trans5 (last6 ‹_ ∧ _ ∧ _ ∧ _ ∧ _ ∧ _ ∧ Hid _›) hb9))) (first | (go_at_call 17; refine (HCR.out _ ?_).mono ?_; (exact last6 ‹_ ∧ _ ∧ _ ∧ _ ∧ _ ∧ _ ∧ Hid _›); rintro e9 w9 ⟨rfl, hb9⟩) | (go_at_call 11; refine (HCA.out _ ?_).mono ?_; (exact last6 ‹_ ∧ _ ∧ _ ∧ _ ∧ _ ∧ _ ∧ Hid _›); rintro e9 w9 ⟨rfl, hb9⟩))
    go_wp2_with fail
    go_ret
    exact ⟨rfl, HB2.out.trans (Below.mono (last6 ‹_ ∧ _ ∧ _ ∧ _ ∧ _ ∧ _ ∧ Hid _›) HB2.out.size)⟩
  · have HR := Lib.hid (prule_any w s hs HW.out)
    rw [h1] at HR
    have he0 : (e == 0) = false := beq_eq_false_iff_ne.2 he
    have hba0 : ∀ wa : World, Below wa.heap.size wa (wa.alloc (.cells #[.string ⟨#[]⟩, .slice none 0 0, .slice none 0 0] 34)) := fun wa => (Below.refl _ _).alloc (Nat.le_refl _) _
    have HBA := Lib.hid hba0
    clear hba0
    have HP : Hid (∀ w, Wd w → Calls Tryd.prog 12 #[.string s] w (fun e w' => Below w.heap.size w w' ∧ ∃ A n cp p x, e = .returned (.tuple #[.slice A n cp, .int .i64 p, .int .i64 x]) ∧ ((x == 0) = false ∨ (x = 0 ∧ ((n : Int) == 1) = false)))) := by
      intro w hw
      refine (parse_any w s hs hw).mono ?_
      rcases h2 with ⟨p', e', h2, hn⟩ | ⟨v, h2, hn⟩
      · rw [h2]
        rintro e w' ⟨hb, rfl⟩
        exact ⟨hb, _, _, _, _, _, rfl, .inl (beq_eq_false_iff_ne.2 hn)⟩
      · rw [h2]
        rintro e w' ⟨hb, v', rfl, A, cp, rfl, _⟩
        exact ⟨hb, _, _, _, _, _, rfl, .inr ⟨rfl, beq_eq_false_iff_ne.2 (by omega)⟩⟩
    clear h1 h2 he
    go_enter Tryd.func8, Tryd.ntmps8
    go_wp2_with fail
    refine HR.out.mono ?_
    rintro e' wa ⟨hb1, hee⟩
    subst hee
    have HB1 := Lib.hid (hb1.trans ((HBA.out wa).mono hb1.size))
    have HW1 := Lib.hid (HW.out.below HB1.out HW.out.1)
    clear hb1
    go_wp2_with fail
    generalize wa.alloc (.cells #[.string ⟨#[]⟩, .slice none 0 0, .slice none 0 0] 34) = w1 at *
    generalize wa.heap.size = q1 at *
    refine (HP.out w1 HW1.out).mono ?_
    rintro e' w2 ⟨hb2, A, n, cp, p2, x, rfl, hx⟩
    have HB2 := Lib.hid (HB1.out.trans (hb2.mono HB1.out.size))
    have HW2 := Lib.hid (HW1.out.below hb2 HW1.out.1)
    have HB0 := Lib.hid (Below.refl w2.heap.size w2)
    have HCA := Lib.hid (fun (y : World) (hy : Below w2.heap.size w2 y) => awake_any y (HW2.out.below hy HW2.out.1))
    clear hb2 HB1 HW1 HR HP
    rcases hx with hx | ⟨rfl, hx⟩
    all_goals
      go_wp2_with fail
      refine wp_region_held_drew (S := fun y => Hid (Below w2.heap.size w2 y)) (by kernel_rfl) (Below.drew HB0.out) (fun hHeld => ?_)
      refine held_take (i := 0) (by rfl) (by kernel_rfl) (by kernel_rfl) (by kernel_rfl) (by intro c a w h; exact h) (by rfl) (by intro w' hSw; go_simp; try with_reducible rfl) hHeld ?_
      try simp only [Act.put, List.setIfInBounds_toArray, List.set_cons_zero, List.set_cons_succ]
      refine held_take (i := 1) (by rfl) (by kernel_rfl) (by kernel_rfl) (by kernel_rfl) (by intro c a w h; exact h) (by rfl) (by intro w' hSw; go_simp; try with_reducible rfl) hHeld ?_
      try simp only [Act.put, List.setIfInBounds_toArray, List.set_cons_zero, List.set_cons_succ]
      refine held_take (i := 2) (by rfl) (by kernel_rfl) (by kernel_rfl) (by kernel_rfl) (by intro c a w h; exact h) (by rfl) (by intro w' hSw; go_simp; try with_reducible rfl) hHeld ?_
      try simp only [Act.put, List.setIfInBounds_toArray, List.set_cons_zero, List.set_cons_succ]
      refine held_take (i := 3) (by rfl) (by kernel_rfl) (by kernel_rfl) (by kernel_rfl) (by intro c a w h; exact h) (by rfl) (by intro w' hSw; go_simp; try with_reducible rfl) hHeld ?_
      try simp only [Act.put, List.setIfInBounds_toArray, List.set_cons_zero, List.set_cons_succ]
      refine held_take (i := 4) (by rfl) (by kernel_rfl) (by kernel_rfl) (by kernel_rfl) (by intro c a w h; exact h) (by rfl) (by intro w' hSw; go_simp; try with_reducible rfl) hHeld ?_
      try simp only [Act.put, List.setIfInBounds_toArray, List.set_cons_zero, List.set_cons_succ]
      refine held_take (i := 5) (by rfl) (by kernel_rfl) (by kernel_rfl) (by kernel_rfl) (by intro c a w h; exact h) (by rfl) (by intro w' hSw; go_simp; try with_reducible rfl) hHeld ?_
      try simp only [Act.put, List.setIfInBounds_toArray, List.set_cons_zero, List.set_cons_succ]
      refine held_take (i := 6) (by rfl) (by kernel_rfl) (by kernel_rfl) (by kernel_rfl) (by intro c a w h; exact h) (by rfl) (by intro w' hSw; go_simp; try with_reducible rfl) hHeld ?_
      try simp only [Act.put, List.setIfInBounds_toArray, List.set_cons_zero, List.set_cons_succ]
      refine held_take (i := 7) (by rfl) (by kernel_rfl) (by kernel_rfl) (by kernel_rfl) (by intro c a w h; exact h) (by rfl) (by intro w' hSw; go_simp; try with_reducible rfl) hHeld ?_
      try simp only [Act.put, List.setIfInBounds_toArray, List.set_cons_zero, List.set_cons_succ]
      refine held_skip (i := 8) (by rfl) (by kernel_rfl) (by kernel_rfl) (by kernel_rfl) (by intro c a w h; exact h) (by rfl) hHeld ?_
      try simp only [Act.put, List.setIfInBounds_toArray, List.set_cons_zero, List.set_cons_succ]
      refine held_skip (i := 9) (by rfl) (by kernel_rfl) (by kernel_rfl) (by kernel_rfl) (by intro c a w h; exact h) (by rfl) hHeld ?_
      try simp only [Act.put, List.setIfInBounds_toArray, List.set_cons_zero, List.set_cons_succ]
      refine held_skip (i := 10) (by rfl) (by kernel_rfl) (by kernel_rfl) (by kernel_rfl) (by intro c a w h; exact h) (by rfl) hHeld ?_
      try simp only [Act.put, List.setIfInBounds_toArray, List.set_cons_zero, List.set_cons_succ]
      refine held_skip (i := 11) (by rfl) (by kernel_rfl) (by kernel_rfl) (by kernel_rfl) (by intro c a w h; exact h) (by rfl) hHeld ?_
      try simp only [Act.put, List.setIfInBounds_toArray, List.set_cons_zero, List.set_cons_succ]
      refine held_skip (i := 12) (by rfl) (by kernel_rfl) (by kernel_rfl) (by kernel_rfl) (by intro c a w h; exact h) (by rfl) hHeld ?_
      try simp only [Act.put, List.setIfInBounds_toArray, List.set_cons_zero, List.set_cons_succ]
      refine held_take (i := 13) (by rfl) (by kernel_rfl) (by kernel_rfl) (by kernel_rfl) (by intro c a w h; exact h) (by rfl) (by intro w' hSw; go_simp; try with_reducible rfl) hHeld ?_
      try simp only [Act.put, List.setIfInBounds_toArray, List.set_cons_zero, List.set_cons_succ]
      refine held_take (i := 14) (by rfl) (by kernel_rfl) (by kernel_rfl) (by kernel_rfl) (by intro c a w h; exact h) (by rfl) (by intro w' hSw; go_simp; try with_reducible rfl) hHeld ?_
      try simp only [Act.put, List.setIfInBounds_toArray, List.set_cons_zero, List.set_cons_succ]
      refine held_take (i := 15) (by rfl) (by kernel_rfl) (by kernel_rfl) (by kernel_rfl) (by intro c a w h; exact h) (by rfl) (by intro w' hSw; go_simp; try with_reducible rfl) hHeld ?_
      try simp only [Act.put, List.setIfInBounds_toArray, List.set_cons_zero, List.set_cons_succ]
      refine wpAnyH_ready (rs := [16]) (by kernel_rfl) (by simp) ?_
      refine held_one (by rfl) (fun K hK => ?_)
      go_simp
      refine (HCA.out _ hHeld.out).mono ?_
      rintro e9 w9 ⟨rfl, hb9⟩
      refine hK.out _ _ (trans5 hHeld.out hb9) (fun hHeld9 => ?_)
      clear hHeld hK K
      have hHeld := hHeld9
      clear hHeld9
      try simp only [Act.put, List.setIfInBounds_toArray, List.set_cons_zero, List.set_cons_succ]
      refine held_take (i := 17) (by rfl) (by kernel_rfl) (by kernel_rfl) (by kernel_rfl) (by intro c a w h; exact h) (by rfl) (by intro w' hSw; go_simp; try with_reducible rfl) hHeld ?_
      try simp only [Act.put, List.setIfInBounds_toArray, List.set_cons_zero, List.set_cons_succ]
      refine held_take (i := 18) (by rfl) (by kernel_rfl) (by kernel_rfl) (by kernel_rfl) (by intro c a w h; exact h) (by rfl) (by intro w' hSw; go_simp; try with_reducible rfl) hHeld ?_
      try simp only [Act.put, List.setIfInBounds_toArray, List.set_cons_zero, List.set_cons_succ]
      refine wpAnyH_done (by kernel_rfl) ?_ _
      go_wp2_with fail
      go_ret
      exact ⟨rfl, HB2.out.trans (Below.mono hHeld.out HB2.out.size)⟩
end Go.Proofs.YtnlphgpcpdfjhaaDoor
