/- The walk of the law ParserLimits. -/
import Derived.Test.YtnlphgpcpdfjhaaDoorLn
namespace Go.Proofs.YtnlphgpcpdfjhaaDoor
open Go Go.RowKit
set_option linter.unusedSimpArgs false

set_option maxHeartbeats 16000000 in
set_option maxRecDepth 100000 in
theorem law_limits (w : World) (x y : Int) (hx : 0 ≤ x ∧ x ≤ 255) (hy : 0 ≤ y ∧ y ≤ 255) (hw : Wd w) : Calls Tryd.prog 10 #[.int .u8 x, .int .u8 y] w (YesP w) := by
  obtain ⟨hx1, hx2⟩ := hx
  obtain ⟨hy1, hy2⟩ := hy
  obtain ⟨m, rfl⟩ : ∃ m : Nat, y = (m : Int) := ⟨y.toNat, by omega⟩
  have HW := Lib.hid hw
  clear hw
  rcases (show x % 40 = 0 ∨ (0 < x % 40 ∧ x % 40 ≤ 8) ∨ (8 < x % 40 ∧ x % 40 < 40) by omega) with hyc | ⟨hyc, hyd⟩ | ⟨hyc, hyd⟩
  focus
    go_enter Tryd.func10, Tryd.ntmps10
    go_wp2_with fail
    obtain ⟨xr, hx, hbl⟩ := body_lo (n := 0) (by omega)
    have HPR := Lib.hid (prule_any w ⟨#[112, 46]⟩ (by decide) HW.out)
    rw [show ruleRF (⟨#[112, 46]⟩ : ByteArray).data.toList = .ok xr from hx] at HPR
    go_wp2_with fail

    refine HPR.out.mono ?_
    rintro e wa ⟨hb1, v, rfl, xx, rfl, hs1⟩
    obtain ⟨nm, A3, cp3, l3, A4, cp4, rfl, he⟩ := hs1.form
    have hba : Below wa.heap.size wa (wa.alloc (.cells #[.string (bs nm), .slice A3 l3.length cp3, .slice A4 xr.body.length cp4] 34)) := (Below.refl _ _).alloc (Nat.le_refl _) _
    have HB3 := Lib.hid (hb1.trans (hba.mono hb1.size))
    have HW3 := Lib.hid (HW.out.below (hb1.trans (hba.mono hb1.size)) HW.out.1)
    have hbl' : ((xr.body.length : Int) == 0) = true := beq_iff_eq.2 (by omega)
    clear hb1 hba HPR hx hbl hs1 he
    go_wp2_with fail
    generalize wa.alloc (.cells #[.string (bs nm), .slice A3 l3.length cp3, .slice A4 xr.body.length cp4] 34) = w3 at *

    refine (repeat_any w3 ⟨#[112, 46]⟩ m (by decide) (by omega)).mono ?_
    rintro e w' ⟨rfl, rfl⟩
    have z1 : (repB ⟨#[112, 46]⟩ m).size ≤ 600 := by rw [repB_size, show (⟨#[112, 46]⟩ : ByteArray).size = 2 from rfl]; omega
    have HPA := Lib.hid (parse_any w3 (repB ⟨#[112, 46]⟩ m) (by omega) HW3.out)
    rw [show (repB ⟨#[112, 46]⟩ m).data.toList = descL m from repB_list _ _] at HPA
    rcases Nat.lt_or_ge 128 m with hm1 | hm1
    focus
      rw [desc_hi hm1 (by omega)] at HPA
      have hm2 : (128 : Int) < (m : Int) := by omega
      go_wp2_with fail
      refine HPA.out.mono ?_
      rintro e w4 ⟨hb1, he⟩
      subst he
      have HB4 := Lib.hid (HB3.out.trans (hb1.mono HB3.out.size))
      have HW4 := Lib.hid (HW3.out.below hb1 HW3.out.1)
      clear hb1 HPA
      go_wp2_with fail
      refine (awake_any w4 HW4.out).mono ?_
      rintro e w5 ⟨rfl, hb5⟩
      have HB5 := Lib.hid (HB4.out.trans (hb5.mono HB4.out.size))
      clear hb5
      go_wp2_with fail
      go_ret
      exact ⟨rfl, HB5.out⟩

    focus
      rw [desc_lo hm1] at HPA
      have hm2 : (m : Int) ≤ 128 := by omega
      go_wp2_with fail
      refine HPA.out.mono ?_
      rintro e w4 ⟨hb1, v, rfl, A, cp, rfl, hsl⟩
      rw [List.length_replicate]
      have HB4 := Lib.hid (HB3.out.trans (hb1.mono HB3.out.size))
      have HW4 := Lib.hid (HW3.out.below hb1 HW3.out.1)
      clear hb1 HPA hsl
      go_wp2_with fail
      refine (awake_any w4 HW4.out).mono ?_
      rintro e w5 ⟨rfl, hb5⟩
      have HB5 := Lib.hid (HB4.out.trans (hb5.mono HB4.out.size))
      clear hb5
      go_wp2_with fail
      go_ret
      exact ⟨rfl, HB5.out⟩
  focus
    go_enter Tryd.func10, Tryd.ntmps10
    go_wp2_with fail
    generalize hm : x % 40 = r at *
    obtain ⟨j, rfl⟩ : ∃ j : Nat, r = (j : Int) + 1 := ⟨(r - 1).toNat, by omega⟩
    have hj : (j : Int) < 39 := by omega
    clear hm
    rw [show (j : Int) + 1 - 1 = (j : Int) from by omega]
    refine (repeat_any w ⟨#[113, 32, 97, 110, 100, 32]⟩ j (by decide) (by omega)).mono ?_
    rintro e w' ⟨rfl, rfl⟩
    have q1 : (repB ⟨#[113, 32, 97, 110, 100, 32]⟩ j).size ≤ 300 := by rw [repB_size, show (⟨#[113, 32, 97, 110, 100, 32]⟩ : ByteArray).size = 6 from rfl]; omega
    have HPR := Lib.hid (prule_any w (⟨#[112, 32, 105, 102, 32]⟩ ++ repB ⟨#[113, 32, 97, 110, 100, 32]⟩ j ++ ⟨#[113]⟩ ++ ⟨#[46]⟩) (by rw [ByteArray.size_append, ByteArray.size_append, ByteArray.size_append, show (⟨#[112, 32, 105, 102, 32]⟩ : ByteArray).size = 5 from rfl, show (⟨#[113]⟩ : ByteArray).size = 1 from rfl, show (⟨#[46]⟩ : ByteArray).size = 1 from rfl]; omega) HW.out)
    rw [show (⟨#[112, 32, 105, 102, 32]⟩ ++ repB ⟨#[113, 32, 97, 110, 100, 32]⟩ j ++ ⟨#[113]⟩ ++ ⟨#[46]⟩ : ByteArray).data.toList = bodyL (j + 1) from by unfold bodyL; rw [if_neg (by omega), Nat.add_sub_cancel, ← repB_list ⟨#[113, 32, 97, 110, 100, 32]⟩]; simp] at HPR

    obtain ⟨xr, hx, hbl⟩ := body_lo (n := j + 1) (by omega)
    rw [hx] at HPR
    have hj8 : (j : Int) + 1 ≤ 8 := by omega
    go_wp2_with fail

    refine HPR.out.mono ?_
    rintro e wa ⟨hb1, v, rfl, xx, rfl, hs1⟩
    obtain ⟨nm, A3, cp3, l3, A4, cp4, rfl, he⟩ := hs1.form
    have hba : Below wa.heap.size wa (wa.alloc (.cells #[.string (bs nm), .slice A3 l3.length cp3, .slice A4 xr.body.length cp4] 34)) := (Below.refl _ _).alloc (Nat.le_refl _) _
    have HB3 := Lib.hid (hb1.trans (hba.mono hb1.size))
    have HW3 := Lib.hid (HW.out.below (hb1.trans (hba.mono hb1.size)) HW.out.1)
    have hbl' : ((xr.body.length : Int) == (j : Int) + 1) = true := beq_iff_eq.2 (by omega)
    clear hb1 hba HPR hx hbl hs1 he
    go_wp2_with fail
    generalize wa.alloc (.cells #[.string (bs nm), .slice A3 l3.length cp3, .slice A4 xr.body.length cp4] 34) = w3 at *

    refine (repeat_any w3 ⟨#[112, 46]⟩ m (by decide) (by omega)).mono ?_
    rintro e w' ⟨rfl, rfl⟩
    have z1 : (repB ⟨#[112, 46]⟩ m).size ≤ 600 := by rw [repB_size, show (⟨#[112, 46]⟩ : ByteArray).size = 2 from rfl]; omega
    have HPA := Lib.hid (parse_any w3 (repB ⟨#[112, 46]⟩ m) (by omega) HW3.out)
    rw [show (repB ⟨#[112, 46]⟩ m).data.toList = descL m from repB_list _ _] at HPA
    rcases Nat.lt_or_ge 128 m with hm1 | hm1
    focus
      rw [desc_hi hm1 (by omega)] at HPA
      have hm2 : (128 : Int) < (m : Int) := by omega
      go_wp2_with fail
      refine HPA.out.mono ?_
      rintro e w4 ⟨hb1, he⟩
      subst he
      have HB4 := Lib.hid (HB3.out.trans (hb1.mono HB3.out.size))
      have HW4 := Lib.hid (HW3.out.below hb1 HW3.out.1)
      clear hb1 HPA
      go_wp2_with fail
      refine (awake_any w4 HW4.out).mono ?_
      rintro e w5 ⟨rfl, hb5⟩
      have HB5 := Lib.hid (HB4.out.trans (hb5.mono HB4.out.size))
      clear hb5
      go_wp2_with fail
      go_ret
      exact ⟨rfl, HB5.out⟩

    focus
      rw [desc_lo hm1] at HPA
      have hm2 : (m : Int) ≤ 128 := by omega
      go_wp2_with fail
      refine HPA.out.mono ?_
      rintro e w4 ⟨hb1, v, rfl, A, cp, rfl, hsl⟩
      rw [List.length_replicate]
      have HB4 := Lib.hid (HB3.out.trans (hb1.mono HB3.out.size))
      have HW4 := Lib.hid (HW3.out.below hb1 HW3.out.1)
      clear hb1 HPA hsl
      go_wp2_with fail
      refine (awake_any w4 HW4.out).mono ?_
      rintro e w5 ⟨rfl, hb5⟩
      have HB5 := Lib.hid (HB4.out.trans (hb5.mono HB4.out.size))
      clear hb5
      go_wp2_with fail
      go_ret
      exact ⟨rfl, HB5.out⟩
  focus
    go_enter Tryd.func10, Tryd.ntmps10
    go_wp2_with fail
    generalize hm : x % 40 = r at *
    obtain ⟨j, rfl⟩ : ∃ j : Nat, r = (j : Int) + 1 := ⟨(r - 1).toNat, by omega⟩
    have hj : (j : Int) < 39 := by omega
    clear hm
    rw [show (j : Int) + 1 - 1 = (j : Int) from by omega]
    refine (repeat_any w ⟨#[113, 32, 97, 110, 100, 32]⟩ j (by decide) (by omega)).mono ?_
    rintro e w' ⟨rfl, rfl⟩
    have q1 : (repB ⟨#[113, 32, 97, 110, 100, 32]⟩ j).size ≤ 300 := by rw [repB_size, show (⟨#[113, 32, 97, 110, 100, 32]⟩ : ByteArray).size = 6 from rfl]; omega
    have HPR := Lib.hid (prule_any w (⟨#[112, 32, 105, 102, 32]⟩ ++ repB ⟨#[113, 32, 97, 110, 100, 32]⟩ j ++ ⟨#[113]⟩ ++ ⟨#[46]⟩) (by rw [ByteArray.size_append, ByteArray.size_append, ByteArray.size_append, show (⟨#[112, 32, 105, 102, 32]⟩ : ByteArray).size = 5 from rfl, show (⟨#[113]⟩ : ByteArray).size = 1 from rfl, show (⟨#[46]⟩ : ByteArray).size = 1 from rfl]; omega) HW.out)
    rw [show (⟨#[112, 32, 105, 102, 32]⟩ ++ repB ⟨#[113, 32, 97, 110, 100, 32]⟩ j ++ ⟨#[113]⟩ ++ ⟨#[46]⟩ : ByteArray).data.toList = bodyL (j + 1) from by unfold bodyL; rw [if_neg (by omega), Nat.add_sub_cancel, ← repB_list ⟨#[113, 32, 97, 110, 100, 32]⟩]; simp] at HPR

    rw [body_hi (n := j + 1) (by omega) (by omega)] at HPR
    have hj8 : (8 : Int) < (j : Int) + 1 := by omega
    go_wp2_with fail

    refine HPR.out.mono ?_
    rintro e wa ⟨hb1, he⟩
    subst he
    have hba : Below wa.heap.size wa (wa.alloc (.cells #[.string ⟨#[]⟩, .slice none 0 0, .slice none 0 0] 34)) := (Below.refl _ _).alloc (Nat.le_refl _) _
    have HB3 := Lib.hid (hb1.trans (hba.mono hb1.size))
    have HW3 := Lib.hid (HW.out.below (hb1.trans (hba.mono hb1.size)) HW.out.1)
    clear hb1 hba HPR
    go_wp2_with fail
    generalize wa.alloc (.cells #[.string ⟨#[]⟩, .slice none 0 0, .slice none 0 0] 34) = w3 at *

    refine (repeat_any w3 ⟨#[112, 46]⟩ m (by decide) (by omega)).mono ?_
    rintro e w' ⟨rfl, rfl⟩
    have z1 : (repB ⟨#[112, 46]⟩ m).size ≤ 600 := by rw [repB_size, show (⟨#[112, 46]⟩ : ByteArray).size = 2 from rfl]; omega
    have HPA := Lib.hid (parse_any w3 (repB ⟨#[112, 46]⟩ m) (by omega) HW3.out)
    rw [show (repB ⟨#[112, 46]⟩ m).data.toList = descL m from repB_list _ _] at HPA
    rcases Nat.lt_or_ge 128 m with hm1 | hm1
    focus
      rw [desc_hi hm1 (by omega)] at HPA
      have hm2 : (128 : Int) < (m : Int) := by omega
      go_wp2_with fail
      refine HPA.out.mono ?_
      rintro e w4 ⟨hb1, he⟩
      subst he
      have HB4 := Lib.hid (HB3.out.trans (hb1.mono HB3.out.size))
      have HW4 := Lib.hid (HW3.out.below hb1 HW3.out.1)
      clear hb1 HPA
      go_wp2_with fail
      refine (awake_any w4 HW4.out).mono ?_
      rintro e w5 ⟨rfl, hb5⟩
      have HB5 := Lib.hid (HB4.out.trans (hb5.mono HB4.out.size))
      clear hb5
      go_wp2_with fail
      go_ret
      exact ⟨rfl, HB5.out⟩

    focus
      rw [desc_lo hm1] at HPA
      have hm2 : (m : Int) ≤ 128 := by omega
      go_wp2_with fail
      refine HPA.out.mono ?_
      rintro e w4 ⟨hb1, v, rfl, A, cp, rfl, hsl⟩
      rw [List.length_replicate]
      have HB4 := Lib.hid (HB3.out.trans (hb1.mono HB3.out.size))
      have HW4 := Lib.hid (HW3.out.below hb1 HW3.out.1)
      clear hb1 HPA hsl
      go_wp2_with fail
      refine (awake_any w4 HW4.out).mono ?_
      rintro e w5 ⟨rfl, hb5⟩
      have HB5 := Lib.hid (HB4.out.trans (hb5.mono HB4.out.size))
      clear hb5
      go_wp2_with fail
      go_ret
      exact ⟨rfl, HB5.out⟩
end Go.Proofs.YtnlphgpcpdfjhaaDoor
