/- The walk of the law ParserValid. -/
import Derived.Test.YtnlphgpcpdfjhaaDoorWn
import Derived.Test.YtnlphgpcpdfjhaaDoorLw
import Derived.Test.YtnlphgpcpdfjhaaDoorEz
namespace Go.Proofs.YtnlphgpcpdfjhaaDoor
open Go Go.RowKit
set_option linter.unusedSimpArgs false

set_option maxHeartbeats 2000000 in
theorem latom_any (w : World) (P : Nat → Prop) (nm : List UInt8) (A : Option Addr) (cp : Nat) (l : List Tm) (hx : TmV w P [.string (bs nm), .slice A l.length cp] (.mk nm l)) (hb : TmB (.mk nm l)) :
    Calls Tryd.prog 24 #[.agg #[.string (bs nm), .slice A l.length cp]] w fun e w' => e = .returned (.bool (atomV (.mk nm l))) ∧ Below w.heap.size w w' := by
  have hb0 : Below w.heap.size w (w.alloc (.cells #[.string (bs nm), .slice A l.length cp] 31)) := (Below.refl _ _).alloc (Nat.le_refl _) _
  have HB := Lib.hid hb0
  have HW := Lib.hid (rValid_any (w.alloc (.cells #[.string (bs nm), .slice A l.length cp] 31)) (fun _ => True) _ _ (hx.keep (fun b _ hl => ⟨trivial, hb0.block b hl⟩) hb0.size) hb)
  have HBLK := Lib.hid (heap_alloc_new w (.cells #[.string (bs nm), .slice A l.length cp] 31))
  have hn : (bs nm).size ≤ 9223372036854775807 := by rw [size_bs]; cases hb with | mk _ _ hn _ _ => exact hn
  have HA : Hid (atomV (.mk nm l) = (validT true 4 (.mk nm l) && nameF nm)) := rfl
  generalize atomV (.mk nm l) = r at *
  clear hb0 hx hb
  go_enter Tryd.func24, Tryd.ntmps24
  go_wp2_with fail
  generalize w.alloc (.cells #[.string (bs nm), .slice A l.length cp] 31) = w1 at *
  refine HW.out.mono ?_
  cases hv : validT true 4 (.mk nm l)
  · rintro e w2 ⟨rfl, hb2⟩
    have HB2 := Lib.hid (HB.out.trans (hb2.mono HB.out.size))
    clear hb2
    go_wp2_with fail
    go_ret
    exact ⟨ret_bool (by rw [HA.out, hv]; rfl), HB2.out⟩
  · rintro e w2 ⟨rfl, hb2⟩
    have HB2 := Lib.hid (HB.out.trans (hb2.mono HB.out.size))
    have hblk := (hb2.block _ (heap_lt HBLK.out)).trans HBLK.out
    obtain ⟨c0, c1, f0, f1⟩ := cells_two hblk
    have hlt := heap_lt hblk
    clear f0 f1 hb2 hblk
    go_wp2_with fail
    refine (rName_any w2 (bs nm) hn).mono ?_
    rintro e w3 ⟨rfl, rfl⟩
    go_wp2_with fail
    go_ret
    exact ⟨ret_bool (by rw [HA.out, hv]; rfl), HB2.out⟩

theorem atom_tmb {t : Tm} (h : atomV t = true) : TmB t := by
  unfold atomV at h
  rw [Bool.and_eq_true] at h
  exact tmb_valid _ _ h.1

/-- one element of a slice of rules, the cells written out -/
theorem SlV.ru {w : World} {P : Nat → Prop} {A : Option Addr} {l : List Ru} (h : SlV RuV 3 w P A l) (i : Nat) (hi : i < l.length) :
    ∃ b o nm A1 cp a A2 cp2, A = some ⟨b, o, none⟩ ∧ b < w.heap.size ∧ l[i].head = .mk nm a ∧ TmV w P [.string (bs nm), .slice A1 a.length cp] (.mk nm a) ∧ SlV LiV 3 w P A2 l[i].body ∧
      w.cell? ⟨b, o + i * 3, none⟩ = some (.string (bs nm)) ∧ w.cell? ⟨b, o + i * 3 + 1, none⟩ = some (.slice A1 a.length cp) ∧ w.cell? ⟨b, o + i * 3 + 2, none⟩ = some (.slice A2 l[i].body.length cp2) := by
  obtain ⟨b, o, x, hA, hb, hr, hc⟩ := h.at i _ (List.getElem?_eq_getElem hi)
  obtain ⟨nm, A1, cp, a, A2, cp2, rfl, he, ht, hs⟩ := hr.inv
  rw [he] at ht
  exact ⟨b, o, nm, A1, cp, a, A2, cp2, hA, hb, he, ht, hs, hc 0 _ rfl, hc 1 _ rfl, hc 2 _ rfl⟩
theorem SlV.li {w : World} {P : Nat → Prop} {A : Option Addr} {l : List Li} (h : SlV LiV 3 w P A l) (i : Nat) (hi : i < l.length) :
    ∃ b o nm A1 cp a, A = some ⟨b, o, none⟩ ∧ b < w.heap.size ∧ l[i].atom = .mk nm a ∧ TmV w P [.string (bs nm), .slice A1 a.length cp] (.mk nm a) ∧
      w.cell? ⟨b, o + i * 3, none⟩ = some (.bool l[i].neg) ∧ w.cell? ⟨b, o + i * 3 + 1, none⟩ = some (.string (bs nm)) ∧ w.cell? ⟨b, o + i * 3 + 1 + 1, none⟩ = some (.slice A1 a.length cp) := by
  obtain ⟨b, o, x, hA, hb, hr, hc⟩ := h.at i _ (List.getElem?_eq_getElem hi)
  obtain ⟨nm, A1, cp, a, rfl, he, ht⟩ := hr.inv
  rw [he] at ht
  exact ⟨b, o, nm, A1, cp, a, hA, hb, he, ht, hc 0 _ rfl, hc 1 _ rfl, hc 2 _ rfl⟩

set_option maxHeartbeats 8000000 in
set_option maxRecDepth 100000 in
theorem law_valid (w : World) (s : ByteArray) (hs : s.size ≤ 9223372036854775807) (hw : Wd w) : Calls Tryd.prog 6 #[.string s] w (YesP w) := by
  have HW := Lib.hid hw
  clear hw
  by_cases hl : (2000 : Int) < (s.size : Int)
  · go_enter Tryd.func6, Tryd.ntmps6
    go_wp2_with fail
    refine (awake_any w HW.out).mono ?_
    rintro e w1 ⟨rfl, hb⟩
    go_wp2_with fail
    go_ret
    exact ⟨rfl, hb⟩
  · have hl' : decide ((2000 : Int) < (s.size : Int)) = false := by simpa using hl
    clear hl
    have HP := Lib.hid (parse_any w s hs HW.out)
    cases hr : parseF s.data.toList with
    | err p x =>
      rw [hr] at HP
      have hx0 : (x == 0) = false := beq_eq_false_iff_ne.2 (nz_parse hr)
      have hx1 : (x != 0) = true := by rw [bne, hx0]; rfl
      clear hr
      go_enter Tryd.func6, Tryd.ntmps6
      go_wp2_with fail
      refine HP.out.mono ?_
      rintro e w1 ⟨hb1, he⟩
      subst he
      have HB1 := Lib.hid hb1
      have HW1 := Lib.hid (HW.out.below hb1 HW.out.1)
      clear hb1
      go_wp2_with fail
      refine (awake_any w1 HW1.out).mono ?_
      rintro e w4 ⟨rfl, hb4⟩
      have HB4 := Lib.hid (HB1.out.trans (hb4.mono HB1.out.size))
      clear hb4
      go_wp2_with fail
      go_ret
      exact ⟨rfl, HB4.out⟩
    | ok l =>
      rw [hr] at HP
      obtain ⟨hlen, hval⟩ := parse_valid hr
      have HV := Lib.hid hval
      clear hr hval
      go_enter Tryd.func6, Tryd.ntmps6
      go_wp2_with fail
      refine HP.out.mono ?_
      rintro e w1 ⟨hb1, v, rfl, A, cp, rfl, hs1⟩
      have HB1 := Lib.hid hb1
      have HW1 := Lib.hid (HW.out.below hb1 HW.out.1)
      have HS1 := Lib.hid hs1
      clear hb1 hs1
      have hlen' : (l.length : Int) ≤ 128 := by omega
      go_wp2_with fail
      go_loopw [6] (fun i wr => ∃ k : Nat, k ≤ l.length ∧ i = .int .i64 k ∧ Hid (Below w1.heap.size w1 wr)) (fun i _ => l.length - (intOf i).toNat)
      case atStart => exact ⟨0, Nat.zero_le _, rfl, Below.refl _ _⟩
      case round =>
        obtain ⟨k, hk, rfl, HI⟩ := hrel
        have HSr := Lib.hid (HS1.out.below keeps_ru HI.out)
        by_cases hlk : k < l.length
        · obtain ⟨b, o, nm, A1, cp1, a, A2, cp2, rfl, hbl, hhd, htm, hbody, q0, q1, q2⟩ := HSr.out.ru k hlk
          have hrv := HV.out _ (List.getElem_mem hlk)
          have hat := hrv.1
          rw [hhd] at hat
          have HAT := Lib.hid (latom_any wr _ nm A1 cp1 a htm (atom_tmb hat))
          rw [hat] at HAT
          have hblen : (l[k].body.length : Int) ≤ 8 := by have := hrv.2.1; omega
          have HBV := Lib.hid hrv.2.2
          generalize hbd : l[k].body = bd at *
          have HBODY := Lib.hid hbody
          clear htm hbody hrv hat hhd hbd
          go_wp2_with fail
          refine HAT.out.mono ?_
          rintro e w3 ⟨rfl, hb3⟩
          have q2' := (hb3.cell (p := ⟨b, o + k * 3 + 2, none⟩) hbl).trans q2
          have hbl3 : b < w3.heap.size := Nat.lt_of_lt_of_le hbl hb3.size
          have HB3 := Lib.hid (HI.out.trans (hb3.mono HI.out.size))
          have HBD3 := Lib.hid (HBODY.out.below keeps_li hb3)
          clear hb3 q0 q1 q2 HAT HSr
          go_wp2_with fail
          obtain ⟨wo, rfl⟩ : ∃ wo : World, wo = wr := ⟨_, rfl⟩
          go_loopw [7] (fun j wr => ∃ m : Nat, m ≤ bd.length ∧ j = .int .i64 m ∧ Hid (Below w3.heap.size w3 wr)) (fun j _ => bd.length - (intOf j).toNat)
          case atStart => exact ⟨0, Nat.zero_le _, rfl, Below.refl _ _⟩
          case round =>
            obtain ⟨m, hm, rfl, HJ⟩ := hrel
            have c2 := (HJ.out.cell (p := ⟨b, o + k * 3 + 2, none⟩) hbl3).trans q2'
            have hblq : b < wr.heap.size := Nat.lt_of_lt_of_le hbl3 HJ.out.size
            have HBDq := Lib.hid (HBD3.out.below keeps_li HJ.out)
            clear q2'
            by_cases hmk : m < bd.length
            · obtain ⟨b5, o5, nm5, A5, cp5, a5, rfl, hb5l, hat5, htm5, p0, p1, p2⟩ := HBDq.out.li m hmk
              have hv5 := HBV.out _ (List.getElem_mem hmk)
              rw [hat5] at hv5
              have HAT5 := Lib.hid (latom_any wr _ nm5 A5 cp5 a5 htm5 (atom_tmb hv5))
              rw [hv5] at HAT5
              clear htm5 hv5 hat5 p0
              go_wp2_with fail
              refine HAT5.out.mono ?_
              rintro e w5 ⟨rfl, hb5⟩
              have HB5 := Lib.hid (HJ.out.trans (hb5.mono HJ.out.size))
              clear hb5
              go_wp2_with fail
              go_roundw
              case rel => exact ⟨m + 1, by omega, by go_num, HB5.out⟩
              case measure => simp [intOf]; omega
            · go_wp2_with fail
              go_roundw
              case rel => exact ⟨k + 1, by omega, by go_num, HB3.out.trans (HJ.out.mono HB3.out.size)⟩
              case measure => simp [intOf]; omega
        · go_wp2_with fail
          refine (awake_any wr (HW1.out.below HI.out HW1.out.1)).mono ?_
          rintro e w4 ⟨rfl, hb4⟩
          have HB4 := Lib.hid ((HB1.out.trans (HI.out.mono HB1.out.size)).trans (hb4.mono (by have := HB1.out.size; have := HI.out.size; omega)))
          clear hb4
          go_wp2_with fail
          go_ret
          exact ⟨rfl, HB4.out⟩
end Go.Proofs.YtnlphgpcpdfjhaaDoor
