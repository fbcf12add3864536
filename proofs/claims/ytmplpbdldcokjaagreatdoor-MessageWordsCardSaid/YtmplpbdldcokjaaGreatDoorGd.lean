/- The walks of term.within, term.Valid, printer.atom and the reference's Atom. -/
import Derived.Test.YtmplpbdldcokjaaGreatDoorGc
import Derived.Test.YtmplpbdldcokjaaGreatDoorWn
namespace Go.Proofs.YtmplpbdldcokjaaGreatDoor
open Go Go.RowKit Go.Shelf
set_option linter.unusedSimpArgs false

set_option maxHeartbeats 1000000 in
theorem isnum_any (w : World) (s : ByteArray) : Calls Tryz.prog 110 #[.string s] w fun e w' => e = .returned (.bool (numF s.data.toList)) ∧ w = w' := by
  have CN := Lib.hid (number_any w s)
  go_enter Tryz.func110, Tryz.ntmps110
  go_wp2_with fail
  refine CN.out.mono ?_
  rintro e w1 ⟨rfl, rfl⟩
  go_wp2_with fail
  go_ret
  exact ⟨rfl, rfl⟩
set_option maxHeartbeats 8000000 in
set_option maxRecDepth 100000 in
theorem within_any (v : Bool) : ∀ (n : Nat) (_ : n ≤ 4) (w : World) (P : Nat → Prop) (t : Tm) (nm : List UInt8) (A : Option Addr) (cp : Nat) (l : List Tm), t = .mk nm l → TmV w P [.string (bs nm), .slice A l.length cp] t → TmB t → (∀ b, P b → b < w.heap.size) →
    Calls Tryz.prog 86 #[.agg #[.string (bs nm), .slice A l.length cp], .int .i64 n, .bool v] w (OutB w (.bool (validT v n t))) := by
  intro n
  induction n with
  | zero =>
    intro _ w P t nm A cp l ht hv hb hP
    have HB := Lib.hid (one_box w (.cells #[.string (bs nm), .slice A l.length cp] 25)).1
    clear hv hP hb
    go_enter Tryz.func86, Tryz.ntmps86
    go_wp2_with fail
    go_ret
    exact ⟨by rw [validT]; rfl, HB.out⟩
  | succ n ih =>
    intro h4 w P t nm A cp l ht hv hb hP
    subst ht
    cases hb with
    | mk _ _ hn hl hall =>
    have IH := Lib.hid ih
    have HBX := Lib.hid (one_box w (.cells #[.string (bs nm), .slice A l.length cp] 25))
    obtain ⟨xs', hxl, harr, hel⟩ := hv.parts
    have HV := Lib.hid (And.intro hxl (And.intro harr (And.intro hel (And.intro hP hall))))
    clear ih hv hxl harr hel hP hall
    have hn1 : ((n + 1 : Nat) : Int) = (n : Int) + 1 := by omega
    rw [hn1]
    have hnn : (0 : Int) ≤ (n : Int) := by omega
    have hn4 : (n : Int) ≤ 3 := by omega
    clear hn1
    have CN := Lib.hid (fun (y : World) => name_any y (bs nm) (by rw [size_bs]; exact hn))
    have CV := Lib.hid (fun (y : World) => variable_any y (bs nm) (by rw [size_bs]; exact hn))
    have CU := Lib.hid (fun (y : World) => isnum_any y (bs nm))
    rw [toList_bs] at CN CV CU
    by_cases hl0 : l = []
    · subst hl0
      rw [validT_leaf]
      generalize nameF nm = p1 at *
      generalize numF nm = p2 at *
      generalize varF nm = p3 at *
      have hlt := (Array.getElem?_eq_some_iff.1 HBX.out.2).1
      cases p1
      rotate_left
      focus
        go_enter Tryz.func86, Tryz.ntmps86
        go_wp2_with fail
        generalize w.alloc (.cells #[.string (bs nm), .slice A ([] : List Tm).length cp] 25) = w0 at *
        refine (CN.out w0).mono ?_
        rintro e w1 ⟨rfl, hb⟩
        have HB1 := Lib.hid (HBX.out.1.trans (hb.mono HBX.out.1.size))
        clear hb
        go_wp2_with fail
        go_ret
        exact ⟨by simp, HB1.out⟩
      cases p2
      rotate_left
      focus
        go_enter Tryz.func86, Tryz.ntmps86
        go_wp2_with fail
        generalize w.alloc (.cells #[.string (bs nm), .slice A ([] : List Tm).length cp] 25) = w0 at *
        refine (CN.out w0).mono ?_
        rintro e w1 ⟨rfl, hb⟩
        have HB1 := Lib.hid (HBX.out.1.trans (hb.mono HBX.out.1.size))
        have c0 := (hb.cell (p := ⟨w.heap.size, 0, none⟩) hlt).trans (cell_blk HBX.out.2 0)
        clear hb
        go_wp2_with fail
        refine (CU.out w1).mono ?_
        rintro e w2 ⟨rfl, rfl⟩
        go_wp2_with fail
        go_ret
        exact ⟨by simp, HB1.out⟩
      cases v
      focus
        go_enter Tryz.func86, Tryz.ntmps86
        go_wp2_with fail
        generalize w.alloc (.cells #[.string (bs nm), .slice A ([] : List Tm).length cp] 25) = w0 at *
        refine (CN.out w0).mono ?_
        rintro e w1 ⟨rfl, hb⟩
        have HB1 := Lib.hid (HBX.out.1.trans (hb.mono HBX.out.1.size))
        have c0 := (hb.cell (p := ⟨w.heap.size, 0, none⟩) hlt).trans (cell_blk HBX.out.2 0)
        clear hb
        go_wp2_with fail
        refine (CU.out w1).mono ?_
        rintro e w2 ⟨rfl, rfl⟩
        go_wp2_with fail
        go_ret
        exact ⟨by simp, HB1.out⟩
      go_enter Tryz.func86, Tryz.ntmps86
      go_wp2_with fail
      generalize w.alloc (.cells #[.string (bs nm), .slice A ([] : List Tm).length cp] 25) = w0 at *
      refine (CN.out w0).mono ?_
      rintro e w1 ⟨rfl, hb⟩
      have HB1 := Lib.hid (HBX.out.1.trans (hb.mono HBX.out.1.size))
      have c0 := (hb.cell (p := ⟨w.heap.size, 0, none⟩) hlt).trans (cell_blk HBX.out.2 0)
      clear hb
      go_wp2_with fail
      refine (CU.out w1).mono ?_
      rintro e w2 ⟨rfl, rfl⟩
      go_wp2_with fail
      refine (CV.out w1).mono ?_
      rintro e w2 ⟨rfl, hb⟩
      have HB2 := Lib.hid (HB1.out.trans (hb.mono HB1.out.size))
      clear hb
      go_wp2_with fail
      go_ret
      exact ⟨by simp, HB2.out⟩
    have hne : 0 < l.length := List.length_pos_iff.2 hl0
    have HT := Lib.hid (validT_node (v := v) (n := n) (nm := nm) (l := l) (by omega))
    have hz : ((l.length : Int) == 0) = false := by simp; omega
    clear hl0 CV CU
    by_cases h5 : 4 < l.length
    · have d5 : (4 : Int) < (l.length : Int) := by omega
      go_enter Tryz.func86, Tryz.ntmps86
      go_wp2_with fail
      go_ret
      exact ⟨by rw [HT.out, decide_eq_false (by omega : ¬ l.length ≤ 4)]; simp, HBX.out.1⟩
    have d5 : decide ((4 : Int) < (l.length : Int)) = false := by simp; omega
    have hle : l.length ≤ 4 := by omega
    clear h5
    go_enter Tryz.func86, Tryz.ntmps86
    go_wp2_with fail
    clear d5
    generalize w.alloc (.cells #[.string (bs nm), .slice A l.length cp] 25) = w0 at *
    go_loopw [40] (fun i wr => ∃ k : Nat, k ≤ l.length ∧ i = .int .i64 k ∧ Hid ((l.take k).all (validT v n) = true ∧ Below w0.heap.size w0 wr)) (fun i _ => l.length - (intOf i).toNat)
    case atStart => exact ⟨0, Nat.zero_le _, rfl, by simp, Below.refl _ _⟩
    case round =>
      obtain ⟨k, hk, rfl, HX⟩ := hrel
      have HBW := Lib.hid (HBX.out.1.trans (HX.out.2.mono HBX.out.1.size))
      have HBR := Lib.hid ((HX.out.2.block _ (Array.getElem?_eq_some_iff.1 HBX.out.2).1).trans HBX.out.2)
      by_cases hlk : k < l.length
      rotate_left
      · obtain rfl : k = l.length := by omega
        have hall := HX.out.1
        rw [List.take_length] at hall
        have c0 := cell_blk HBR.out 0
        have HAL := Lib.hid hall
        clear hall
        go_wp2_with fail
        refine (CN.out wr).mono ?_
        rintro e w1 ⟨rfl, hb⟩
        have HB1 := Lib.hid (HBW.out.trans (hb.mono HBW.out.size))
        clear hb
        go_wp2_with fail
        go_ret
        exact ⟨by rw [HT.out, HAL.out, decide_eq_true (by omega : l.length ≤ 4)]; simp, HB1.out⟩
      obtain ⟨t, ht⟩ : ∃ t, l[k]? = some t := ⟨_, List.getElem?_eq_getElem hlk⟩
      obtain ⟨x, hx⟩ : ∃ x, xs'[k]? = some x := ⟨_, List.getElem?_eq_getElem (by rw [HV.out.1]; exact hlk)⟩
      have hv := HV.out.2.2.1 k x t hx ht
      obtain ⟨nm', A', cp', l', rfl, rfl⟩ := hv.form
      obtain ⟨b0, o0, rfl, hb0, hbl, hc⟩ := HV.out.2.1 (by rw [HV.out.1]; omega)
      have f0 := (HBW.out.cell (p := ⟨b0, o0 + k * 2, none⟩) hbl).trans (hc k _ hx 0 _ rfl)
      have f1 := (HBW.out.cell (p := ⟨b0, o0 + k * 2 + 1, none⟩) hbl).trans (hc k _ hx 1 _ rfl)
      have hTB := HV.out.2.2.2.2 _ (List.mem_of_getElem? ht)
      have HA1 := Lib.hid (all_take_snoc (validT v n) l k hlk)
      have HA2 := Lib.hid (all_no_at (validT v n) l k hlk)
      obtain ⟨_, hlt'⟩ := List.getElem?_eq_some_iff.1 ht
      rw [hlt'] at HA1 HA2
      have HB3 := Lib.hid (one_box wr (.cells #[.string (bs nm'), .slice A' l'.length cp'] 25))
      have CT := Lib.hid (fun (y : World) (hy : Below wr.heap.size wr y) => IH.out (by omega) y P (.mk nm' l') nm' A' cp' l' rfl (hv.keep (fun b' hp hb' => ⟨hp, ((HBW.out.trans (hy.mono HBW.out.size)).block b' hb')⟩) (Nat.le_trans HBW.out.size hy.size)) hTB (fun b' hp => Nat.lt_of_lt_of_le (HV.out.2.2.2.1 b' hp) (Nat.le_trans HBW.out.size hy.size)))
      clear hv hx hc ht HBR hTB hlt'
      generalize validT v n (.mk nm' l') = r at *
      cases r
      all_goals
        go_wp2_with fail
        generalize wr.alloc (.cells #[.string (bs nm'), .slice A' l'.length cp'] 25) = w3 at *
        refine (CT.out w3 HB3.out.1).mono ?_
        rintro e w4 ⟨rfl, hb⟩
        have HB4 := Lib.hid (HX.out.2.trans ((HB3.out.1.trans (hb.mono HB3.out.1.size)).mono HX.out.2.size))
        clear hb
        go_wp2_with fail
      · go_ret
        exact ⟨by rw [HT.out, HA2.out (by simp)]; simp, HBX.out.1.trans (HB4.out.mono HBX.out.1.size)⟩
      · go_roundw
        case rel => exact ⟨k + 1, by omega, by go_num, by rw [HA1.out, HX.out.1]; rfl, HB4.out⟩
        case measure => simp [intOf]; omega

end Go.Proofs.YtmplpbdldcokjaaGreatDoor
