/- The walk of the reference's Text. -/
import Derived.Test.YtmplpbdldcokjaaGreatDoorXg
namespace Go.Proofs.YtmplpbdldcokjaaGreatDoor
open Go Go.RowKit Go.Shelf
set_option linter.unusedSimpArgs false

theorem str_add {P : Program} {w : World} {a b : ByteArray} (h : a.size + b.size ≤ maxLen) : (Op.stringOp .add a b).run P w = .ok (.string (a ++ b)) w := by
  unfold maxLen at h
  simp [Op.stringOp]
  omega
theorem bs_app (a b : List UInt8) : bs a ++ bs b = bs (a ++ b) := by
  apply ByteArray.ext
  unfold bs
  rw [ByteArray.data_append]
  simp
theorem str_add_l {P : Program} {w : World} (a b : List UInt8) (h : a.length + b.length ≤ 1000000000) : (Op.stringOp .add (bs a) (bs b)).run P w = .ok (.string (bs (a ++ b))) w := by
  rw [← bs_app]
  exact str_add (by unfold bs; show a.toArray.size + b.toArray.size ≤ _; rw [List.size_toArray, List.size_toArray]; unfold maxLen; omega)

set_option maxHeartbeats 8000000 in
set_option maxRecDepth 100000 in
theorem rtext_any (N : Nat) : ∀ (t : Tm) (w : World) (P : Nat → Prop) (nm : List UInt8) (A : Option Addr) (cp : Nat) (l : List Tm), wT t ≤ N → t = .mk nm l → TmV w P [.string (bs nm), .slice A l.length cp] t → (∀ b, P b → b < w.heap.size) → wT t ≤ 400000000 →
    Calls Tryz.prog 71 #[.agg #[.string (bs nm), .slice A l.length cp]] w (OutB w (.string (bs (textT t)))) := by
  induction N with
  | zero =>
    intro t w P nm A cp l hN ht
    subst ht
    rw [wT] at hN
    omega
  | succ N ih =>
    intro t w P nm A cp l hN ht hv hP hw
    subst ht
    rw [wT] at hN hw
    have IH := Lib.hid ih
    have HBX := Lib.hid (one_box w (.cells #[.string (bs nm), .slice A l.length cp] 25))
    obtain ⟨xs', hxl, harr, hel⟩ := hv.parts
    have HV := Lib.hid (And.intro hxl (And.intro harr (And.intro hel hP)))
    clear ih hv hxl harr hel hP
    by_cases hl0 : l = []
    · subst hl0
      rw [textT]
      go_enter Tryz.func71, Tryz.ntmps71
      go_wp2_with fail
      go_ret
      exact ⟨rfl, HBX.out.1⟩
    have hne : 0 < l.length := List.length_pos_iff.2 hl0
    have HT := Lib.hid (textT_node nm l hl0)
    have hz : ((l.length : Int) == 0) = false := by simp; omega
    have hll := wL_len l
    have hlb : l.length ≤ 450000000 := by omega
    have hadd0 : ∀ y : World, (Op.stringOp .add (bs nm) ⟨#[40]⟩).run Tryz.prog y = .ok (.string (bs (nm ++ [40] ++ textA (l.take 0)))) y := fun y => by
      have := str_add_l (P := Tryz.prog) (w := y) nm [40] (by simp; omega)
      rw [List.take_zero, textA, List.append_nil]
      exact this
    clear hl0
    generalize hs0 : bs (nm ++ [40] ++ textA (l.take 0)) = s0 at *
    have HS0 := Lib.hid hs0
    clear hs0
    go_enter Tryz.func71, Tryz.ntmps71
    go_wp2_with fail
    clear hadd0
    generalize hbn : bs nm = bnm at *
    have HBN := Lib.hid hbn
    clear hbn
    generalize w.alloc (.cells #[.string bnm, .slice A l.length cp] 25) = w0 at *
    go_loopw [3, 17] (fun s i wr => ∃ k : Nat, k ≤ l.length ∧ i = .int .i64 k ∧ s = .string (bs (nm ++ [40] ++ textA (l.take k))) ∧ Hid (Below w0.heap.size w0 wr)) (fun _ i _ => l.length - (intOf i).toNat)
    case atStart => exact ⟨0, Nat.zero_le _, rfl, by rw [HS0.out], Below.refl _ _⟩
    case round =>
      clear HS0
      obtain ⟨k, hk, rfl, rfl, HB⟩ := hrel
      have hlA := textA_len (l.take k)
      have HBW := Lib.hid (HBX.out.1.trans (HB.out.mono HBX.out.1.size))
      by_cases hlk : k < l.length
      rotate_left
      · obtain rfl : k = l.length := by omega
        rw [List.take_length] at hlA ⊢
        have hadd : ∀ y : World, (Op.stringOp .add (bs (nm ++ [40] ++ textA l)) ⟨#[41]⟩).run Tryz.prog y = .ok (.string (bs (textT (.mk nm l)))) y := fun y => by
          have := str_add_l (P := Tryz.prog) (w := y) (nm ++ [40] ++ textA l) [41] (by simp; omega)
          rw [HT.out]
          simp only [List.append_assoc, List.cons_append, List.nil_append] at this ⊢
          exact this
        generalize bs (nm ++ [40] ++ textA l) = sk at *
        generalize bs (textT (.mk nm l)) = sf at *
        go_wp2_with fail
        go_ret
        exact ⟨rfl, HBW.out⟩
      obtain ⟨t, ht⟩ : ∃ t, l[k]? = some t := ⟨_, List.getElem?_eq_getElem hlk⟩
      obtain ⟨x, hx⟩ : ∃ x, xs'[k]? = some x := ⟨_, List.getElem?_eq_getElem (by rw [HV.out.1]; exact hlk)⟩
      have hv := HV.out.2.2.1 k x t hx ht
      obtain ⟨nm', A', cp', l', rfl, rfl⟩ := hv.form
      obtain ⟨b0, o0, rfl, hb0, hbl, hc⟩ := HV.out.2.1 (by rw [HV.out.1]; omega)
      have f0 := (HBW.out.cell (p := ⟨b0, o0 + k * 2, none⟩) hbl).trans (hc k _ hx 0 _ rfl)
      have f1 := (HBW.out.cell (p := ⟨b0, o0 + k * 2 + 1, none⟩) hbl).trans (hc k _ hx 1 _ rfl)
      have hw2 := wL_at ht
      have htl := textT_len (.mk nm' l')
      have HTK := Lib.hid (textA_take ht)
      have HVT := Lib.hid hv
      have HBR := Lib.hid ((HB.out.block _ (Array.getElem?_eq_some_iff.1 HBX.out.2).1).trans HBX.out.2)
      have c1 := cell_blk HBR.out 1
      have CT := Lib.hid (fun (y : World) (hy : Below wr.heap.size wr y) => IH.out (.mk nm' l') y P nm' A' cp' l' (by omega) rfl (HVT.out.keep (fun b' hp hb' => ⟨hp, ((HBW.out.trans (hy.mono HBW.out.size)).block b' hb')⟩) (Nat.le_trans HBW.out.size hy.size)) (fun b' hp => Nat.lt_of_lt_of_le (HV.out.2.2.2 b' hp) (Nat.le_trans HBW.out.size hy.size)) (by omega))
      clear hv hx hc ht HBR
      by_cases hk0 : k = 0
      focus
        have d1 : decide ((0 : Int) < (k : Int)) = false := by simp; omega
        have d2 : ¬ 0 < k := by omega
        rw [if_pos hk0, List.nil_append] at HTK
        have hadd : ∀ y : World, (Op.stringOp .add (bs (nm ++ [40] ++ textA (l.take k))) (bs (textT (.mk nm' l')))).run Tryz.prog y = .ok (.string (bs (nm ++ [40] ++ textA (l.take (k + 1))))) y := fun y => by
          have := str_add_l (P := Tryz.prog) (w := y) (nm ++ [40] ++ textA (l.take k)) (textT (.mk nm' l')) (by simp; omega)
          rw [HTK.out, ← List.append_assoc]
          exact this
        clear hk0
        generalize hq : bs (nm ++ [40] ++ textA (l.take (k + 1))) = s2 at *
        have HQ := Lib.hid hq
        clear hq
        generalize bs (nm ++ [40] ++ textA (l.take k)) = sk at *
        generalize bs (textT (.mk nm' l')) = st at *
        go_wp2_with fail
        refine (CT.out _ (Below.refl _ _)).mono ?_
        rintro e w5 ⟨rfl, hb⟩
        have HB5 := Lib.hid (HB.out.trans (hb.mono HB.out.size))
        clear hb
        go_wp2_with fail
        go_roundw
        case rel => exact ⟨k + 1, by omega, by go_num, by rw [HQ.out], HB5.out⟩
        case measure => simp [intOf]; omega
      have d1 : decide ((0 : Int) < (k : Int)) = true := by simp; omega
      have d2 : 0 < k := by omega
      rw [if_neg hk0] at HTK
      have hadd1 : ∀ y : World, (Op.stringOp .add (bs (nm ++ [40] ++ textA (l.take k))) ⟨#[44]⟩).run Tryz.prog y = .ok (.string (bs (nm ++ [40] ++ textA (l.take k) ++ [44]))) y := fun y => str_add_l (nm ++ [40] ++ textA (l.take k)) [44] (by simp; omega)
      have hadd : ∀ y : World, (Op.stringOp .add (bs (nm ++ [40] ++ textA (l.take k) ++ [44])) (bs (textT (.mk nm' l')))).run Tryz.prog y = .ok (.string (bs (nm ++ [40] ++ textA (l.take (k + 1))))) y := fun y => by
        have := str_add_l (P := Tryz.prog) (w := y) (nm ++ [40] ++ textA (l.take k) ++ [44]) (textT (.mk nm' l')) (by simp; omega)
        rw [HTK.out]
        simp only [List.append_assoc] at this ⊢
        exact this
      clear hk0
      generalize hq : bs (nm ++ [40] ++ textA (l.take (k + 1))) = s2 at *
      have HQ := Lib.hid hq
      clear hq
      generalize bs (nm ++ [40] ++ textA (l.take k) ++ [44]) = s1 at *
      generalize bs (nm ++ [40] ++ textA (l.take k)) = sk at *
      generalize bs (textT (.mk nm' l')) = st at *
      go_wp2_with fail
      refine (CT.out _ (Below.refl _ _)).mono ?_
      rintro e w5 ⟨rfl, hb⟩
      have HB5 := Lib.hid (HB.out.trans (hb.mono HB.out.size))
      clear hb
      go_wp2_with fail
      go_roundw
      case rel => exact ⟨k + 1, by omega, by go_num, by rw [HQ.out], HB5.out⟩
      case measure => simp [intOf]; omega
end Go.Proofs.YtmplpbdldcokjaaGreatDoor
