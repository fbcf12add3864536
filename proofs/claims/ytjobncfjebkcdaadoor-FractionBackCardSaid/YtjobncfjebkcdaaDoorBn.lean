/- The walk of the reference's Parse. -/
import Derived.Test.YtjobncfjebkcdaaDoorBk
import Derived.Test.YtjobncfjebkcdaaDoorBl
import Derived.Test.YtjobncfjebkcdaaDoorBm
namespace Go.Proofs.YtjobncfjebkcdaaDoor
open Go Go.RowKit Go.Shelf
set_option linter.unusedSimpArgs false


theorem wholeB (s : ByteArray) (v : Int) (h : wholeF s.data.toList = v) (w : World) : Calls Tryd.prog 49 #[.string s] w (OutB w (.int .i64 v)) :=
  (whole_any w s).mono fun e w' hy => ⟨by rw [← h]; exact hy.1, by obtain ⟨k, hk⟩ := hy.2; rw [hk]; exact below_drewN (Below.refl _ _) k⟩
theorem ext_take (T : ByteArray) (a : Nat) : (T.extract 0 a).data.toList = T.data.toList.take a := by
  rw [ByteArray.data_extract]; simp
theorem ext_drop (T : ByteArray) (a : Nat) : (T.extract a T.size).data.toList = T.data.toList.drop a := by
  rw [ByteArray.data_extract]
  have : T.data.toList.length = T.size := by simp
  simp only [Array.toList_extract, List.extract_eq_take_drop]
  exact List.take_of_length_le (by rw [List.length_drop, this]; exact Nat.le_refl _)
theorem rparse_any (w : World) (s : ByteArray) (hs : s.size ≤ 4294967280) : Calls Tryd.prog 37 #[.string s] w (OutF w (parseF s.data.toList)) := by
  have hsl : s.data.toList.length = s.size := by simp
  rw [rparse_eq]
  -- the number behind the sign
  obtain ⟨nm, hnm⟩ : ∃ nm, rnumF s.data.toList = nm := ⟨_, rfl⟩
  obtain ⟨dn, hdn⟩ : ∃ dn, rdenF s.data.toList = dn := ⟨_, rfl⟩
  have b1 := wholeF_le ((tF s.data.toList).take (atF (tF s.data.toList)))
  have b2 := wholeF_le ((tF s.data.toList).drop (atF (tF s.data.toList) + 1))
  have hnb : -1 ≤ nm ∧ nm < 10000000000 := by rw [← hnm]; exact b1
  have hdb : -1 ≤ dn ∧ dn < 10000000000 := by
    rw [← hdn]
    unfold rdenF
    split
    · exact b2
    · omega
  by_cases h0 : s.size = 0
  · have he : s.data.toList = [] := List.eq_nil_of_length_eq_zero (by omega)
    have hn0 : nm = -1 := by rw [← hnm, he]; rfl
    have hr : rcandF s.data.toList = none := by unfold rcandF; rw [hnm, if_pos (by omega)]
    rw [hr]
    exact rp_nil_n_neg w s (by omega) h0 0 h0.symm (show aK s.data.toList s.size = 0 by rw [he, h0]; rfl) (-1) (Lib.hid (wholeB _ _ (by rw [ext_take, he]; rfl))) (by omega)
  obtain ⟨c, r, hcr⟩ : ∃ c r, s.data.toList = c :: r := by
    cases h : s.data.toList with
    | nil => rw [h] at hsl; simp at hsl; omega
    | cons c r => exact ⟨c, r, rfl⟩
  have hc0 : s[0] = c := by
    have : s.data.toList[0]'(by omega) = c := by simp only [hcr, List.getElem_cons_zero]
    exact this
  by_cases hng : c = 45
  · -- behind a sign
    have hneg : negF s.data.toList = true := by rw [hcr, hng]; rfl
    have htF : tF s.data.toList = r := by unfold tF; rw [hneg, hcr]; rfl
    obtain ⟨T, hT⟩ : ∃ T, s.extract 1 s.size = T := ⟨_, rfl⟩
    have hTl : T.data.toList = r := by rw [← hT, ext_drop, hcr]; rfl
    have hTs : s.size - 1 = T.size := by rw [← hT]; simp
    have hTn : T.data.toList.length = T.size := by simp
    have h45 : ((s[0].toNat : Int) == 45) = true := by rw [hc0, hng]; rfl
    have hle := atF_le r
    rw [hTl] at hTn
    have HA0 : aK T.data.toList T.size = atF r := by rw [hTl, ← hTn, aK_full]
    have W1 := Lib.hid (wholeB (T.extract 0 (atF r)) nm (by rw [ext_take, hTl, ← hnm]; unfold rnumF; rw [htF]))
    by_cases hsn : nm < 0
    · have hr : rcandF s.data.toList = none := by unfold rcandF; rw [hnm, if_pos hsn]
      rw [hr]
      by_cases hsl2 : atF r < T.size
      · exact rp_neg_s_neg w s T hT hTs (by omega) (by omega) h45 (atF r) hsl2 HA0 nm W1 dn (Lib.hid (wholeB _ _ (by rw [ext_drop, hTl, ← hdn]; unfold rdenF; rw [htF, if_pos (by omega)]))) hsn
      · exact rp_neg_n_neg w s T hT hTs (by omega) (by omega) h45 (atF r) (by omega) HA0 nm W1 hsn
    have hr : rcandF s.data.toList = some ⟨-nm, dn⟩ := by unfold rcandF; rw [hnm, hdn, hneg, if_neg hsn, if_pos rfl]
    rw [hr]
    have hfi : FI ⟨-nm, dn⟩ := ⟨by unfold I64; simp only; omega, by unfold I64; simp only; omega⟩
    have V := Lib.hid (fun w => rvalid_any w ⟨-nm, dn⟩ hfi)
    have TX := Lib.hid (fun w => rtext_any w ⟨-nm, dn⟩ hfi)
    by_cases hsl2 : atF r < T.size
    · by_cases hv : FrOk ⟨-nm, dn⟩
      rotate_left
      · rw [show decide (FrOk ⟨-nm, dn⟩) = false from by simp [hv]] at V
        simp only [hv, false_and, if_false]
        exact rp_neg_s_inv w s T hT hTs (by omega) (by omega) h45 (atF r) hsl2 HA0 nm W1 dn (Lib.hid (wholeB _ _ (by rw [ext_drop, hTl, ← hdn]; unfold rdenF; rw [htF, if_pos (by omega)]))) (by omega) hnb.2 V
      rw [show decide (FrOk ⟨-nm, dn⟩) = true from by simp [hv]] at V
      by_cases hq : textF ⟨-nm, dn⟩ = s.data.toList
      · simp only [hv, hq, and_self, if_true]
        rw [hq] at TX
        exact rp_neg_s_ok w s T hT hTs (by omega) (by omega) h45 (atF r) hsl2 HA0 nm W1 dn (Lib.hid (wholeB _ _ (by rw [ext_drop, hTl, ← hdn]; unfold rdenF; rw [htF, if_pos (by omega)]))) (by omega) hnb.2 V TX
      · simp only [hv, hq, and_false, if_false]
        exact rp_neg_s_off w s T hT hTs (by omega) (by omega) h45 (atF r) hsl2 HA0 nm W1 dn (Lib.hid (wholeB _ _ (by rw [ext_drop, hTl, ← hdn]; unfold rdenF; rw [htF, if_pos (by omega)]))) (by omega) hnb.2 V _ (bs_off hq) TX
    · have hd1 : dn = 1 := by rw [← hdn]; unfold rdenF; rw [htF, if_neg (by omega)]
      subst hd1
      by_cases hv : FrOk ⟨-nm, 1⟩
      rotate_left
      · rw [show decide (FrOk ⟨-nm, 1⟩) = false from by simp [hv]] at V
        simp only [hv, false_and, if_false]
        exact rp_neg_n_inv w s T hT hTs (by omega) (by omega) h45 (atF r) (by omega) HA0 nm W1 (by omega) hnb.2 V
      rw [show decide (FrOk ⟨-nm, 1⟩) = true from by simp [hv]] at V
      by_cases hq : textF ⟨-nm, 1⟩ = s.data.toList
      · simp only [hv, hq, and_self, if_true]
        rw [hq] at TX
        exact rp_neg_n_ok w s T hT hTs (by omega) (by omega) h45 (atF r) (by omega) HA0 nm W1 (by omega) hnb.2 V TX
      · simp only [hv, hq, and_false, if_false]
        exact rp_neg_n_off w s T hT hTs (by omega) (by omega) h45 (atF r) (by omega) HA0 nm W1 (by omega) hnb.2 V _ (bs_off hq) TX
  · have h45 : ((s[0].toNat : Int) == 45) = false := by rw [hc0, beq_eq_false_iff_ne]; intro h; exact hng (by apply UInt8.toNat_inj.1; show _ = 45; omega)
    have hneg : negF s.data.toList = false := by rw [hcr]; simp [negF, hng]
    have htF : tF s.data.toList = s.data.toList := by unfold tF; rw [hneg]; rfl
    have hle := atF_le s.data.toList
    have HA0 : aK s.data.toList s.size = atF s.data.toList := by rw [← hsl, aK_full]
    have W1 := Lib.hid (wholeB (s.extract 0 (atF s.data.toList)) nm (by rw [ext_take, ← hnm]; unfold rnumF; rw [htF]))
    by_cases hsn : nm < 0
    · have hr : rcandF s.data.toList = none := by unfold rcandF; rw [hnm, if_pos hsn]
      rw [hr]
      by_cases hsl2 : atF s.data.toList < s.size
      · exact rp_pos_s_neg w s (by omega) (by omega) h45 (atF s.data.toList) hsl2 HA0 nm W1 dn (Lib.hid (wholeB _ _ (by rw [ext_drop, ← hdn]; unfold rdenF; rw [htF, if_pos (by omega)]))) hsn
      · exact rp_pos_n_neg w s (by omega) (by omega) h45 (atF s.data.toList) (by omega) HA0 nm W1 hsn
    have hr : rcandF s.data.toList = some ⟨nm, dn⟩ := by unfold rcandF; rw [hnm, hdn, hneg, if_neg hsn]; rfl
    rw [hr]
    have hfi : FI ⟨nm, dn⟩ := ⟨by unfold I64; simp only; omega, by unfold I64; simp only; omega⟩
    have V := Lib.hid (fun w => rvalid_any w ⟨nm, dn⟩ hfi)
    have TX := Lib.hid (fun w => rtext_any w ⟨nm, dn⟩ hfi)
    by_cases hsl2 : atF s.data.toList < s.size
    · by_cases hv : FrOk ⟨nm, dn⟩
      rotate_left
      · rw [show decide (FrOk ⟨nm, dn⟩) = false from by simp [hv]] at V
        simp only [hv, false_and, if_false]
        exact rp_pos_s_inv w s (by omega) (by omega) h45 (atF s.data.toList) hsl2 HA0 nm W1 dn (Lib.hid (wholeB _ _ (by rw [ext_drop, ← hdn]; unfold rdenF; rw [htF, if_pos (by omega)]))) (by omega) hnb.2 V
      rw [show decide (FrOk ⟨nm, dn⟩) = true from by simp [hv]] at V
      by_cases hq : textF ⟨nm, dn⟩ = s.data.toList
      · simp only [hv, hq, and_self, if_true]
        rw [hq] at TX
        exact rp_pos_s_ok w s (by omega) (by omega) h45 (atF s.data.toList) hsl2 HA0 nm W1 dn (Lib.hid (wholeB _ _ (by rw [ext_drop, ← hdn]; unfold rdenF; rw [htF, if_pos (by omega)]))) (by omega) hnb.2 V TX
      · simp only [hv, hq, and_false, if_false]
        exact rp_pos_s_off w s (by omega) (by omega) h45 (atF s.data.toList) hsl2 HA0 nm W1 dn (Lib.hid (wholeB _ _ (by rw [ext_drop, ← hdn]; unfold rdenF; rw [htF, if_pos (by omega)]))) (by omega) hnb.2 V _ (bs_off hq) TX
    · have hd1 : dn = 1 := by rw [← hdn]; unfold rdenF; rw [htF, if_neg (by omega)]
      subst hd1
      by_cases hv : FrOk ⟨nm, 1⟩
      rotate_left
      · rw [show decide (FrOk ⟨nm, 1⟩) = false from by simp [hv]] at V
        simp only [hv, false_and, if_false]
        exact rp_pos_n_inv w s (by omega) (by omega) h45 (atF s.data.toList) (by omega) HA0 nm W1 (by omega) hnb.2 V
      rw [show decide (FrOk ⟨nm, 1⟩) = true from by simp [hv]] at V
      by_cases hq : textF ⟨nm, 1⟩ = s.data.toList
      · simp only [hv, hq, and_self, if_true]
        rw [hq] at TX
        exact rp_pos_n_ok w s (by omega) (by omega) h45 (atF s.data.toList) (by omega) HA0 nm W1 (by omega) hnb.2 V TX
      · simp only [hv, hq, and_false, if_false]
        exact rp_pos_n_off w s (by omega) (by omega) h45 (atF s.data.toList) (by omega) HA0 nm W1 (by omega) hnb.2 V _ (bs_off hq) TX
end Go.Proofs.YtjobncfjebkcdaaDoor
