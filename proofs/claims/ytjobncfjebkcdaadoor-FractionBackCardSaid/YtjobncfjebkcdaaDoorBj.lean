/- The walk of the reference's Parse. -/
import Derived.Test.YtjobncfjebkcdaaDoorBi
namespace Go.Proofs.YtjobncfjebkcdaaDoor
open Go Go.RowKit Go.Shelf
set_option linter.unusedSimpArgs false

theorem aK_next (T : ByteArray) (k : Nat) (h : k < T.size) : aK T.data.toList (k + 1) = if T[k] = 47 ∧ aK T.data.toList k = T.size then k else aK T.data.toList k := by
  have hl : T.data.toList.length = T.size := by simp
  have := aK_step (t := T.data.toList) (k := k) (by omega)
  simp only [hl] at this
  exact this
set_option maxHeartbeats 8000000 in
set_option maxRecDepth 100000 in
theorem rp_neg_s_neg (w : World) (s : ByteArray) (T : ByteArray) (hT : s.extract 1 s.size = T) (hTs : s.size - 1 = T.size) (hTb : T.size ≤ 4294967281) (h0 : 0 < s.size) (t45 : ((s[0].toNat : Int) == 45) = true) (a : Nat) (ha : a < T.size) (HA0 : Hid (aK T.data.toList T.size = a)) (nm : Int) (W1 : Hid (∀ w, Calls Tryd.prog 49 #[.string (T.extract 0 a)] w (OutB w (.int .i64 nm)))) (dn : Int) (W2 : Hid (∀ w, Calls Tryd.prog 49 #[.string (T.extract (a + 1) T.size)] w (OutB w (.int .i64 dn)))) (hnm : nm < 0) : Calls Tryd.prog 37 #[.string s] w (OutF w (⟨0, 0⟩, 1)) := by
  have t0 : decide ((0 : Int) < (s.size : Int)) = true := by simp; omega
  have tl : decide ((a : Int) < (T.size : Int)) = true := by simp; omega
  have tl2 : decide (a < T.size) = true := by simp; omega
  have c1 : (a : Int) ≤ (T.size : Int) := by omega
  have c2 : (a : Int) + 1 ≤ (T.size : Int) := by omega
  have tn : decide (nm < 0) = true := by simp; omega
  clear ha
  go_enter Tryd.func37, Tryd.ntmps37
  go_wp2_with fail
  have HX := Lib.hid (show Bxs w (w.alloc (.cells #[.int .i64 0, .int .i64 0] 23)) _ from Bxs.one w ⟨0, 0⟩)
  generalize w.alloc (.cells #[.int .i64 0, .int .i64 0] 23) = w0 at *
  try simp only [hTs]
  go_loopw [6, 7, 25] (fun at_ _ i wr => ∃ k : Nat, k ≤ T.size ∧ i = .int .i64 k ∧ at_ = .int .i64 (aK T.data.toList k) ∧ Hid (∃ q, wr = w0.drewN q)) (fun _ _ i _ => T.size - (intOf i).toNat)
  case atStart => exact ⟨0, Nat.zero_le _, rfl, by rw [aK_zero]; simp, 0, rfl⟩
  case round =>
    obtain ⟨k, hk, rfl, rfl, HI⟩ := hrel
    by_cases hkT : k < T.size
    focus
      have hA := aK_next T k hkT
      obtain ⟨a2, ha2⟩ : ∃ a2, aK T.data.toList (k + 1) = a2 := ⟨_, rfl⟩
      have HA2 := Lib.hid ha2
      rw [ha2] at hA
      clear ha2
      generalize aK T.data.toList k = a1 at *
      by_cases h47 : T[k] = 47
      focus
        have t47 : ((T[k].toNat : Int) == 47) = true := by rw [h47]; rfl
        by_cases ha : a1 = T.size
        focus
          rw [if_pos ⟨h47, ha⟩] at hA
          have ta : ((a1 : Int) == (T.size : Int)) = true := by rw [ha]; simp
          subst hA
          clear h47 ha
          go_wp2_with fail
          go_roundw
          case rel => exact ⟨a2 + 1, by omega, by go_num, by rw [HA2.out], HI.out⟩
          case measure => simp [intOf]; omega
        focus
          rw [if_neg (fun hh => ha hh.2)] at hA
          have ta : ((a1 : Int) == (T.size : Int)) = false := by rw [beq_eq_false_iff_ne]; omega
          subst hA
          clear h47 ha
          go_wp2_with fail
          go_roundw
          case rel => exact ⟨k + 1, by omega, by go_num, by rw [HA2.out], HI.out⟩
          case measure => simp [intOf]; omega
      focus
        have t47 : ((T[k].toNat : Int) == 47) = false := by rw [beq_eq_false_iff_ne]; intro h; exact h47 (by apply UInt8.toNat_inj.1; show _ = 47; omega)
        rw [if_neg (fun hh => h47 hh.1)] at hA
        subst hA
        clear h47
        go_wp2_with fail
        go_roundw
        case rel => exact ⟨k + 1, by omega, by go_num, by rw [HA2.out], HI.out⟩
        case measure => simp [intOf]; omega
    obtain rfl : k = T.size := by omega
    clear hk hkT
    obtain ⟨q, hq⟩ := HI.out
    subst hq
    rw [HA0.out]
    replace HX := Lib.hid (HX.out.drew q)
    generalize w0.drewN q = w1 at *
    go_wp2_with fail
    refine (W1.out w1).mono ?_
    rintro e wc ⟨rfl, hb⟩
    replace HX := Lib.hid (HX.out.keep hb)
    clear hb
    have hc := HX.out.cells
    simp only [BCells] at hc
    have hz := HX.out.froz
    have HB1 := Lib.hid HX.out.below
    replace HX := Lib.hid (show Bxs w (wc.alloc (.cells #[.int .i64 nm, .int .i64 1] 23)) _ from HX.out.new ⟨nm, 1⟩)
    have hlt := HB1.out.size
    go_wp2_with fail
    clear hc hz
    generalize wc.alloc (.cells #[.int .i64 nm, .int .i64 1] 23) = w2 at *
    generalize wc.heap.size = q2 at *
    refine (W2.out w2).mono ?_
    rintro e wd ⟨rfl, hb⟩
    replace HX := Lib.hid (HX.out.keep hb)
    clear hb
    have hc := HX.out.cells
    simp only [BCells] at hc
    have hz := HX.out.froz
    have hz2 := (cells_two (HX.out.blk (w.heap.size, ⟨0, 0⟩) (by simp))).2.2
    have ho := HX.out.ord
    rw [List.pairwise_cons] at ho
    have hne : w.heap.size < q2 := ho.1 (w.heap.size, ⟨0, 0⟩) (by simp)
    have hge := HX.out.old
    clear ho
    replace HX := Lib.hid (show Bxs w (wd.setCell ⟨q2, 1, none⟩ (.int .i64 dn)) _ from HX.out.put1 dn)
    go_wp2_with fail
    refine bodyPost_ret (v := .tuple #[frV ⟨0, 0⟩, .int .i64 1]) (by simp [results, Tryd.results37, go_sem, frV, hc, hz, hz2]) rfl ?_
    exact ⟨rfl, (HX.out.below.setCell (p := ⟨_, 0, none⟩) (Nat.le_refl _) (.int .i64 0)).setCell (p := ⟨_, 1, none⟩) (Nat.le_refl _) (.int .i64 0)⟩

set_option maxHeartbeats 8000000 in
set_option maxRecDepth 100000 in
theorem rp_neg_s_inv (w : World) (s : ByteArray) (T : ByteArray) (hT : s.extract 1 s.size = T) (hTs : s.size - 1 = T.size) (hTb : T.size ≤ 4294967281) (h0 : 0 < s.size) (t45 : ((s[0].toNat : Int) == 45) = true) (a : Nat) (ha : a < T.size) (HA0 : Hid (aK T.data.toList T.size = a)) (nm : Int) (W1 : Hid (∀ w, Calls Tryd.prog 49 #[.string (T.extract 0 a)] w (OutB w (.int .i64 nm)))) (dn : Int) (W2 : Hid (∀ w, Calls Tryd.prog 49 #[.string (T.extract (a + 1) T.size)] w (OutB w (.int .i64 dn)))) (hnm : 0 ≤ nm) (hnm2 : nm < 10000000000) (V : Hid (∀ w, Calls Tryd.prog 13 #[(.agg #[.int .i64 (-nm), .int .i64 dn])] w (OutB w (.bool false)))) : Calls Tryd.prog 37 #[.string s] w (OutF w (⟨0, 0⟩, 1)) := by
  have t0 : decide ((0 : Int) < (s.size : Int)) = true := by simp; omega
  have tl : decide ((a : Int) < (T.size : Int)) = true := by simp; omega
  have tl2 : decide (a < T.size) = true := by simp; omega
  have c1 : (a : Int) ≤ (T.size : Int) := by omega
  have c2 : (a : Int) + 1 ≤ (T.size : Int) := by omega
  have tn : decide (nm < 0) = false := by simp; omega
  clear ha
  go_enter Tryd.func37, Tryd.ntmps37
  go_wp2_with fail
  have HX := Lib.hid (show Bxs w (w.alloc (.cells #[.int .i64 0, .int .i64 0] 23)) _ from Bxs.one w ⟨0, 0⟩)
  generalize w.alloc (.cells #[.int .i64 0, .int .i64 0] 23) = w0 at *
  try simp only [hTs]
  go_loopw [6, 7, 25] (fun at_ _ i wr => ∃ k : Nat, k ≤ T.size ∧ i = .int .i64 k ∧ at_ = .int .i64 (aK T.data.toList k) ∧ Hid (∃ q, wr = w0.drewN q)) (fun _ _ i _ => T.size - (intOf i).toNat)
  case atStart => exact ⟨0, Nat.zero_le _, rfl, by rw [aK_zero]; simp, 0, rfl⟩
  case round =>
    obtain ⟨k, hk, rfl, rfl, HI⟩ := hrel
    by_cases hkT : k < T.size
    focus
      have hA := aK_next T k hkT
      obtain ⟨a2, ha2⟩ : ∃ a2, aK T.data.toList (k + 1) = a2 := ⟨_, rfl⟩
      have HA2 := Lib.hid ha2
      rw [ha2] at hA
      clear ha2
      generalize aK T.data.toList k = a1 at *
      by_cases h47 : T[k] = 47
      focus
        have t47 : ((T[k].toNat : Int) == 47) = true := by rw [h47]; rfl
        by_cases ha : a1 = T.size
        focus
          rw [if_pos ⟨h47, ha⟩] at hA
          have ta : ((a1 : Int) == (T.size : Int)) = true := by rw [ha]; simp
          subst hA
          clear h47 ha
          go_wp2_with fail
          go_roundw
          case rel => exact ⟨a2 + 1, by omega, by go_num, by rw [HA2.out], HI.out⟩
          case measure => simp [intOf]; omega
        focus
          rw [if_neg (fun hh => ha hh.2)] at hA
          have ta : ((a1 : Int) == (T.size : Int)) = false := by rw [beq_eq_false_iff_ne]; omega
          subst hA
          clear h47 ha
          go_wp2_with fail
          go_roundw
          case rel => exact ⟨k + 1, by omega, by go_num, by rw [HA2.out], HI.out⟩
          case measure => simp [intOf]; omega
      focus
        have t47 : ((T[k].toNat : Int) == 47) = false := by rw [beq_eq_false_iff_ne]; intro h; exact h47 (by apply UInt8.toNat_inj.1; show _ = 47; omega)
        rw [if_neg (fun hh => h47 hh.1)] at hA
        subst hA
        clear h47
        go_wp2_with fail
        go_roundw
        case rel => exact ⟨k + 1, by omega, by go_num, by rw [HA2.out], HI.out⟩
        case measure => simp [intOf]; omega
    obtain rfl : k = T.size := by omega
    clear hk hkT
    obtain ⟨q, hq⟩ := HI.out
    subst hq
    rw [HA0.out]
    replace HX := Lib.hid (HX.out.drew q)
    generalize w0.drewN q = w1 at *
    go_wp2_with fail
    refine (W1.out w1).mono ?_
    rintro e wc ⟨rfl, hb⟩
    replace HX := Lib.hid (HX.out.keep hb)
    clear hb
    have hc := HX.out.cells
    simp only [BCells] at hc
    have hz := HX.out.froz
    have HB1 := Lib.hid HX.out.below
    replace HX := Lib.hid (show Bxs w (wc.alloc (.cells #[.int .i64 nm, .int .i64 1] 23)) _ from HX.out.new ⟨nm, 1⟩)
    have hlt := HB1.out.size
    go_wp2_with fail
    clear hc hz
    generalize wc.alloc (.cells #[.int .i64 nm, .int .i64 1] 23) = w2 at *
    generalize wc.heap.size = q2 at *
    refine (W2.out w2).mono ?_
    rintro e wd ⟨rfl, hb⟩
    replace HX := Lib.hid (HX.out.keep hb)
    clear hb
    have hc := HX.out.cells
    simp only [BCells] at hc
    have hz := HX.out.froz
    have hz2 := (cells_two (HX.out.blk (w.heap.size, ⟨0, 0⟩) (by simp))).2.2
    have ho := HX.out.ord
    rw [List.pairwise_cons] at ho
    have hne : w.heap.size < q2 := ho.1 (w.heap.size, ⟨0, 0⟩) (by simp)
    have hge := HX.out.old
    clear ho
    replace HX := Lib.hid (show Bxs w (wd.setCell ⟨q2, 1, none⟩ (.int .i64 dn)) _ from HX.out.put1 dn)
    replace HX := Lib.hid (show Bxs w ((wd.setCell ⟨q2, 1, none⟩ (.int .i64 dn)).setCell ⟨q2, 0, none⟩ (.int .i64 (-nm))) _ from HX.out.put0 (-nm))
    go_wp2_with fail
    clear hc hz hz2 hge hne
    generalize (wd.setCell ⟨q2, 1, none⟩ (.int .i64 dn)).setCell ⟨q2, 0, none⟩ (.int .i64 (-nm)) = w5 at *
    refine (V.out w5).mono ?_
    rintro e w6 ⟨rfl, hb⟩
    replace HX := Lib.hid (HX.out.keep hb)
    clear hb
    have hc := HX.out.cells
    simp only [BCells] at hc
    have hz := (cells_two (HX.out.blk (w.heap.size, ⟨0, 0⟩) (by simp))).2.2
    go_wp2_with fail
    refine bodyPost_ret (v := .tuple #[frV ⟨0, 0⟩, .int .i64 1]) (by simp [results, Tryd.results37, go_sem, frV, hc, hz]) rfl ?_
    exact ⟨rfl, by have hb := HX.out.below; clear HX hc; go_grown⟩

set_option maxHeartbeats 8000000 in
set_option maxRecDepth 100000 in
theorem rp_neg_n_neg (w : World) (s : ByteArray) (T : ByteArray) (hT : s.extract 1 s.size = T) (hTs : s.size - 1 = T.size) (hTb : T.size ≤ 4294967281) (h0 : 0 < s.size) (t45 : ((s[0].toNat : Int) == 45) = true) (a : Nat) (ha : a = T.size) (HA0 : Hid (aK T.data.toList T.size = a)) (nm : Int) (W1 : Hid (∀ w, Calls Tryd.prog 49 #[.string (T.extract 0 a)] w (OutB w (.int .i64 nm)))) (hnm : nm < 0) : Calls Tryd.prog 37 #[.string s] w (OutF w (⟨0, 0⟩, 1)) := by
  have t0 : decide ((0 : Int) < (s.size : Int)) = true := by simp; omega
  have tl : decide ((a : Int) < (T.size : Int)) = false := by simp; omega
  have tl2 : decide (a < T.size) = false := by simp; omega
  have c1 : (a : Int) ≤ (T.size : Int) := by omega
  have tn : decide (nm < 0) = true := by simp; omega
  clear ha
  go_enter Tryd.func37, Tryd.ntmps37
  go_wp2_with fail
  have HX := Lib.hid (show Bxs w (w.alloc (.cells #[.int .i64 0, .int .i64 0] 23)) _ from Bxs.one w ⟨0, 0⟩)
  generalize w.alloc (.cells #[.int .i64 0, .int .i64 0] 23) = w0 at *
  try simp only [hTs]
  go_loopw [6, 7, 25] (fun at_ _ i wr => ∃ k : Nat, k ≤ T.size ∧ i = .int .i64 k ∧ at_ = .int .i64 (aK T.data.toList k) ∧ Hid (∃ q, wr = w0.drewN q)) (fun _ _ i _ => T.size - (intOf i).toNat)
  case atStart => exact ⟨0, Nat.zero_le _, rfl, by rw [aK_zero]; simp, 0, rfl⟩
  case round =>
    obtain ⟨k, hk, rfl, rfl, HI⟩ := hrel
    by_cases hkT : k < T.size
    focus
      have hA := aK_next T k hkT
      obtain ⟨a2, ha2⟩ : ∃ a2, aK T.data.toList (k + 1) = a2 := ⟨_, rfl⟩
      have HA2 := Lib.hid ha2
      rw [ha2] at hA
      clear ha2
      generalize aK T.data.toList k = a1 at *
      by_cases h47 : T[k] = 47
      focus
        have t47 : ((T[k].toNat : Int) == 47) = true := by rw [h47]; rfl
        by_cases ha : a1 = T.size
        focus
          rw [if_pos ⟨h47, ha⟩] at hA
          have ta : ((a1 : Int) == (T.size : Int)) = true := by rw [ha]; simp
          subst hA
          clear h47 ha
          go_wp2_with fail
          go_roundw
          case rel => exact ⟨a2 + 1, by omega, by go_num, by rw [HA2.out], HI.out⟩
          case measure => simp [intOf]; omega
        focus
          rw [if_neg (fun hh => ha hh.2)] at hA
          have ta : ((a1 : Int) == (T.size : Int)) = false := by rw [beq_eq_false_iff_ne]; omega
          subst hA
          clear h47 ha
          go_wp2_with fail
          go_roundw
          case rel => exact ⟨k + 1, by omega, by go_num, by rw [HA2.out], HI.out⟩
          case measure => simp [intOf]; omega
      focus
        have t47 : ((T[k].toNat : Int) == 47) = false := by rw [beq_eq_false_iff_ne]; intro h; exact h47 (by apply UInt8.toNat_inj.1; show _ = 47; omega)
        rw [if_neg (fun hh => h47 hh.1)] at hA
        subst hA
        clear h47
        go_wp2_with fail
        go_roundw
        case rel => exact ⟨k + 1, by omega, by go_num, by rw [HA2.out], HI.out⟩
        case measure => simp [intOf]; omega
    obtain rfl : k = T.size := by omega
    clear hk hkT
    obtain ⟨q, hq⟩ := HI.out
    subst hq
    rw [HA0.out]
    replace HX := Lib.hid (HX.out.drew q)
    generalize w0.drewN q = w1 at *
    go_wp2_with fail
    refine (W1.out w1).mono ?_
    rintro e wc ⟨rfl, hb⟩
    replace HX := Lib.hid (HX.out.keep hb)
    clear hb
    have hc := HX.out.cells
    simp only [BCells] at hc
    have hz := HX.out.froz
    have HB1 := Lib.hid HX.out.below
    replace HX := Lib.hid (show Bxs w (wc.alloc (.cells #[.int .i64 nm, .int .i64 1] 23)) _ from HX.out.new ⟨nm, 1⟩)
    have hlt := HB1.out.size
    go_wp2_with fail
    refine bodyPost_ret (v := .tuple #[frV ⟨0, 0⟩, .int .i64 1]) (by simp [results, Tryd.results37, go_sem, frV, hc, hz]) rfl ?_
    have h2 := (HB1.out.setCell (p := ⟨_, 0, none⟩) (Nat.le_refl _) (.int .i64 0)).setCell (p := ⟨_, 1, none⟩) (Nat.le_refl _) (.int .i64 0)
    exact ⟨rfl, h2.alloc h2.size _⟩

set_option maxHeartbeats 8000000 in
set_option maxRecDepth 100000 in
theorem rp_neg_n_inv (w : World) (s : ByteArray) (T : ByteArray) (hT : s.extract 1 s.size = T) (hTs : s.size - 1 = T.size) (hTb : T.size ≤ 4294967281) (h0 : 0 < s.size) (t45 : ((s[0].toNat : Int) == 45) = true) (a : Nat) (ha : a = T.size) (HA0 : Hid (aK T.data.toList T.size = a)) (nm : Int) (W1 : Hid (∀ w, Calls Tryd.prog 49 #[.string (T.extract 0 a)] w (OutB w (.int .i64 nm)))) (hnm : 0 ≤ nm) (hnm2 : nm < 10000000000) (V : Hid (∀ w, Calls Tryd.prog 13 #[(.agg #[.int .i64 (-nm), .int .i64 1])] w (OutB w (.bool false)))) : Calls Tryd.prog 37 #[.string s] w (OutF w (⟨0, 0⟩, 1)) := by
  have t0 : decide ((0 : Int) < (s.size : Int)) = true := by simp; omega
  have tl : decide ((a : Int) < (T.size : Int)) = false := by simp; omega
  have tl2 : decide (a < T.size) = false := by simp; omega
  have c1 : (a : Int) ≤ (T.size : Int) := by omega
  have tn : decide (nm < 0) = false := by simp; omega
  clear ha
  go_enter Tryd.func37, Tryd.ntmps37
  go_wp2_with fail
  have HX := Lib.hid (show Bxs w (w.alloc (.cells #[.int .i64 0, .int .i64 0] 23)) _ from Bxs.one w ⟨0, 0⟩)
  generalize w.alloc (.cells #[.int .i64 0, .int .i64 0] 23) = w0 at *
  try simp only [hTs]
  go_loopw [6, 7, 25] (fun at_ _ i wr => ∃ k : Nat, k ≤ T.size ∧ i = .int .i64 k ∧ at_ = .int .i64 (aK T.data.toList k) ∧ Hid (∃ q, wr = w0.drewN q)) (fun _ _ i _ => T.size - (intOf i).toNat)
  case atStart => exact ⟨0, Nat.zero_le _, rfl, by rw [aK_zero]; simp, 0, rfl⟩
  case round =>
    obtain ⟨k, hk, rfl, rfl, HI⟩ := hrel
    by_cases hkT : k < T.size
    focus
      have hA := aK_next T k hkT
      obtain ⟨a2, ha2⟩ : ∃ a2, aK T.data.toList (k + 1) = a2 := ⟨_, rfl⟩
      have HA2 := Lib.hid ha2
      rw [ha2] at hA
      clear ha2
      generalize aK T.data.toList k = a1 at *
      by_cases h47 : T[k] = 47
      focus
        have t47 : ((T[k].toNat : Int) == 47) = true := by rw [h47]; rfl
        by_cases ha : a1 = T.size
        focus
          rw [if_pos ⟨h47, ha⟩] at hA
          have ta : ((a1 : Int) == (T.size : Int)) = true := by rw [ha]; simp
          subst hA
          clear h47 ha
          go_wp2_with fail
          go_roundw
          case rel => exact ⟨a2 + 1, by omega, by go_num, by rw [HA2.out], HI.out⟩
          case measure => simp [intOf]; omega
        focus
          rw [if_neg (fun hh => ha hh.2)] at hA
          have ta : ((a1 : Int) == (T.size : Int)) = false := by rw [beq_eq_false_iff_ne]; omega
          subst hA
          clear h47 ha
          go_wp2_with fail
          go_roundw
          case rel => exact ⟨k + 1, by omega, by go_num, by rw [HA2.out], HI.out⟩
          case measure => simp [intOf]; omega
      focus
        have t47 : ((T[k].toNat : Int) == 47) = false := by rw [beq_eq_false_iff_ne]; intro h; exact h47 (by apply UInt8.toNat_inj.1; show _ = 47; omega)
        rw [if_neg (fun hh => h47 hh.1)] at hA
        subst hA
        clear h47
        go_wp2_with fail
        go_roundw
        case rel => exact ⟨k + 1, by omega, by go_num, by rw [HA2.out], HI.out⟩
        case measure => simp [intOf]; omega
    obtain rfl : k = T.size := by omega
    clear hk hkT
    obtain ⟨q, hq⟩ := HI.out
    subst hq
    rw [HA0.out]
    replace HX := Lib.hid (HX.out.drew q)
    generalize w0.drewN q = w1 at *
    go_wp2_with fail
    refine (W1.out w1).mono ?_
    rintro e wc ⟨rfl, hb⟩
    replace HX := Lib.hid (HX.out.keep hb)
    clear hb
    have hc := HX.out.cells
    simp only [BCells] at hc
    have hz := HX.out.froz
    have HB1 := Lib.hid HX.out.below
    replace HX := Lib.hid (show Bxs w (wc.alloc (.cells #[.int .i64 (-nm), .int .i64 1] 23)) _ from HX.out.new ⟨-nm, 1⟩)
    have hlt := HB1.out.size
    go_wp2_with fail
    clear hc hz
    generalize wc.alloc (.cells #[.int .i64 (-nm), .int .i64 1] 23) = w5 at *
    generalize wc.heap.size = q2 at *
    refine (V.out w5).mono ?_
    rintro e w6 ⟨rfl, hb⟩
    replace HX := Lib.hid (HX.out.keep hb)
    clear hb
    have hc := HX.out.cells
    simp only [BCells] at hc
    have hz := (cells_two (HX.out.blk (w.heap.size, ⟨0, 0⟩) (by simp))).2.2
    go_wp2_with fail
    refine bodyPost_ret (v := .tuple #[frV ⟨0, 0⟩, .int .i64 1]) (by simp [results, Tryd.results37, go_sem, frV, hc, hz]) rfl ?_
    exact ⟨rfl, by have hb := HX.out.below; clear HX hc; go_grown⟩
end Go.Proofs.YtjobncfjebkcdaaDoor
