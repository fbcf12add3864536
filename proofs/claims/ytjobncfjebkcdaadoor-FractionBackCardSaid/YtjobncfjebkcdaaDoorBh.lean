/- The walks of the reference's whole and Parse. -/
import Derived.Test.YtjobncfjebkcdaaDoorBr
namespace Go.Proofs.YtjobncfjebkcdaaDoor
open Go Go.RowKit Go.Shelf
set_option linter.unusedSimpArgs false

theorem drop_at (s : ByteArray) (k : Nat) (h : k < s.size) : s.data.toList.drop k = s[k] :: s.data.toList.drop (k + 1) := by
  rw [List.drop_eq_getElem_cons (by simpa using h)]
  rfl
theorem wg_step (s : ByteArray) (k : Nat) (h : k < s.size) (n : Int) : wholeGo n (s.data.toList.drop k) = if dgB s[k] then wholeGo (10 * n + ((s[k].toNat : Int) - 48)) (s.data.toList.drop (k + 1)) else -1 := by
  rw [drop_at s k h, wholeGo]

set_option maxHeartbeats 4000000 in
set_option maxRecDepth 100000 in
theorem whole_any (w : World) (s : ByteArray) : Calls Tryd.prog 49 #[.string s] w (OutD w (.int .i64 (wholeF s.data.toList))) := by
  have hsl : s.data.toList.length = s.size := by simp
  by_cases h1 : s.size < 1
  focus
    have hw : wholeF s.data.toList = -1 := by unfold wholeF; rw [hsl, if_pos (.inl h1)]
    have t1 : decide ((s.size : Int) < 1) = true := by simp; omega
    rw [hw]
    clear hw hsl
    go_enter Tryd.func49, Tryd.ntmps49
    go_wp2_with fail
    go_ret
    exact ⟨rfl, 0, rfl⟩
  have t1 : decide ((s.size : Int) < 1) = false := by simp; omega
  by_cases h2 : 10 < s.size
  focus
    have hw : wholeF s.data.toList = -1 := by unfold wholeF; rw [hsl, if_pos (.inr h2)]
    have t2 : decide ((10 : Int) < (s.size : Int)) = true := by simp; omega
    rw [hw]
    clear hw hsl
    go_enter Tryd.func49, Tryd.ntmps49
    go_wp2_with fail
    go_ret
    exact ⟨rfl, 0, rfl⟩
  have t2 : decide ((10 : Int) < (s.size : Int)) = false := by simp; omega
  have hw : wholeF s.data.toList = wholeGo 0 s.data.toList := by unfold wholeF; rw [hsl, if_neg (by omega)]
  rw [hw]
  generalize hV : wholeGo 0 s.data.toList = V at *
  have HV := Lib.hid hV
  clear hV hw hsl
  go_enter Tryd.func49, Tryd.ntmps49
  go_wp2_with fail
  go_loopw [3, 15] (fun n i wr => ∃ (k : Nat) (m : Nat), k ≤ s.size ∧ i = .int .i64 k ∧ n = .int .i64 m ∧ m < 10 ^ k ∧ Hid (wholeGo (m : Int) (s.data.toList.drop k) = V ∧ ∃ q, wr = w.drewN q)) (fun _ i _ => s.size - (intOf i).toNat)
  case atStart => exact ⟨0, 0, Nat.zero_le _, rfl, rfl, by decide, by rw [List.drop_zero]; exact HV.out, 0, rfl⟩
  case round =>
    obtain ⟨k, m, hk, rfl, rfl, hm, HI⟩ := hrel
    by_cases hks : k < s.size
    rotate_left
    focus
      have e : wholeGo (m : Int) (s.data.toList.drop k) = (m : Int) := by
        rw [List.drop_eq_nil_of_le (by simp; omega)]
        rfl
      have hv := HI.out.1
      rw [e] at hv
      clear e hm
      go_wp2_with fail
      go_ret
      exact ⟨by rw [← hv]; rfl, HI.out.2⟩
    have hst := wg_step s k hks m
    have hpow : 10 ^ k * 10 ≤ 10 ^ 10 := by rw [← Nat.pow_succ]; exact Nat.pow_le_pow_right (by omega) (by omega)
    have hm9 : m < 1000000000 := by omega
    have hb := s[k].toNat_lt
    have hbI : (s[k].toNat : Int) < 256 := by omega
    by_cases hd : dgB s[k] = true
    focus
      rw [if_pos hd] at hst
      unfold dgB at hd
      simp only [Bool.and_eq_true, decide_eq_true_eq] at hd
      have t3 : decide ((s[k].toNat : Int) < 48) = false := by simp; omega
      have t4 : decide ((57 : Int) < (s[k].toNat : Int)) = false := by simp; omega
      have HS := Lib.hid hst
      have hm2 : 10 * m + (s[k].toNat - 48) < 10 ^ (k + 1) := by rw [Nat.pow_succ]; omega
      have HM2 := Lib.hid hm2
      clear hst hpow hm2 hm
      go_wp2_with fail
      go_roundw
      case rel =>
        refine ⟨k + 1, 10 * m + (s[k].toNat - 48), by omega, by go_num, by congr 1; omega, HM2.out, ?_, HI.out.2⟩
        have e : ((10 * m + (s[k].toNat - 48) : Nat) : Int) = 10 * (m : Int) + ((s[k].toNat : Int) - 48) := by omega
        rw [e, ← HS.out]
        exact HI.out.1
      case measure => simp [intOf]; omega
    have hdf : dgB s[k] = false := by simpa using hd
    rw [if_neg hd, HI.out.1] at hst
    have HVN : Hid (-1 = V) := hst.symm
    clear hst hpow hm hm9
    unfold dgB at hdf
    by_cases hlt : s[k].toNat < 48
    focus
      have t3 : decide ((s[k].toNat : Int) < 48) = true := by simp; omega
      clear hdf hd hlt hb hbI
      go_wp2_with fail
      go_ret
      exact ⟨by rw [← HVN.out]; rfl, HI.out.2⟩
    focus
      have t3 : decide ((s[k].toNat : Int) < 48) = false := by simp; omega
      have t4 : decide ((57 : Int) < (s[k].toNat : Int)) = true := by simp at hdf ⊢; omega
      clear hdf hd hlt hb hbI
      go_wp2_with fail
      go_ret
      exact ⟨by rw [← HVN.out]; rfl, HI.out.2⟩

end Go.Proofs.YtjobncfjebkcdaaDoor
