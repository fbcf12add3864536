/- The walks of the laws ParserNests and ParserLimits. -/
import Derived.Test.YtnlphgpcpdfjhaaDoorLw
import Derived.Test.YtnlphgpcpdfjhaaDoorNe
import Derived.WalkLawsBesides
import Derived.Deep.QuietTactic
import Derived.BigQuiet
namespace Go.Proofs.YtnlphgpcpdfjhaaDoor
open Go Go.RowKit
set_option linter.unusedSimpArgs false

theorem ret_str {a b : ByteArray} (h : a = b) : Ending.returned (.string a) = .returned (.string b) := by rw [h]
def repB (s : ByteArray) : Nat → ByteArray
  | 0 => ⟨#[]⟩
  | n + 1 => repB s n ++ s
theorem repB_list (s : ByteArray) : ∀ n, (repB s n).data.toList = repL s.data.toList n
  | 0 => rfl
  | n + 1 => by rw [repB, repL, ← repB_list s n]; simp
theorem repB_size (s : ByteArray) : ∀ n, (repB s n).size = n * s.size
  | 0 => by rw [Nat.zero_mul]; rfl
  | n + 1 => by rw [repB, ByteArray.size_append, repB_size s n, Nat.succ_mul]

set_option maxHeartbeats 1000000 in
theorem repeat_any (w : World) (s : ByteArray) (n : Nat) (hs : s.size ≤ 100) (hn : n ≤ 300) :
    Calls Tryd.prog 25 #[.string s, .int .i64 n] w fun e w' => e = .returned (.string (repB s n)) ∧ w = w' := by
  have hn' : (n : Int) ≤ 300 := by omega
  go_enter Tryd.func25, Tryd.ntmps25
  go_wp2_with fail
  go_loop [5, 6] (fun o i => ∃ k : Nat, k ≤ n ∧ i = .int .i64 k ∧ o = .string (repB s k)) (fun _ i => n - (intOf i).toNat)
  case atStart => exact ⟨0, Nat.zero_le _, rfl, rfl⟩
  case round =>
    obtain ⟨k, hk, rfl, rfl⟩ := hrel
    have hz := repB_size s k
    have hz2 : (repB s k).size ≤ 30000 := by rw [hz]; exact Nat.mul_le_mul (Nat.le_trans hk hn) hs
    have HE : Hid (repB s (k + 1) = repB s k ++ s) := rfl
    clear hz
    generalize ho : repB s k = o at *
    have HO := Lib.hid ho
    clear ho
    by_cases hlt : k < n
    · go_wp2_with fail
      go_round
      case rel => exact ⟨k + 1, by omega, by go_num, by rw [HE.out]⟩
      case measure => simp [intOf]; omega
    · go_wp2_with fail
      go_ret
      obtain rfl : k = n := by omega
      exact ⟨ret_str HO.out.symm, rfl⟩

set_option maxHeartbeats 1000000 in
theorem lname_one (w : World) : Calls Tryd.prog 26 #[.int .i64 1] w fun e w' => e = .returned (.string ⟨#[97]⟩) ∧ w' = w := by
  go_enter Tryd.func26, Tryd.ntmps26
  go_wp2_with fail
  go_ret
  exact ⟨rfl, rfl⟩
set_option maxHeartbeats 1000000 in
theorem lname_oth (w : World) (d : Int) (h' : (d == 1) = false) : Calls Tryd.prog 26 #[.int .i64 d] w fun e w' => e = .returned (.string ⟨#[102]⟩) ∧ w' = w := by
  go_enter Tryd.func26, Tryd.ntmps26
  go_wp2_with fail
  go_ret
  exact ⟨rfl, rfl⟩

set_option maxHeartbeats 16000000 in
set_option maxRecDepth 100000 in
theorem law_nests (w : World) (x y : Int) (hx : 0 ≤ x ∧ x ≤ 255) (hy : 0 ≤ y ∧ y ≤ 255) (hw : Wd w) : Calls Tryd.prog 9 #[.int .u8 x, .int .u8 y] w (YesP w) := by
  obtain ⟨hx1, hx2⟩ := hx
  obtain ⟨hy1, hy2⟩ := hy
  have HW := Lib.hid hw
  clear hw
  rcases (show y % 40 = 0 ∨ (1 ≤ y % 40 ∧ y % 40 < 2) ∨ (1 < y % 40 ∧ y % 40 ≤ 4) ∨ (4 < y % 40 ∧ y % 40 < 40) by omega) with hyc | ⟨hyc, hyd⟩ | ⟨hyc, hyd⟩ | ⟨hyc, hyd⟩
  focus
    go_enter Tryd.func9, Tryd.ntmps9
    go_wp2_with fail
    generalize hk : x % 40 = r at *
    obtain ⟨k, rfl⟩ : ∃ k : Nat, r = k := ⟨r.toNat, by omega⟩
    have h40 : (k : Int) < 40 := by omega
    clear hk hx1 hx2
    refine (repeat_any w ⟨#[102, 40]⟩ k (by decide) (by omega)).mono ?_
    rintro e w' ⟨rfl, rfl⟩
    have hz1 : (repB ⟨#[102, 40]⟩ k).size ≤ 80 := by rw [repB_size, show (⟨#[102, 40]⟩ : ByteArray).size = 2 from rfl]; omega
    go_wp2_with fail
    refine (repeat_any w ⟨#[41]⟩ k (by decide) (by omega)).mono ?_
    rintro e w' ⟨rfl, rfl⟩
    have hz2 : (repB ⟨#[41]⟩ k).size ≤ 40 := by rw [repB_size, show (⟨#[41]⟩ : ByteArray).size = 1 from rfl]; omega
    go_wp2_with fail
    have hpt := pterm_any w (repB ⟨#[102, 40]⟩ k ++ ⟨#[97]⟩ ++ repB ⟨#[41]⟩ k) (by rw [ByteArray.size_append, ByteArray.size_append, show (⟨#[97]⟩ : ByteArray).size = 1 from rfl]; omega) HW.out
    rw [show (repB ⟨#[102, 40]⟩ k ++ ⟨#[97]⟩ ++ repB ⟨#[41]⟩ k).data.toList = nestL k from by unfold nestL; rw [← repB_list ⟨#[102, 40]⟩, ← repB_list ⟨#[41]⟩]; simp] at hpt
    have hk0 : (0 : Int) ≤ (k : Int) := by omega
    rcases Nat.lt_or_ge k 4 with hk4 | hk4
    rcases Nat.eq_zero_or_pos k with rfl | hkp
    focus
      obtain ⟨l0, hn⟩ := nest_lo (k := 0) (by omega)
      rw [hn] at hpt
      refine hpt.mono ?_
      rintro e wa ⟨hb1, v, rfl, xx, rfl, hs1⟩
      obtain ⟨nm, A, cp, l1, rfl, hse⟩ := hs1.form
      injection hse with hse _
      have hnm : bs nm = ⟨#[97]⟩ := by rw [← hse]; rfl
      have hba : Below wa.heap.size wa (wa.alloc (.cells #[.string ⟨#[97]⟩, .slice A l1.length cp] 31)) := (Below.refl _ _).alloc (Nat.le_refl _) _
      have HBx := Lib.hid (hb1.trans (hba.mono hb1.size))
      rw [hnm]
      clear hb1 hba hs1 hpt hn hse hnm
      go_wp2_with fail
      go_quiet ((go_at_call 26; exact Calls.quiet_of_same (lname_one _)))
      have HB1 := Lib.hid (below_drewN HBx.out nq)
      clear HBx
      go_wp2_with fail
      generalize (wa.alloc (.cells #[.string ⟨#[97]⟩, .slice A l1.length cp] 31)).drewN nq = w1 at *
    rotate_left
    focus
      obtain ⟨l0, hn⟩ := nest_lo (k := k) (by omega)
      rw [hn] at hpt
      refine hpt.mono ?_
      rintro e wa ⟨hb1, v, rfl, xx, rfl, hs1⟩
      obtain ⟨nm, A, cp, l1, rfl, hse⟩ := hs1.form
      injection hse with hse _
      have hnm : bs nm = ⟨#[102]⟩ := by rw [← hse]; rw [if_neg (by omega)]; rfl
      have hba : Below wa.heap.size wa (wa.alloc (.cells #[.string ⟨#[102]⟩, .slice A l1.length cp] 31)) := (Below.refl _ _).alloc (Nat.le_refl _) _
      have HBx := Lib.hid (hb1.trans (hba.mono hb1.size))
      rw [hnm]
      clear hb1 hba hs1 hpt hn hse hnm
      go_wp2_with fail
      go_quiet ((go_at_call 26; exact Calls.quiet_of_same (lname_oth _ _ (beq_eq_false_iff_ne.2 (by omega)))))
      have HB1 := Lib.hid (below_drewN HBx.out nq)
      clear HBx
      go_wp2_with fail
      generalize (wa.alloc (.cells #[.string ⟨#[102]⟩, .slice A l1.length cp] 31)).drewN nq = w1 at *
    rotate_left
    focus
      have hn := nest_hi hk4 (by omega)
      rw [hn] at hpt
      refine hpt.mono ?_
      rintro e wa ⟨hb1, he⟩
      subst he
      have hba : Below wa.heap.size wa (wa.alloc (.cells #[.string ⟨#[]⟩, .slice none 0 0] 31)) := (Below.refl _ _).alloc (Nat.le_refl _) _
      have HB1 := Lib.hid (hb1.trans (hba.mono hb1.size))
      have hk4i : (4 : Int) < (k : Int) + 1 := by omega
      clear hb1 hba hpt hn
      go_wp2_with fail
      generalize wa.alloc (.cells #[.string ⟨#[]⟩, .slice none 0 0] 31) = w1 at *
    all_goals
      have HW1 := Lib.hid (HW.out.below HB1.out HW.out.1)
      have hr0 := repeat_any w1 ⟨#[97, 44]⟩ 0 (by decide) (by omega)
      rw [show ((0 : Nat) : Int) = 0 from rfl] at hr0
      refine hr0.mono ?_
      clear hr0
      rintro e w' ⟨rfl, rfl⟩
      go_wp2_with fail
      have hr0 := repeat_any w1 ⟨#[97]⟩ 0 (by decide) (by omega)
      rw [show ((0 : Nat) : Int) = 0 from rfl] at hr0
      refine hr0.mono ?_
      clear hr0
      rintro e w' ⟨rfl, rfl⟩
      have HPR := Lib.hid (prule_any w1 (⟨#[112, 40]⟩ ++ repB ⟨#[97, 44]⟩ 0 ++ repB ⟨#[97]⟩ 0 ++ ⟨#[41, 46]⟩) (by decide) HW1.out)
      rw [show ruleRF (⟨#[112, 40]⟩ ++ repB ⟨#[97, 44]⟩ 0 ++ repB ⟨#[97]⟩ 0 ++ ⟨#[41, 46]⟩).data.toList = .err 2 1 from args_zero] at HPR
      have q1 : (repB ⟨#[97, 44]⟩ 0).size ≤ 100 := by decide
      have q2 : (repB ⟨#[97]⟩ 0).size ≤ 100 := by decide
      go_wp2_with fail

      refine HPR.out.mono ?_
      rintro e wa ⟨hb1, he⟩
      subst he
      have hba : Below wa.heap.size wa (wa.alloc (.cells #[.string ⟨#[]⟩, .slice none 0 0, .slice none 0 0] 34)) := (Below.refl _ _).alloc (Nat.le_refl _) _
      have HB3 := Lib.hid (HB1.out.trans ((hb1.trans (hba.mono hb1.size)).mono HB1.out.size))
      have HW3 := Lib.hid (HW1.out.below (hb1.trans (hba.mono hb1.size)) HW1.out.1)
      clear hb1 hba HPR
      go_wp2_with fail
      generalize wa.alloc (.cells #[.string ⟨#[]⟩, .slice none 0 0, .slice none 0 0] 34) = w3 at *

      refine (awake_any w3 HW3.out).mono ?_
      rintro e w4 ⟨rfl, hb4⟩
      have HB4 := Lib.hid (HB3.out.trans (hb4.mono HB3.out.size))
      clear hb4
      go_wp2_with fail
      go_ret
      exact ⟨rfl, HB4.out⟩
  focus
    go_enter Tryd.func9, Tryd.ntmps9
    go_wp2_with fail
    generalize hk : x % 40 = r at *
    obtain ⟨k, rfl⟩ : ∃ k : Nat, r = k := ⟨r.toNat, by omega⟩
    have h40 : (k : Int) < 40 := by omega
    clear hk hx1 hx2
    refine (repeat_any w ⟨#[102, 40]⟩ k (by decide) (by omega)).mono ?_
    rintro e w' ⟨rfl, rfl⟩
    have hz1 : (repB ⟨#[102, 40]⟩ k).size ≤ 80 := by rw [repB_size, show (⟨#[102, 40]⟩ : ByteArray).size = 2 from rfl]; omega
    go_wp2_with fail
    refine (repeat_any w ⟨#[41]⟩ k (by decide) (by omega)).mono ?_
    rintro e w' ⟨rfl, rfl⟩
    have hz2 : (repB ⟨#[41]⟩ k).size ≤ 40 := by rw [repB_size, show (⟨#[41]⟩ : ByteArray).size = 1 from rfl]; omega
    go_wp2_with fail
    have hpt := pterm_any w (repB ⟨#[102, 40]⟩ k ++ ⟨#[97]⟩ ++ repB ⟨#[41]⟩ k) (by rw [ByteArray.size_append, ByteArray.size_append, show (⟨#[97]⟩ : ByteArray).size = 1 from rfl]; omega) HW.out
    rw [show (repB ⟨#[102, 40]⟩ k ++ ⟨#[97]⟩ ++ repB ⟨#[41]⟩ k).data.toList = nestL k from by unfold nestL; rw [← repB_list ⟨#[102, 40]⟩, ← repB_list ⟨#[41]⟩]; simp] at hpt
    have hk0 : (0 : Int) ≤ (k : Int) := by omega
    rcases Nat.lt_or_ge k 4 with hk4 | hk4
    rcases Nat.eq_zero_or_pos k with rfl | hkp
    focus
      obtain ⟨l0, hn⟩ := nest_lo (k := 0) (by omega)
      rw [hn] at hpt
      refine hpt.mono ?_
      rintro e wa ⟨hb1, v, rfl, xx, rfl, hs1⟩
      obtain ⟨nm, A, cp, l1, rfl, hse⟩ := hs1.form
      injection hse with hse _
      have hnm : bs nm = ⟨#[97]⟩ := by rw [← hse]; rfl
      have hba : Below wa.heap.size wa (wa.alloc (.cells #[.string ⟨#[97]⟩, .slice A l1.length cp] 31)) := (Below.refl _ _).alloc (Nat.le_refl _) _
      have HBx := Lib.hid (hb1.trans (hba.mono hb1.size))
      rw [hnm]
      clear hb1 hba hs1 hpt hn hse hnm
      go_wp2_with fail
      go_quiet ((go_at_call 26; exact Calls.quiet_of_same (lname_one _)))
      have HB1 := Lib.hid (below_drewN HBx.out nq)
      clear HBx
      go_wp2_with fail
      generalize (wa.alloc (.cells #[.string ⟨#[97]⟩, .slice A l1.length cp] 31)).drewN nq = w1 at *
    rotate_left
    focus
      obtain ⟨l0, hn⟩ := nest_lo (k := k) (by omega)
      rw [hn] at hpt
      refine hpt.mono ?_
      rintro e wa ⟨hb1, v, rfl, xx, rfl, hs1⟩
      obtain ⟨nm, A, cp, l1, rfl, hse⟩ := hs1.form
      injection hse with hse _
      have hnm : bs nm = ⟨#[102]⟩ := by rw [← hse]; rw [if_neg (by omega)]; rfl
      have hba : Below wa.heap.size wa (wa.alloc (.cells #[.string ⟨#[102]⟩, .slice A l1.length cp] 31)) := (Below.refl _ _).alloc (Nat.le_refl _) _
      have HBx := Lib.hid (hb1.trans (hba.mono hb1.size))
      rw [hnm]
      clear hb1 hba hs1 hpt hn hse hnm
      go_wp2_with fail
      go_quiet ((go_at_call 26; exact Calls.quiet_of_same (lname_oth _ _ (beq_eq_false_iff_ne.2 (by omega)))))
      have HB1 := Lib.hid (below_drewN HBx.out nq)
      clear HBx
      go_wp2_with fail
      generalize (wa.alloc (.cells #[.string ⟨#[102]⟩, .slice A l1.length cp] 31)).drewN nq = w1 at *
    rotate_left
    focus
      have hn := nest_hi hk4 (by omega)
      rw [hn] at hpt
      refine hpt.mono ?_
      rintro e wa ⟨hb1, he⟩
      subst he
      have hba : Below wa.heap.size wa (wa.alloc (.cells #[.string ⟨#[]⟩, .slice none 0 0] 31)) := (Below.refl _ _).alloc (Nat.le_refl _) _
      have HB1 := Lib.hid (hb1.trans (hba.mono hb1.size))
      have hk4i : (4 : Int) < (k : Int) + 1 := by omega
      clear hb1 hba hpt hn
      go_wp2_with fail
      generalize wa.alloc (.cells #[.string ⟨#[]⟩, .slice none 0 0] 31) = w1 at *
    all_goals
      have HW1 := Lib.hid (HW.out.below HB1.out HW.out.1)
      generalize hm : y % 40 = r at *
      obtain ⟨j, rfl⟩ : ∃ j : Nat, r = (j : Int) + 1 := ⟨(r - 1).toNat, by omega⟩
      have hj : (j : Int) < 1 := by omega
      clear hm
      rw [show (j : Int) + 1 - 1 = (j : Int) from by omega]
      refine (repeat_any w1 ⟨#[97, 44]⟩ j (by decide) (by omega)).mono ?_
      rintro e w' ⟨rfl, rfl⟩
      have q1 : (repB ⟨#[97, 44]⟩ j).size ≤ 100 := by rw [repB_size, show (⟨#[97, 44]⟩ : ByteArray).size = 2 from rfl]; omega
      go_wp2_with fail
      have hr0 := repeat_any w1 ⟨#[97]⟩ (j + 1) (by decide) (by omega)
      rw [show ((j + 1 : Nat) : Int) = (j : Int) + 1 from by omega] at hr0
      refine hr0.mono ?_
      clear hr0
      rintro e w' ⟨rfl, rfl⟩
      have q2 : (repB ⟨#[97]⟩ (j + 1)).size ≤ 100 := by rw [repB_size, show (⟨#[97]⟩ : ByteArray).size = 1 from rfl]; omega
      have HPR := Lib.hid (prule_any w1 (⟨#[112, 40]⟩ ++ repB ⟨#[97, 44]⟩ j ++ repB ⟨#[97]⟩ (j + 1) ++ ⟨#[41, 46]⟩) (by rw [ByteArray.size_append, ByteArray.size_append, ByteArray.size_append, show (⟨#[112, 40]⟩ : ByteArray).size = 2 from rfl, show (⟨#[41, 46]⟩ : ByteArray).size = 2 from rfl]; omega) HW1.out)
      rw [show (⟨#[112, 40]⟩ ++ repB ⟨#[97, 44]⟩ j ++ repB ⟨#[97]⟩ (j + 1) ++ ⟨#[41, 46]⟩ : ByteArray).data.toList = argsL (j + 1) from by unfold argsL; rw [Nat.add_sub_cancel, show min (j + 1) 1 = j + 1 from by omega, ← repB_list ⟨#[97, 44]⟩, ← repB_list ⟨#[97]⟩]; simp] at HPR
      obtain ⟨xr, la, hx, hh, hla⟩ := args_lo (n := j + 1) (by omega) (by omega)
      rw [hx] at HPR
      go_wp2_with fail
      refine HPR.out.mono ?_
      rintro e wa ⟨hb1, v, rfl, xx, rfl, hs1⟩
      obtain ⟨nm, A3, cp3, l3, A4, cp4, rfl, he⟩ := hs1.form
      rw [hh] at he
      injection he with e1 e2
      subst e2
      have hnm : bs nm = ⟨#[112]⟩ := by rw [← e1]; rfl
      rw [hnm]
      have hba : Below wa.heap.size wa (wa.alloc (.cells #[.string ⟨#[112]⟩, .slice A3 la.length cp3, .slice A4 xr.body.length cp4] 34)) := (Below.refl _ _).alloc (Nat.le_refl _) _
      have HB3 := Lib.hid (HB1.out.trans ((hb1.trans (hba.mono hb1.size)).mono HB1.out.size))
      have HW3 := Lib.hid (HW1.out.below (hb1.trans (hba.mono hb1.size)) HW1.out.1)
      have hle : ((la.length : Int) == (j : Int) + 1) = true := beq_iff_eq.2 (by omega)
      have hj4 : (j : Int) + 1 ≤ 4 := by omega
      have hj0 : (0 : Int) ≤ (j : Int) := by omega
      clear hb1 hba HPR hx hh hla e1 hnm hs1
      go_wp2_with fail
      generalize wa.alloc (.cells #[.string ⟨#[112]⟩, .slice A3 la.length cp3, .slice A4 xr.body.length cp4] 34) = w3 at *

      refine (awake_any w3 HW3.out).mono ?_
      rintro e w4 ⟨rfl, hb4⟩
      have HB4 := Lib.hid (HB3.out.trans (hb4.mono HB3.out.size))
      clear hb4
      go_wp2_with fail
      go_ret
      exact ⟨rfl, HB4.out⟩
  focus
    go_enter Tryd.func9, Tryd.ntmps9
    go_wp2_with fail
    generalize hk : x % 40 = r at *
    obtain ⟨k, rfl⟩ : ∃ k : Nat, r = k := ⟨r.toNat, by omega⟩
    have h40 : (k : Int) < 40 := by omega
    clear hk hx1 hx2
    refine (repeat_any w ⟨#[102, 40]⟩ k (by decide) (by omega)).mono ?_
    rintro e w' ⟨rfl, rfl⟩
    have hz1 : (repB ⟨#[102, 40]⟩ k).size ≤ 80 := by rw [repB_size, show (⟨#[102, 40]⟩ : ByteArray).size = 2 from rfl]; omega
    go_wp2_with fail
    refine (repeat_any w ⟨#[41]⟩ k (by decide) (by omega)).mono ?_
    rintro e w' ⟨rfl, rfl⟩
    have hz2 : (repB ⟨#[41]⟩ k).size ≤ 40 := by rw [repB_size, show (⟨#[41]⟩ : ByteArray).size = 1 from rfl]; omega
    go_wp2_with fail
    have hpt := pterm_any w (repB ⟨#[102, 40]⟩ k ++ ⟨#[97]⟩ ++ repB ⟨#[41]⟩ k) (by rw [ByteArray.size_append, ByteArray.size_append, show (⟨#[97]⟩ : ByteArray).size = 1 from rfl]; omega) HW.out
    rw [show (repB ⟨#[102, 40]⟩ k ++ ⟨#[97]⟩ ++ repB ⟨#[41]⟩ k).data.toList = nestL k from by unfold nestL; rw [← repB_list ⟨#[102, 40]⟩, ← repB_list ⟨#[41]⟩]; simp] at hpt
    have hk0 : (0 : Int) ≤ (k : Int) := by omega
    rcases Nat.lt_or_ge k 4 with hk4 | hk4
    rcases Nat.eq_zero_or_pos k with rfl | hkp
    focus
      obtain ⟨l0, hn⟩ := nest_lo (k := 0) (by omega)
      rw [hn] at hpt
      refine hpt.mono ?_
      rintro e wa ⟨hb1, v, rfl, xx, rfl, hs1⟩
      obtain ⟨nm, A, cp, l1, rfl, hse⟩ := hs1.form
      injection hse with hse _
      have hnm : bs nm = ⟨#[97]⟩ := by rw [← hse]; rfl
      have hba : Below wa.heap.size wa (wa.alloc (.cells #[.string ⟨#[97]⟩, .slice A l1.length cp] 31)) := (Below.refl _ _).alloc (Nat.le_refl _) _
      have HBx := Lib.hid (hb1.trans (hba.mono hb1.size))
      rw [hnm]
      clear hb1 hba hs1 hpt hn hse hnm
      go_wp2_with fail
      go_quiet ((go_at_call 26; exact Calls.quiet_of_same (lname_one _)))
      have HB1 := Lib.hid (below_drewN HBx.out nq)
      clear HBx
      go_wp2_with fail
      generalize (wa.alloc (.cells #[.string ⟨#[97]⟩, .slice A l1.length cp] 31)).drewN nq = w1 at *
    rotate_left
    focus
      obtain ⟨l0, hn⟩ := nest_lo (k := k) (by omega)
      rw [hn] at hpt
      refine hpt.mono ?_
      rintro e wa ⟨hb1, v, rfl, xx, rfl, hs1⟩
      obtain ⟨nm, A, cp, l1, rfl, hse⟩ := hs1.form
      injection hse with hse _
      have hnm : bs nm = ⟨#[102]⟩ := by rw [← hse]; rw [if_neg (by omega)]; rfl
      have hba : Below wa.heap.size wa (wa.alloc (.cells #[.string ⟨#[102]⟩, .slice A l1.length cp] 31)) := (Below.refl _ _).alloc (Nat.le_refl _) _
      have HBx := Lib.hid (hb1.trans (hba.mono hb1.size))
      rw [hnm]
      clear hb1 hba hs1 hpt hn hse hnm
      go_wp2_with fail
      go_quiet ((go_at_call 26; exact Calls.quiet_of_same (lname_oth _ _ (beq_eq_false_iff_ne.2 (by omega)))))
      have HB1 := Lib.hid (below_drewN HBx.out nq)
      clear HBx
      go_wp2_with fail
      generalize (wa.alloc (.cells #[.string ⟨#[102]⟩, .slice A l1.length cp] 31)).drewN nq = w1 at *
    rotate_left
    focus
      have hn := nest_hi hk4 (by omega)
      rw [hn] at hpt
      refine hpt.mono ?_
      rintro e wa ⟨hb1, he⟩
      subst he
      have hba : Below wa.heap.size wa (wa.alloc (.cells #[.string ⟨#[]⟩, .slice none 0 0] 31)) := (Below.refl _ _).alloc (Nat.le_refl _) _
      have HB1 := Lib.hid (hb1.trans (hba.mono hb1.size))
      have hk4i : (4 : Int) < (k : Int) + 1 := by omega
      clear hb1 hba hpt hn
      go_wp2_with fail
      generalize wa.alloc (.cells #[.string ⟨#[]⟩, .slice none 0 0] 31) = w1 at *
    all_goals
      have HW1 := Lib.hid (HW.out.below HB1.out HW.out.1)
      generalize hm : y % 40 = r at *
      obtain ⟨j, rfl⟩ : ∃ j : Nat, r = (j : Int) + 1 := ⟨(r - 1).toNat, by omega⟩
      have hj : (j : Int) < 39 := by omega
      have hj1 : (1 : Int) ≤ (j : Int) := by omega
      clear hm
      rw [show (j : Int) + 1 - 1 = (j : Int) from by omega]
      refine (repeat_any w1 ⟨#[97, 44]⟩ j (by decide) (by omega)).mono ?_
      rintro e w' ⟨rfl, rfl⟩
      have q1 : (repB ⟨#[97, 44]⟩ j).size ≤ 100 := by rw [repB_size, show (⟨#[97, 44]⟩ : ByteArray).size = 2 from rfl]; omega
      go_wp2_with fail
      have hr0 := repeat_any w1 ⟨#[97]⟩ 1 (by decide) (by omega)
      rw [show ((1 : Nat) : Int) = 1 from rfl] at hr0
      refine hr0.mono ?_
      clear hr0
      rintro e w' ⟨rfl, rfl⟩
      have q2 : (repB ⟨#[97]⟩ 1).size ≤ 100 := by decide
      have HPR := Lib.hid (prule_any w1 (⟨#[112, 40]⟩ ++ repB ⟨#[97, 44]⟩ j ++ repB ⟨#[97]⟩ 1 ++ ⟨#[41, 46]⟩) (by rw [ByteArray.size_append, ByteArray.size_append, ByteArray.size_append, show (⟨#[112, 40]⟩ : ByteArray).size = 2 from rfl, show (⟨#[41, 46]⟩ : ByteArray).size = 2 from rfl]; omega) HW1.out)
      rw [show (⟨#[112, 40]⟩ ++ repB ⟨#[97, 44]⟩ j ++ repB ⟨#[97]⟩ 1 ++ ⟨#[41, 46]⟩ : ByteArray).data.toList = argsL (j + 1) from by unfold argsL; rw [Nat.add_sub_cancel, show min (j + 1) 1 = 1 from by omega, ← repB_list ⟨#[97, 44]⟩, ← repB_list ⟨#[97]⟩]; simp] at HPR
      obtain ⟨xr, la, hx, hh, hla⟩ := args_lo (n := j + 1) (by omega) (by omega)
      rw [hx] at HPR
      go_wp2_with fail
      refine HPR.out.mono ?_
      rintro e wa ⟨hb1, v, rfl, xx, rfl, hs1⟩
      obtain ⟨nm, A3, cp3, l3, A4, cp4, rfl, he⟩ := hs1.form
      rw [hh] at he
      injection he with e1 e2
      subst e2
      have hnm : bs nm = ⟨#[112]⟩ := by rw [← e1]; rfl
      rw [hnm]
      have hba : Below wa.heap.size wa (wa.alloc (.cells #[.string ⟨#[112]⟩, .slice A3 la.length cp3, .slice A4 xr.body.length cp4] 34)) := (Below.refl _ _).alloc (Nat.le_refl _) _
      have HB3 := Lib.hid (HB1.out.trans ((hb1.trans (hba.mono hb1.size)).mono HB1.out.size))
      have HW3 := Lib.hid (HW1.out.below (hb1.trans (hba.mono hb1.size)) HW1.out.1)
      have hle : ((la.length : Int) == (j : Int) + 1) = true := beq_iff_eq.2 (by omega)
      have hj4 : (j : Int) + 1 ≤ 4 := by omega
      have hj0 : (0 : Int) ≤ (j : Int) := by omega
      clear hb1 hba HPR hx hh hla e1 hnm hs1
      go_wp2_with fail
      generalize wa.alloc (.cells #[.string ⟨#[112]⟩, .slice A3 la.length cp3, .slice A4 xr.body.length cp4] 34) = w3 at *

      refine (awake_any w3 HW3.out).mono ?_
      rintro e w4 ⟨rfl, hb4⟩
      have HB4 := Lib.hid (HB3.out.trans (hb4.mono HB3.out.size))
      clear hb4
      go_wp2_with fail
      go_ret
      exact ⟨rfl, HB4.out⟩
  focus
    go_enter Tryd.func9, Tryd.ntmps9
    go_wp2_with fail
    generalize hk : x % 40 = r at *
    obtain ⟨k, rfl⟩ : ∃ k : Nat, r = k := ⟨r.toNat, by omega⟩
    have h40 : (k : Int) < 40 := by omega
    clear hk hx1 hx2
    refine (repeat_any w ⟨#[102, 40]⟩ k (by decide) (by omega)).mono ?_
    rintro e w' ⟨rfl, rfl⟩
    have hz1 : (repB ⟨#[102, 40]⟩ k).size ≤ 80 := by rw [repB_size, show (⟨#[102, 40]⟩ : ByteArray).size = 2 from rfl]; omega
    go_wp2_with fail
    refine (repeat_any w ⟨#[41]⟩ k (by decide) (by omega)).mono ?_
    rintro e w' ⟨rfl, rfl⟩
    have hz2 : (repB ⟨#[41]⟩ k).size ≤ 40 := by rw [repB_size, show (⟨#[41]⟩ : ByteArray).size = 1 from rfl]; omega
    go_wp2_with fail
    have hpt := pterm_any w (repB ⟨#[102, 40]⟩ k ++ ⟨#[97]⟩ ++ repB ⟨#[41]⟩ k) (by rw [ByteArray.size_append, ByteArray.size_append, show (⟨#[97]⟩ : ByteArray).size = 1 from rfl]; omega) HW.out
    rw [show (repB ⟨#[102, 40]⟩ k ++ ⟨#[97]⟩ ++ repB ⟨#[41]⟩ k).data.toList = nestL k from by unfold nestL; rw [← repB_list ⟨#[102, 40]⟩, ← repB_list ⟨#[41]⟩]; simp] at hpt
    have hk0 : (0 : Int) ≤ (k : Int) := by omega
    rcases Nat.lt_or_ge k 4 with hk4 | hk4
    rcases Nat.eq_zero_or_pos k with rfl | hkp
    focus
      obtain ⟨l0, hn⟩ := nest_lo (k := 0) (by omega)
      rw [hn] at hpt
      refine hpt.mono ?_
      rintro e wa ⟨hb1, v, rfl, xx, rfl, hs1⟩
      obtain ⟨nm, A, cp, l1, rfl, hse⟩ := hs1.form
      injection hse with hse _
      have hnm : bs nm = ⟨#[97]⟩ := by rw [← hse]; rfl
      have hba : Below wa.heap.size wa (wa.alloc (.cells #[.string ⟨#[97]⟩, .slice A l1.length cp] 31)) := (Below.refl _ _).alloc (Nat.le_refl _) _
      have HBx := Lib.hid (hb1.trans (hba.mono hb1.size))
      rw [hnm]
      clear hb1 hba hs1 hpt hn hse hnm
      go_wp2_with fail
      go_quiet ((go_at_call 26; exact Calls.quiet_of_same (lname_one _)))
      have HB1 := Lib.hid (below_drewN HBx.out nq)
      clear HBx
      go_wp2_with fail
      generalize (wa.alloc (.cells #[.string ⟨#[97]⟩, .slice A l1.length cp] 31)).drewN nq = w1 at *
    rotate_left
    focus
      obtain ⟨l0, hn⟩ := nest_lo (k := k) (by omega)
      rw [hn] at hpt
      refine hpt.mono ?_
      rintro e wa ⟨hb1, v, rfl, xx, rfl, hs1⟩
      obtain ⟨nm, A, cp, l1, rfl, hse⟩ := hs1.form
      injection hse with hse _
      have hnm : bs nm = ⟨#[102]⟩ := by rw [← hse]; rw [if_neg (by omega)]; rfl
      have hba : Below wa.heap.size wa (wa.alloc (.cells #[.string ⟨#[102]⟩, .slice A l1.length cp] 31)) := (Below.refl _ _).alloc (Nat.le_refl _) _
      have HBx := Lib.hid (hb1.trans (hba.mono hb1.size))
      rw [hnm]
      clear hb1 hba hs1 hpt hn hse hnm
      go_wp2_with fail
      go_quiet ((go_at_call 26; exact Calls.quiet_of_same (lname_oth _ _ (beq_eq_false_iff_ne.2 (by omega)))))
      have HB1 := Lib.hid (below_drewN HBx.out nq)
      clear HBx
      go_wp2_with fail
      generalize (wa.alloc (.cells #[.string ⟨#[102]⟩, .slice A l1.length cp] 31)).drewN nq = w1 at *
    rotate_left
    focus
      have hn := nest_hi hk4 (by omega)
      rw [hn] at hpt
      refine hpt.mono ?_
      rintro e wa ⟨hb1, he⟩
      subst he
      have hba : Below wa.heap.size wa (wa.alloc (.cells #[.string ⟨#[]⟩, .slice none 0 0] 31)) := (Below.refl _ _).alloc (Nat.le_refl _) _
      have HB1 := Lib.hid (hb1.trans (hba.mono hb1.size))
      have hk4i : (4 : Int) < (k : Int) + 1 := by omega
      clear hb1 hba hpt hn
      go_wp2_with fail
      generalize wa.alloc (.cells #[.string ⟨#[]⟩, .slice none 0 0] 31) = w1 at *
    all_goals
      have HW1 := Lib.hid (HW.out.below HB1.out HW.out.1)
      generalize hm : y % 40 = r at *
      obtain ⟨j, rfl⟩ : ∃ j : Nat, r = (j : Int) + 1 := ⟨(r - 1).toNat, by omega⟩
      have hj : (j : Int) < 39 := by omega
      clear hm
      rw [show (j : Int) + 1 - 1 = (j : Int) from by omega]
      refine (repeat_any w1 ⟨#[97, 44]⟩ j (by decide) (by omega)).mono ?_
      rintro e w' ⟨rfl, rfl⟩
      have q1 : (repB ⟨#[97, 44]⟩ j).size ≤ 100 := by rw [repB_size, show (⟨#[97, 44]⟩ : ByteArray).size = 2 from rfl]; omega
      go_wp2_with fail
      have hr0 := repeat_any w1 ⟨#[97]⟩ 1 (by decide) (by omega)
      rw [show ((1 : Nat) : Int) = 1 from rfl] at hr0
      refine hr0.mono ?_
      clear hr0
      rintro e w' ⟨rfl, rfl⟩
      have q2 : (repB ⟨#[97]⟩ 1).size ≤ 100 := by decide
      have HPR := Lib.hid (prule_any w1 (⟨#[112, 40]⟩ ++ repB ⟨#[97, 44]⟩ j ++ repB ⟨#[97]⟩ 1 ++ ⟨#[41, 46]⟩) (by rw [ByteArray.size_append, ByteArray.size_append, ByteArray.size_append, show (⟨#[112, 40]⟩ : ByteArray).size = 2 from rfl, show (⟨#[41, 46]⟩ : ByteArray).size = 2 from rfl]; omega) HW1.out)
      rw [show (⟨#[112, 40]⟩ ++ repB ⟨#[97, 44]⟩ j ++ repB ⟨#[97]⟩ 1 ++ ⟨#[41, 46]⟩ : ByteArray).data.toList = argsL (j + 1) from by unfold argsL; rw [Nat.add_sub_cancel, show min (j + 1) 1 = 1 from by omega, ← repB_list ⟨#[97, 44]⟩, ← repB_list ⟨#[97]⟩]; simp] at HPR
      rw [args_hi (n := j + 1) (by omega) (by omega)] at HPR
      go_wp2_with fail

      refine HPR.out.mono ?_
      rintro e wa ⟨hb1, he⟩
      subst he
      have hba : Below wa.heap.size wa (wa.alloc (.cells #[.string ⟨#[]⟩, .slice none 0 0, .slice none 0 0] 34)) := (Below.refl _ _).alloc (Nat.le_refl _) _
      have HB3 := Lib.hid (HB1.out.trans ((hb1.trans (hba.mono hb1.size)).mono HB1.out.size))
      have HW3 := Lib.hid (HW1.out.below (hb1.trans (hba.mono hb1.size)) HW1.out.1)
      clear hb1 hba HPR
      go_wp2_with fail
      generalize wa.alloc (.cells #[.string ⟨#[]⟩, .slice none 0 0, .slice none 0 0] 34) = w3 at *

      refine (awake_any w3 HW3.out).mono ?_
      rintro e w4 ⟨rfl, hb4⟩
      have HB4 := Lib.hid (HB3.out.trans (hb4.mono HB3.out.size))
      clear hb4
      go_wp2_with fail
      go_ret
      exact ⟨rfl, HB4.out⟩
end Go.Proofs.YtnlphgpcpdfjhaaDoor
