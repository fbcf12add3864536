/- The reference's Reply and ground. -/
import Derived.Test.YtmplpbdldcokjaaGreatDoorQg
import Derived.Test.YtmplpbdldcokjaaGreatDoorWn
namespace Go.Proofs.YtmplpbdldcokjaaGreatDoor
open Go Go.RowKit Go.Shelf
set_option linter.unusedSimpArgs false
set_option linter.unusedVariables false

set_option maxHeartbeats 1000000 in
theorem rreply_any (w : World) (n : Int) : Calls Tryz.prog 19 #[.int .i64 n] w fun e w' => e = .returned (.bool (decide (5 ≤ n) && decide (n ≤ 7))) ∧ w = w' := by
  go_enter Tryz.func19, Tryz.ntmps19
  go_wp2
  all_goals go_ret
  all_goals refine ⟨ret_bool ?_, rfl⟩
  all_goals (rw [Bool.eq_iff_iff]; simp_all; try omega)
set_option maxHeartbeats 4000000 in
set_option maxRecDepth 100000 in
theorem rtground_any (w : World) (P : Nat → Prop) (t : Tm) (nm : List UInt8) (A : Option Addr) (cp : Nat) (l : List Tm) (ht : t = .mk nm l) (hv : TmV w P [.string (bs nm), .slice A l.length cp] t) (hb : TmB t) :
    Calls Tryz.prog 70 #[.agg #[.string (bs nm), .slice A l.length cp]] w (OutB w (.bool (validT false 4 t))) := by
  have HBX := Lib.hid (one_box w (.cells #[.string (bs nm), .slice A l.length cp] 25))
  have CW := Lib.hid (rwithin_any false 4 (Nat.le_refl _) (w.alloc (.cells #[.string (bs nm), .slice A l.length cp] 25)) P _ t (hv.keep (fun b' hp hb' => ⟨hp, HBX.out.1.block b' hb'⟩) HBX.out.1.size) hb)
  have CW2 : Hid (Calls Tryz.prog 89 #[.agg #[.string (bs nm), .slice A l.length cp], .int .i64 4, .bool true] (w.alloc (.cells #[.string (bs nm), .slice A l.length cp] 25)) fun e w' => e = .returned (.bool (validT false 4 t)) ∧ Below (w.alloc (.cells #[.string (bs nm), .slice A l.length cp] 25)).heap.size (w.alloc (.cells #[.string (bs nm), .slice A l.length cp] 25)) w') := CW.out
  clear ht hv hb CW
  go_enter Tryz.func70, Tryz.ntmps70
  go_wp2_with fail
  refine CW2.out.mono ?_
  rintro e w1 ⟨rfl, hb⟩
  have HB := Lib.hid (HBX.out.1.trans (hb.mono HBX.out.1.size))
  clear hb
  go_wp2_with fail
  go_ret
  exact ⟨rfl, HB.out⟩
set_option maxHeartbeats 4000000 in
set_option maxRecDepth 100000 in
theorem rground_any (w : World) (P : Nat → Prop) (A : Option Addr) (cp : Nat) (l : List Tm) (hl : l.length ≤ 9223372036854775807) (ha : SlV TmV 2 w P A l) (hP : ∀ b, P b → b < w.heap.size) (hb : ∀ t ∈ l, TmB t) :
    Calls Tryz.prog 50 #[.slice A l.length cp] w (OutB w (.bool (groundF l))) := by
  obtain ⟨xs', hxl, harr, hel⟩ := ha
  have HV := Lib.hid (And.intro hxl (And.intro harr (And.intro hel (And.intro hP hb))))
  clear hxl harr hel hb hP
  go_enter Tryz.func50, Tryz.ntmps50
  go_wp2_with fail
  go_loopw [3] (fun i wr => ∃ k : Nat, k ≤ l.length ∧ i = .int .i64 k ∧ Hid (groundF (l.take k) = true ∧ Below w.heap.size w wr)) (fun i _ => l.length - (intOf i).toNat)
  case atStart => exact ⟨0, Nat.zero_le _, rfl, rfl, Below.refl _ _⟩
  case round =>
    obtain ⟨k, hk, rfl, HI⟩ := hrel
    by_cases hlk : k < l.length
    rotate_left
    focus
      obtain rfl : k = l.length := by omega
      rw [List.take_length] at HI
      go_wp2_with fail
      go_ret
      exact ⟨by rw [HI.out.1]; rfl, HI.out.2⟩
    obtain ⟨t, ht⟩ : ∃ t, l[k]? = some t := ⟨_, List.getElem?_eq_getElem hlk⟩
    obtain ⟨x, hx⟩ : ∃ x, xs'[k]? = some x := ⟨_, List.getElem?_eq_getElem (by rw [HV.out.1]; exact hlk)⟩
    have hv := HV.out.2.2.1 k x t hx ht
    have hmem := List.mem_of_getElem? ht
    have htb := HV.out.2.2.2.2 t hmem
    have HK : Hid (groundF (l.take (k + 1)) = (groundF (l.take k) && validT false 4 t)) := by
      obtain ⟨h1, h2⟩ := List.getElem?_eq_some_iff.1 ht
      unfold groundF
      rw [Hid, List.take_succ_eq_append_getElem h1, h2, List.all_append]
      simp
    have HM : Hid (validT false 4 t = false → groundF l = false) := by
      intro hf
      unfold groundF
      rw [List.all_eq_false]
      exact ⟨t, hmem, by simp [hf]⟩
    obtain ⟨nm', A', cp', l', rfl, rfl⟩ := hv.form
    obtain ⟨b0, o0, rfl, hb0, hbl, hc⟩ := HV.out.2.1 (by rw [HV.out.1]; omega)
    have f0 := (HI.out.2.cell (p := ⟨b0, o0 + k * 2, none⟩) hbl).trans (hc k _ hx 0 _ rfl)
    have f1 := (HI.out.2.cell (p := ⟨b0, o0 + k * 2 + 1, none⟩) hbl).trans (hc k _ hx 1 _ rfl)
    have CI := Lib.hid (rtground_any wr P _ nm' A' cp' l' rfl (hv.keep (fun b' hp hb' => ⟨hp, HI.out.2.block b' hb'⟩) HI.out.2.size) htb)
    clear hv hx hc ht htb hmem
    go_wp2_with fail
    refine CI.out.mono ?_
    rintro e w4 ⟨rfl, hb⟩
    have HB5 := Lib.hid (HI.out.2.trans (hb.mono HI.out.2.size))
    clear hb
    cases hq : validT false 4 (.mk nm' l')
    · rw [hq] at HK
      have HF := Lib.hid (HM.out hq)
      clear HM
      go_wp2_with fail
      go_ret
      exact ⟨by rw [HF.out]; rfl, HB5.out⟩
    · rw [hq] at HK
      clear HM
      go_wp2_with fail
      go_roundw
      case rel => exact ⟨k + 1, by omega, by go_num, by rw [HK.out, HI.out.1]; rfl, HB5.out⟩
      case measure => simp [intOf]; omega
end Go.Proofs.YtmplpbdldcokjaaGreatDoor
