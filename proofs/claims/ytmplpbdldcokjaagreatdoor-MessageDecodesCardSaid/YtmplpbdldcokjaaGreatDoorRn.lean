/- The walks of the reference's names: ref01.Name, ref01.Variable, ref01.Number, ref01.IsNumber, and ref04.kind. -/
import Derived.Test.YtmplpbdldcokjaaGreatDoorXb
namespace Go.Proofs.YtmplpbdldcokjaaGreatDoor
open Go Go.RowKit

theorem rLower_is {c : Int} {b : Bool} (h : lowerB c = b) (w : World) : Calls Tryz.prog 68 #[.int .u8 c] w fun e w' => e = .returned (.bool b) ∧ w = w' := h ▸ rLower_any w c
theorem rUpper_is {c : Int} {b : Bool} (h : upperB c = b) (w : World) : Calls Tryz.prog 150 #[.int .u8 c] w fun e w' => e = .returned (.bool b) ∧ w = w' := h ▸ rUpper_any w c
theorem rDigit_is {c : Int} {b : Bool} (h : digitB c = b) (w : World) : Calls Tryz.prog 69 #[.int .u8 c] w fun e w' => e = .returned (.bool b) ∧ w = w' := h ▸ rDigit_any w c

theorem nameF_short {s : ByteArray} (h : (s.size : Int) < 1) : nameF s.data.toList = false := by rw [nameF_eq, spelled_short h]; rfl
theorem nameF_long {s : ByteArray} (h : 16 < (s.size : Int)) : nameF s.data.toList = false := by rw [nameF_eq, spelled_long h]; rfl
theorem varF_short {s : ByteArray} (h : (s.size : Int) < 1) : varF s.data.toList = false := by rw [varF_eq, spelled_short h]
theorem varF_long {s : ByteArray} (h : 16 < (s.size : Int)) : varF s.data.toList = false := by rw [varF_eq, spelled_long h]
theorem nameF_head {s : ByteArray} (hp : 0 < s.size) (h : lowerB (bInt s[0]) = false) : nameF s.data.toList = false := by unfold nameF; rw [head_of s hp, h]; simp
theorem varF_head {s : ByteArray} (hp : 0 < s.size) (h : upperB (bInt s[0]) = false) : varF s.data.toList = false := by unfold varF; rw [head_of s hp, h]; simp
theorem nameF_wd {s : ByteArray} (h : wordF s.data.toList = true) : nameF s.data.toList = false := by unfold nameF; rw [h]; simp
theorem nameF_all {s : ByteArray} (hp : 0 < s.size) (h16 : s.size ≤ 16) (h : lowerB (bInt s[0]) = true) (hw : wordF s.data.toList = false) : nameF s.data.toList = s.data.toList.all (fun c => nameCh (bInt c)) := by
  have : s.data.toList.length = s.size := by simp
  unfold nameF
  rw [head_of s hp, h, hw, decide_eq_true (by omega : 1 ≤ s.data.toList.length), decide_eq_true (by omega : s.data.toList.length ≤ 16)]
  simp
theorem varF_all {s : ByteArray} (hp : 0 < s.size) (h16 : s.size ≤ 16) (h : upperB (bInt s[0]) = true) : varF s.data.toList = s.data.toList.all (fun c => varCh (bInt c)) := by
  have : s.data.toList.length = s.size := by simp
  unfold varF
  rw [head_of s hp, h, decide_eq_true (by omega : 1 ≤ s.data.toList.length), decide_eq_true (by omega : s.data.toList.length ≤ 16)]
  simp
theorem wordF_if {s : ByteArray} (h : (s.toList == [105, 102]) = true) : wordF s.data.toList = true := by rw [ByteArray.toList_eq] at h; unfold wordF; rw [h]; rfl
theorem wordF_and {s : ByteArray} (h : (s.toList == [97, 110, 100]) = true) : wordF s.data.toList = true := by rw [ByteArray.toList_eq] at h; unfold wordF; rw [h]; simp
theorem wordF_not {s : ByteArray} (h : (s.toList == [110, 111, 116]) = true) : wordF s.data.toList = true := by rw [ByteArray.toList_eq] at h; unfold wordF; rw [h]; simp
theorem wordF_none {s : ByteArray} (h1 : (s.toList == [105, 102]) = false) (h2 : (s.toList == [97, 110, 100]) = false) (h3 : (s.toList == [110, 111, 116]) = false) : wordF s.data.toList = false := by
  rw [ByteArray.toList_eq] at h1 h2 h3; unfold wordF; rw [h1, h2, h3]; rfl


set_option maxHeartbeats 2000000 in
theorem rName_any (w : World) (s : ByteArray) (hs : s.size ≤ 9223372036854775807) : Calls Tryz.prog 49 #[.string s] w fun e w' => e = .returned (.bool (nameF s.data.toList)) ∧ w = w' := by
  by_cases h1 : (s.size : Int) < 1
  · have HF := Lib.hid (nameF_short h1)
    go_enter Tryz.func49, Tryz.ntmps49
    go_wp2_with fail
    go_ret
    exact ⟨ret_bool HF.out.symm, rfl⟩
  by_cases h2 : (16 : Int) < (s.size : Int)
  · have HF := Lib.hid (nameF_long h2)
    go_enter Tryz.func49, Tryz.ntmps49
    go_wp2_with fail
    go_ret
    exact ⟨ret_bool HF.out.symm, rfl⟩
  have hp : 0 < s.size := by omega
  have hz : (0 : Int) < (s.size : Int) := by omega
  cases hl : lowerB (bInt s[0]) with
  | false =>
    have HF := Lib.hid (nameF_head hp hl)
    have HL := Lib.hid (rLower_is hl)
    clear hl
    go_enter Tryz.func49, Tryz.ntmps49
    go_wp2_with (go_at_call 68; refine (HL.out _).mono ?_; rintro e w' ⟨rfl, rfl⟩)
    go_ret
    exact ⟨ret_bool HF.out.symm, rfl⟩
  | true =>
    have HL := Lib.hid (rLower_is hl)
    cases b_if : (s.toList == [105, 102]) with
    | true =>
      have HF := Lib.hid (nameF_wd (wordF_if b_if))
      clear hl
      go_enter Tryz.func49, Tryz.ntmps49
      go_wp2_with (go_at_call 68; refine (HL.out _).mono ?_; rintro e w' ⟨rfl, rfl⟩)
      go_ret
      exact ⟨ret_bool HF.out.symm, rfl⟩
    | false =>
    cases b_and : (s.toList == [97, 110, 100]) with
    | true =>
      have HF := Lib.hid (nameF_wd (wordF_and b_and))
      clear hl
      go_enter Tryz.func49, Tryz.ntmps49
      go_wp2_with (go_at_call 68; refine (HL.out _).mono ?_; rintro e w' ⟨rfl, rfl⟩)
      go_ret
      exact ⟨ret_bool HF.out.symm, rfl⟩
    | false =>
    cases b_not : (s.toList == [110, 111, 116]) with
    | true =>
      have HF := Lib.hid (nameF_wd (wordF_not b_not))
      clear hl
      go_enter Tryz.func49, Tryz.ntmps49
      go_wp2_with (go_at_call 68; refine (HL.out _).mono ?_; rintro e w' ⟨rfl, rfl⟩)
      go_ret
      exact ⟨ret_bool HF.out.symm, rfl⟩
    | false =>
    have HALL := Lib.hid (nameF_all hp (by omega) hl (wordF_none b_if b_and b_not))
    clear hl
    go_enter Tryz.func49, Tryz.ntmps49
    go_wp2_with (go_at_call 68; refine (HL.out _).mono ?_; rintro e w' ⟨rfl, rfl⟩)
    go_loop [32] (fun i => ∃ k : Nat, k ≤ s.size ∧ i = .int .i64 k ∧ Hid ((s.data.toList.take k).all (fun c => nameCh (bInt c)) = true)) (fun i => s.size - (intOf i).toNat)
    case atStart => exact ⟨0, Nat.zero_le _, rfl, rfl⟩
    case round =>
      obtain ⟨k, hk, rfl, HA⟩ := hrel
      clear HL b_if b_and b_not
      by_cases hlt : k < s.size
      · have HN := Lib.hid (fun hc => all_no (fun c => nameCh (bInt c)) s k hlt hc)
        have HY := Lib.hid (all_snoc (fun c => nameCh (bInt c)) s k hlt)
        have hch : nameCh (bInt s[k]) = (lowerB (bInt s[k]) || digitB (bInt s[k]) || bInt s[k] == 45) := rfl
        cases hlo : lowerB (bInt s[k]) <;> cases hdi : digitB (bInt s[k]) <;> cases hmi : (bInt s[k] == 45)
        all_goals
          rw [hlo, hdi, hmi] at hch
          have HCH := Lib.hid hch
          have HLO := Lib.hid (rLower_is hlo)
          have HDI := Lib.hid (rDigit_is hdi)
          have hmi' : (((s[k]).toNat : Int) == 45) = _ := hmi
          clear hlo hdi hch hmi
          go_wp2_with (first | (go_at_call 68; refine (HLO.out _).mono ?_; rintro e w' ⟨rfl, rfl⟩) | (go_at_call 69; refine (HDI.out _).mono ?_; rintro e w' ⟨rfl, rfl⟩))
          first
            | (go_round
               case rel => exact ⟨k + 1, by omega, by go_num, by unfold Hid; rw [HY.out, HA.out, HCH.out]; rfl⟩
               case measure => simp [intOf]; omega)
            | (go_ret
               exact ⟨ret_bool (by rw [HALL.out, HN.out (by rw [HCH.out]; rfl)]), rfl⟩)
      · go_wp2_with fail
        go_ret
        obtain rfl : k = s.size := by omega
        exact ⟨ret_bool (by rw [HALL.out, ← HA.out, take_full]), rfl⟩

set_option maxHeartbeats 2000000 in
theorem rVariable_any (w : World) (s : ByteArray) (hs : s.size ≤ 9223372036854775807) : Calls Tryz.prog 138 #[.string s] w fun e w' => e = .returned (.bool (varF s.data.toList)) ∧ w = w' := by
  by_cases h1 : (s.size : Int) < 1
  · have HF := Lib.hid (varF_short h1)
    go_enter Tryz.func138, Tryz.ntmps138
    go_wp2_with fail
    go_ret
    exact ⟨ret_bool HF.out.symm, rfl⟩
  by_cases h2 : (16 : Int) < (s.size : Int)
  · have HF := Lib.hid (varF_long h2)
    go_enter Tryz.func138, Tryz.ntmps138
    go_wp2_with fail
    go_ret
    exact ⟨ret_bool HF.out.symm, rfl⟩
  have hp : 0 < s.size := by omega
  have hz : (0 : Int) < (s.size : Int) := by omega
  cases hl : upperB (bInt s[0]) with
  | false =>
    have HF := Lib.hid (varF_head hp hl)
    have HL := Lib.hid (rUpper_is hl)
    clear hl
    go_enter Tryz.func138, Tryz.ntmps138
    go_wp2_with (go_at_call 150; refine (HL.out _).mono ?_; rintro e w' ⟨rfl, rfl⟩)
    go_ret
    exact ⟨ret_bool HF.out.symm, rfl⟩
  | true =>
    have HL := Lib.hid (rUpper_is hl)
    have HALL := Lib.hid (varF_all hp (by omega) hl)
    clear hl
    go_enter Tryz.func138, Tryz.ntmps138
    go_wp2_with (go_at_call 150; refine (HL.out _).mono ?_; rintro e w' ⟨rfl, rfl⟩)
    go_loop [20] (fun i => ∃ k : Nat, k ≤ s.size ∧ i = .int .i64 k ∧ Hid ((s.data.toList.take k).all (fun c => varCh (bInt c)) = true)) (fun i => s.size - (intOf i).toNat)
    case atStart => exact ⟨0, Nat.zero_le _, rfl, rfl⟩
    case round =>
      obtain ⟨k, hk, rfl, HA⟩ := hrel
      clear HL
      by_cases hlt : k < s.size
      · have HN := Lib.hid (fun hc => all_no (fun c => varCh (bInt c)) s k hlt hc)
        have HY := Lib.hid (all_snoc (fun c => varCh (bInt c)) s k hlt)
        have hch : varCh (bInt s[k]) = (lowerB (bInt s[k]) || upperB (bInt s[k]) || digitB (bInt s[k])) := rfl
        cases hlo : lowerB (bInt s[k]) <;> cases hdi : digitB (bInt s[k]) <;> cases hmi : upperB (bInt s[k])
        all_goals
          rw [hlo, hdi, hmi] at hch
          have HCH := Lib.hid hch
          have HLO := Lib.hid (rLower_is hlo)
          have HDI := Lib.hid (rDigit_is hdi)
          have HUP := Lib.hid (rUpper_is hmi)
          clear hlo hdi hch hmi
          go_wp2_with (first | (go_at_call 68; refine (HLO.out _).mono ?_; rintro e w' ⟨rfl, rfl⟩) | (go_at_call 150; refine (HUP.out _).mono ?_; rintro e w' ⟨rfl, rfl⟩) | (go_at_call 69; refine (HDI.out _).mono ?_; rintro e w' ⟨rfl, rfl⟩))
          first
            | (go_round
               case rel => exact ⟨k + 1, by omega, by go_num, by unfold Hid; rw [HY.out, HA.out, HCH.out]; rfl⟩
               case measure => simp [intOf]; omega)
            | (go_ret
               exact ⟨ret_bool (by rw [HALL.out, HN.out (by rw [HCH.out]; rfl)]), rfl⟩)
      · go_wp2_with fail
        go_ret
        obtain rfl : k = s.size := by omega
        exact ⟨ret_bool (by rw [HALL.out, ← HA.out, take_full]), rfl⟩

set_option maxHeartbeats 2000000 in
theorem rNumber_loop (w : World) (s : ByteArray) (h1 : 1 ≤ s.size) (h4 : s.size ≤ 4) (h0 : s.size = 1 ∨ bInt (s[0]'(by omega)) ≠ 48) :
    Calls Tryz.prog 149 #[.string s] w fun e w' => e = .returned (.tuple #[.int .i64 (numV s.data.toList), .bool (numF s.data.toList)]) ∧ w = w' := by
  have hall := Lib.hid (numF_all h1 h4 h0)
  have hl1 : decide ((s.size : Int) < 1) = false := by simp; omega
  have hl4 : decide ((4 : Int) < (s.size : Int)) = false := by simp; omega
  have hp : 0 < s.size := by omega
  have hz : (∃ b, (((s[0]'hp).toNat : Int) == 48) = b ∧ (b = true → s.size ≤ 1)) := ⟨_, rfl, fun hb => by
    rcases h0 with h0 | h0
    · omega
    · exact absurd (beq_iff_eq.1 hb) h0⟩
  have hone1 : ∃ b, decide ((1 : Int) < (s.size : Int)) = b := ⟨_, rfl⟩
  clear h0
  obtain ⟨b, hz, hone⟩ := hz
  obtain ⟨b1, hone1⟩ := hone1
  cases b <;> cases b1
  all_goals try (exfalso; have := hone rfl; have := of_decide_eq_true hone1; omega)
  all_goals
    clear hone
    go_enter Tryz.func149, Tryz.ntmps149
    go_wp2_with fail
    go_loop [4, 26] (fun n i => ∃ k : Nat, k ≤ s.size ∧ i = .int .i64 k ∧ n = .int .i64 (valF (s.data.toList.take k)) ∧ Hid ((s.data.toList.take k).all (fun c => digitB (bInt c)) = true)) (fun _ i => s.size - (intOf i).toNat)
    case atStart => exact ⟨0, Nat.zero_le _, rfl, rfl, rfl⟩
    case round =>
      obtain ⟨k, hk, rfl, rfl, HA⟩ := hrel
      clear hz hone1
      by_cases hlt : k < s.size
      · have hv := valF_lt hlt h4 HA.out
        have HS := Lib.hid (valF_snoc (s.data.toList.take k) s[k])
        rw [← take_snoc s k hlt] at HS
        cases hd : digitB (bInt s[k]) with
        | true =>
          have hd1 : (48 : Int) ≤ ((s[k]).toNat : Int) ∧ ((s[k]).toNat : Int) ≤ 57 := (digitB_iff _).1 hd
          have ⟨hd2, hd3⟩ := hd1
          have HD := Lib.hid hd
          have HC := Lib.hid (rDigit_is hd)
          clear hd hd1
          go_wp2_with (go_at_call 69; refine (HC.out _).mono ?_; rintro e w' ⟨rfl, rfl⟩)
          go_round
          case rel => exact ⟨k + 1, by omega, by go_num, by rw [HS.out]; unfold bInt; go_num, by unfold Hid; rw [all_snoc _ s k hlt, HA.out, HD.out]; rfl⟩
          case measure => simp [intOf]; omega
        | false =>
          have hno : numF s.data.toList = false := by rw [hall.out]; exact all_no _ s k hlt hd
          have HN := Lib.hid hno
          have HC := Lib.hid (rDigit_is hd)
          clear hd hno
          go_wp2_with (go_at_call 69; refine (HC.out _).mono ?_; rintro e w' ⟨rfl, rfl⟩)
          go_ret2
          exact ⟨ret_num (numV_no HN.out).symm HN.out.symm, rfl⟩
      · have hks : s.size = k := by omega
        have hfin : valF (s.data.toList.take k) = numV s.data.toList ∧ numF s.data.toList = true := by
          rw [← hks] at HA ⊢
          have := HA.out
          rw [take_full] at this ⊢
          have hn : numF s.data.toList = true := by rw [hall.out]; exact this
          unfold numV
          rw [hn]
          exact ⟨rfl, rfl⟩
        have HF := Lib.hid hfin
        clear hfin hks
        go_wp2_with fail
        go_ret2
        exact ⟨ret_num HF.out.1 HF.out.2.symm, rfl⟩

set_option maxHeartbeats 400000 in
theorem rNumber_any (w : World) (s : ByteArray) :
    Calls Tryz.prog 149 #[.string s] w fun e w' => e = .returned (.tuple #[.int .i64 (numV s.data.toList), .bool (numF s.data.toList)]) ∧ w = w' := by
  by_cases h1 : (s.size : Int) < 1
  · go_enter Tryz.func149, Tryz.ntmps149
    go_wp2_with fail
    go_ret2
    exact ⟨ret_num (numV_no (numF_short h1)).symm (numF_short h1).symm, rfl⟩
  · by_cases h4 : (4 : Int) < (s.size : Int)
    · go_enter Tryz.func149, Tryz.ntmps149
      go_wp2_with fail
      go_ret2
      exact ⟨ret_num (numV_no (numF_long h4)).symm (numF_long h4).symm, rfl⟩
    · by_cases h0 : s.size = 1 ∨ bInt (s[0]'(by omega)) ≠ 48
      · exact rNumber_loop w s (by omega) (by omega) h0
      · have h01 : (1 : Int) < (s.size : Int) := by omega
        have hp : 0 < s.size := by omega
        have h00 : bInt (s[0]'hp) = 48 := by
          rcases Decidable.em (bInt (s[0]'hp) = 48) with h | h
          · exact h
          · exact absurd (.inr h) h0
        have HN := Lib.hid (numF_zero (s := s) (by omega) h00)
        have hz : (((s[0]'hp).toNat : Int) == 48) = true := beq_iff_eq.2 h00
        clear h00 h0
        go_enter Tryz.func149, Tryz.ntmps149
        go_wp2_with fail
        go_ret2
        exact ⟨ret_num (numV_no HN.out).symm HN.out.symm, rfl⟩

theorem rIsNumber_any (w : World) (s : ByteArray) : Calls Tryz.prog 137 #[.string s] w fun e w' => e = .returned (.bool (numF s.data.toList)) ∧ w = w' := by
  go_enter Tryz.func137, Tryz.ntmps137
  go_wp2_with (go_at_call 149; refine (rNumber_any _ _).mono ?_; rintro e w' ⟨rfl, rfl⟩)
  go_ret
  exact ⟨rfl, rfl⟩
end Go.Proofs.YtmplpbdldcokjaaGreatDoor
