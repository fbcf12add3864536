/- The walks of the words: term.Name, term.Variable, term.Number, lexer.Word, and the reference's Word, Name, Number, Variable, IsNumber. -/
import Derived.Test.YtmpdnmnimdkfnaaDoorNm
namespace Go.Proofs.YtmpdnmnimdkfnaaDoor
open Go Go.RowKit

set_option maxHeartbeats 400000 in
theorem rWord_any (w : World) (s : ByteArray) : Calls Tryd.prog 40 #[.string s] w fun e w' => e = .returned (.bool (wordF s.data.toList)) ∧ w = w' := by
  go_enter Tryd.func40, Tryd.ntmps40
  go_wp2
  all_goals go_ret
  all_goals refine ⟨ret_bool ?_, rfl⟩
  all_goals simp_all [wordF, ByteArray.toList_eq]

theorem nameF_eq (l : List UInt8) : nameF l = (spelledB 97 122 48 57 45 45 l && !wordF l) := by
  unfold nameF spelledB
  congr 1
  congr 1
  congr 1
  funext x
  rw [Bool.eq_iff_iff]
  simp [nameCh, lowerB, digitB]
  omega
theorem varF_eq (l : List UInt8) : varF l = spelledB 65 90 97 122 48 57 l := by
  unfold varF spelledB
  congr 1
  congr 1
  funext x
  rw [Bool.eq_iff_iff]
  simp [varCh, lowerB, digitB, upperB]
  omega

set_option maxHeartbeats 400000 in
theorem name_any (w : World) (s : ByteArray) (hs : s.size ≤ 9223372036854775807) : Calls Tryd.prog 36 #[.string s] w fun e w' => e = .returned (.bool (nameF s.data.toList)) ∧ Below w.heap.size w w' := by
  rw [nameF_eq]
  have hc := spelled_any w s 97 122 48 57 45 45 hs
  cases hsp : spelledB 97 122 48 57 45 45 s.data.toList
  all_goals
    rw [hsp] at hc
    have HC := Lib.hid hc
    clear hc hsp
    go_enter Tryd.func36, Tryd.ntmps36
    go_wp2_with fail
    refine HC.out.mono ?_
    rintro e w1 ⟨rfl, hb⟩
    go_wp2_with fail
    all_goals go_ret
    all_goals refine ⟨ret_bool ?_, hb⟩
    all_goals simp_all [wordF, ByteArray.toList_eq]

set_option maxHeartbeats 400000 in
theorem variable_any (w : World) (s : ByteArray) (hs : s.size ≤ 9223372036854775807) : Calls Tryd.prog 37 #[.string s] w fun e w' => e = .returned (.bool (varF s.data.toList)) ∧ Below w.heap.size w w' := by
  rw [varF_eq]
  go_enter Tryd.func37, Tryd.ntmps37
  go_wp2_with fail
  refine (spelled_any w s 65 90 97 122 48 57 hs).mono ?_
  rintro e w1 ⟨rfl, hb⟩
  go_wp2_with fail
  go_ret
  exact ⟨rfl, hb⟩

theorem numF_short {s : ByteArray} (h : (s.size : Int) < 1) : numF s.data.toList = false := by
  have : s.data.toList.length = s.size := by simp
  unfold numF
  rw [decide_eq_false (by omega : ¬ 1 ≤ s.data.toList.length)]
  rfl
theorem numF_long {s : ByteArray} (h : 4 < (s.size : Int)) : numF s.data.toList = false := by
  have : s.data.toList.length = s.size := by simp
  unfold numF
  rw [decide_eq_false (by omega : ¬ s.data.toList.length ≤ 4), Bool.and_false]
  rfl
theorem numF_zero {s : ByteArray} (h : 1 < s.size) (h0 : bInt (s[0]'(by omega)) = 48) : numF s.data.toList = false := by
  have : s.data.toList.length = s.size := by simp
  unfold numF
  rw [head_of s (by omega), h0, decide_eq_true (by omega : 1 < s.data.toList.length)]
  simp
theorem numF_all {s : ByteArray} (h1 : 1 ≤ s.size) (h4 : s.size ≤ 4) (h0 : s.size = 1 ∨ bInt (s[0]'(by omega)) ≠ 48) : numF s.data.toList = s.data.toList.all (fun c => digitB (bInt c)) := by
  have : s.data.toList.length = s.size := by simp
  unfold numF
  rw [head_of s (by omega), decide_eq_true (by omega : 1 ≤ s.data.toList.length), decide_eq_true (by omega : s.data.toList.length ≤ 4)]
  rcases h0 with h0 | h0
  · rw [decide_eq_false (by omega : ¬ 1 < s.data.toList.length)]
    simp
  · rw [show (bInt s[0] == 48) = false from by simpa using h0]
    simp
theorem valF_snoc (l : List UInt8) (c : UInt8) : valF (l ++ [c]) = 10 * valF l + (bInt c - 48) := by simp [valF]
theorem valF_bd : ∀ (l : List UInt8), l.all (fun c => digitB (bInt c)) = true → 0 ≤ valF l ∧ valF l < 10 ^ l.length := by
  intro l
  induction hn : l.length generalizing l with
  | zero =>
    intro _
    have : l = [] := List.eq_nil_of_length_eq_zero hn
    subst this
    simp [valF]
  | succ n ih =>
    intro h
    obtain ⟨l', c, rfl⟩ : ∃ l' c, l = l' ++ [c] := ⟨l.dropLast, l.getLast (by intro e; subst e; simp at hn), (List.dropLast_concat_getLast _).symm⟩
    have hl : l'.length = n := by simpa using hn
    simp only [List.all_append, List.all_cons, List.all_nil, Bool.and_true, Bool.and_eq_true, digitB, decide_eq_true_eq] at h
    have := ih l' hl (by simpa [digitB] using h.1)
    rw [valF_snoc, Int.pow_succ]
    omega
/-- what Number gives -/
def numV (l : List UInt8) : Int := if numF l then valF l else 0

theorem numV_no {l : List UInt8} (h : numF l = false) : numV l = 0 := by unfold numV; rw [h]; rfl
theorem valF_le {s : ByteArray} {k : Nat} (hk : k ≤ s.size) (h4 : s.size ≤ 4) (h : (s.data.toList.take k).all (fun c => digitB (bInt c)) = true) : 0 ≤ valF (s.data.toList.take k) ∧ valF (s.data.toList.take k) ≤ 9999 := by
  have h1 := valF_bd _ h
  have hl : (s.data.toList.take k).length ≤ 4 := by simp; omega
  have h2 : (10 : Nat) ^ (s.data.toList.take k).length ≤ 10 ^ 4 := Nat.pow_le_pow_right (by omega) hl
  have h3 : ((10 : Int) ^ (s.data.toList.take k).length) = ((10 ^ (s.data.toList.take k).length : Nat) : Int) := by simp
  omega
theorem valF_lt {s : ByteArray} {k : Nat} (hk : k < s.size) (h4 : s.size ≤ 4) (h : (s.data.toList.take k).all (fun c => digitB (bInt c)) = true) : 0 ≤ valF (s.data.toList.take k) ∧ valF (s.data.toList.take k) ≤ 999 := by
  have h1 := valF_bd _ h
  have hl : (s.data.toList.take k).length ≤ 3 := by simp; omega
  have h2 : (10 : Nat) ^ (s.data.toList.take k).length ≤ 10 ^ 3 := Nat.pow_le_pow_right (by omega) hl
  have h3 : ((10 : Int) ^ (s.data.toList.take k).length) = ((10 ^ (s.data.toList.take k).length : Nat) : Int) := by simp
  omega

theorem ret_num {a b : Int} {c d : Bool} (h : a = b) (h' : c = d) : Ending.returned (.tuple #[.int .i64 a, .bool c]) = .returned (.tuple #[.int .i64 b, .bool d]) := by rw [h, h']

set_option maxHeartbeats 1000000 in
theorem number_loop (w : World) (s : ByteArray) (h1 : 1 ≤ s.size) (h4 : s.size ≤ 4) (h0 : s.size = 1 ∨ bInt (s[0]'(by omega)) ≠ 48) :
    Calls Tryd.prog 35 #[.string s] w fun e w' => e = .returned (.tuple #[.int .i64 (numV s.data.toList), .bool (numF s.data.toList)]) ∧ w = w' := by
  have hall := Lib.hid (numF_all h1 h4 h0)
  have hl1 : decide ((s.size : Int) < 1) = false := by simp; omega
  have hl4 : decide ((4 : Int) < (s.size : Int)) = false := by simp; omega
  have hp : 0 < s.size := by omega
  have hz : (∃ b, (((s[0]'hp).toNat : Int) == 48) = b ∧ (b = true → s.size ≤ 1)) := ⟨_, rfl, fun hb => by
    rcases h0 with h0 | h0
    · omega
    · exact absurd (beq_iff_eq.1 hb) h0⟩
  clear h0
  obtain ⟨b, hz, hone⟩ := hz
  cases b
  all_goals
    first
    | (have hone' : decide ((1 : Int) < (s.size : Int)) = false := by simp; have := hone rfl; omega)
      clear hone
    | clear hone
    go_enter Tryd.func35, Tryd.ntmps35
    go_wp2_with fail
    go_loop [4, 5] (fun n i => ∃ k : Nat, k ≤ s.size ∧ i = .int .i64 k ∧ n = .int .i64 (valF (s.data.toList.take k)) ∧ Hid ((s.data.toList.take k).all (fun c => digitB (bInt c)) = true)) (fun _ i => s.size - (intOf i).toNat)
    case atStart => exact ⟨0, Nat.zero_le _, rfl, rfl, rfl⟩
    case round =>
      obtain ⟨k, hk, rfl, rfl, HA⟩ := hrel
      clear hz
      by_cases hlt : k < s.size
      · have hv := valF_lt hlt h4 HA.out
        have HS := Lib.hid (valF_snoc (s.data.toList.take k) s[k])
        rw [← take_snoc s k hlt] at HS
        by_cases hd : digitB (bInt s[k]) = true
        · have hd1 : (48 : Int) ≤ ((s[k]).toNat : Int) ∧ ((s[k]).toNat : Int) ≤ 57 := (digitB_iff _).1 hd
          have ⟨hd2, hd3⟩ := hd1
          have HD := Lib.hid hd
          clear hd hd1
          go_wp2_with fail
          go_round
          case rel => exact ⟨k + 1, by omega, by go_num, by rw [HS.out]; unfold bInt; go_num, by unfold Hid; rw [all_snoc _ s k hlt, HA.out, HD.out]; rfl⟩
          case measure => simp [intOf]; omega
        · have hno : numF s.data.toList = false := by rw [hall.out]; exact all_no _ s k hlt (by simpa using hd)
          have HN := Lib.hid hno
          have hd1 : ((s[k]).toNat : Int) < 48 ∨ (57 : Int) < ((s[k]).toNat : Int) := digitB_no hd
          clear hd hno
          rcases hd1 with hd1 | hd1
          all_goals
            go_wp2_with fail
            go_ret2
            exact ⟨ret_num (numV_no HN.out).symm HN.out.symm, rfl⟩
      · have hks : s.size = k := by omega
        have hv := valF_le hk h4 HA.out
        have hfin : valF (s.data.toList.take k) = numV s.data.toList ∧ numF s.data.toList = true := by
          rw [← hks] at HA ⊢
          have := HA.out
          rw [take_full] at this ⊢
          have hn : numF s.data.toList = true := by rw [hall.out]; exact this
          unfold numV
          rw [hn]
          exact ⟨rfl, rfl⟩
        have HF := Lib.hid hfin
        clear hfin hks
        go_wp2_with fail
        go_ret2
        exact ⟨ret_num HF.out.1 HF.out.2.symm, rfl⟩

set_option maxHeartbeats 400000 in
theorem number_any (w : World) (s : ByteArray) :
    Calls Tryd.prog 35 #[.string s] w fun e w' => e = .returned (.tuple #[.int .i64 (numV s.data.toList), .bool (numF s.data.toList)]) ∧ w = w' := by
  by_cases h1 : (s.size : Int) < 1
  · go_enter Tryd.func35, Tryd.ntmps35
    go_wp2_with fail
    go_ret2
    exact ⟨ret_num (numV_no (numF_short h1)).symm (numF_short h1).symm, rfl⟩
  · by_cases h4 : (4 : Int) < (s.size : Int)
    · go_enter Tryd.func35, Tryd.ntmps35
      go_wp2_with fail
      go_ret2
      exact ⟨ret_num (numV_no (numF_long h4)).symm (numF_long h4).symm, rfl⟩
    · by_cases h0 : s.size = 1 ∨ bInt (s[0]'(by omega)) ≠ 48
      · exact number_loop w s (by omega) (by omega) h0
      · have h01 : (1 : Int) < (s.size : Int) := by omega
        have hp : 0 < s.size := by omega
        have h00 : bInt (s[0]'hp) = 48 := by
          rcases Decidable.em (bInt (s[0]'hp) = 48) with h | h
          · exact h
          · exact absurd (.inr h) h0
        have HN := Lib.hid (numF_zero (s := s) (by omega) h00)
        have hz : (((s[0]'hp).toNat : Int) == 48) = true := by simpa [bInt] using h00
        clear h00 h0
        go_enter Tryd.func35, Tryd.ntmps35
        go_wp2_with fail
        go_ret2
        exact ⟨ret_num (numV_no HN.out).symm HN.out.symm, rfl⟩
end Go.Proofs.YtmpdnmnimdkfnaaDoor
