/- The walks of lexer.Word (it reads the table of reserved words), lexer.kind, lexer.skip. -/
import Derived.Test.YtmplpbdldcokjaaGreatDoorXb
import Derived.LoopN
namespace Go.Proofs.YtmplpbdldcokjaaGreatDoor
open Go Go.RowKit

/-- the table of reserved words holds its three words -/
def Wd (w : World) : Prop :=
  6 < w.heap.size ∧ w.cell? ⟨6, 0, none⟩ = some (.string ⟨#[105, 102]⟩) ∧ w.cell? ⟨6, 1, none⟩ = some (.string ⟨#[97, 110, 100]⟩) ∧ w.cell? ⟨6, 2, none⟩ = some (.string ⟨#[110, 111, 116]⟩)
theorem Wd.below {w w' : World} {B : Nat} (h : Wd w) (hb : Below B w w') (hB : 6 < B) : Wd w' := by
  obtain ⟨h0, h1, h2, h3⟩ := h
  refine ⟨Nat.lt_of_lt_of_le h0 hb.size, ?_, ?_, ?_⟩ <;> (rw [hb.cell (by exact hB)]; assumption)
theorem Wd.grown {w w' : World} {row : Option Nat} (h : Wd w) (hb : w.grownBy w' row) (hr : row ≠ some 6) : Wd w' := by
  obtain ⟨h0, h1, h2, h3⟩ := h
  have hk := hb.block 6 h0 (fun e => hr e.symm)
  refine ⟨Nat.lt_of_lt_of_le h0 hb.size, ?_, ?_, ?_⟩ <;> (rw [World.cell?_of_block (a := ⟨6, _, none⟩) hk]; assumption)
theorem Wd.drew {w : World} (h : Wd w) : Wd w.drew := h
theorem Wd.alloc {w : World} (h : Wd w) (o : Obj) : Wd (w.alloc o) := h.below ((Below.refl w.heap.size w).alloc (Nat.le_refl _) o) h.1

def idxF (l : List UInt8) : Int := if l == [105, 102] then 0 else if l == [97, 110, 100] then 1 else if l == [110, 111, 116] then 2 else -1

set_option maxHeartbeats 1000000 in
theorem index_any (w : World) (s : ByteArray) (h : Wd w) :
    Calls Tryz.prog 162 #[.slice (some ⟨6, 0, none⟩) 3 3, .string s] w fun e w' => e = .returned (.int .i64 (idxF s.data.toList)) ∧ w = w' := by
  obtain ⟨h0, h1, h2, h3⟩ := h
  rw [← ByteArray.toList_eq]
  go_enter Tryz.func162, Tryz.ntmps162
  go_wp2_with fail
  refine wp_loop_rounds 4 ?_
  rw [rounds_succ]
  go_wp2_with fail
  · go_ret
    exact ⟨ret_int (by simp_all [idxF]), rfl⟩
  rw [rounds_succ]
  go_wp2_with fail
  · go_ret
    exact ⟨ret_int (by simp_all [idxF]), rfl⟩
  rw [rounds_succ]
  go_wp2_with fail
  · go_ret
    exact ⟨ret_int (by simp_all [idxF]), rfl⟩
  rw [rounds_succ]
  go_wp2_with fail
  go_ret
  exact ⟨ret_int (by simp_all [idxF]), rfl⟩

theorem idxF_word (l : List UInt8) : decide (0 ≤ idxF l) = wordF l := by
  unfold idxF wordF
  cases h1 : l == [105, 102] <;> cases h2 : l == [97, 110, 100] <;> cases h3 : l == [110, 111, 116] <;> simp

set_option maxHeartbeats 400000 in
theorem word_any (w : World) (s : ByteArray) (h : Wd w) :
    Calls Tryz.prog 143 #[.string s] w fun e w' => e = .returned (.bool (wordF s.data.toList)) ∧ w = w' := by
  rw [← idxF_word]
  go_enter Tryz.func143, Tryz.ntmps143
  go_wp2_with (first | (go_at_call 155; go_in) | (go_at_call 162; refine (index_any _ _ h).mono ?_; rintro e w' ⟨rfl, rfl⟩))
  go_ret
  exact ⟨ret_bool rfl, rfl⟩

theorem kindF_word {l : List UInt8} (h : wordF l = true) : kindF l = 5 := by unfold kindF; rw [h]; rfl
theorem kindF_name {l : List UInt8} (h : wordF l = false) (h2 : nameF l = true) : kindF l = 1 := by unfold kindF; rw [h, h2]; rfl
theorem kindF_num {l : List UInt8} (h : wordF l = false) (h2 : nameF l = false) (h3 : numF l = true) : kindF l = 2 := by unfold kindF; rw [h, h2, h3]; rfl
theorem kindF_var {l : List UInt8} (h : wordF l = false) (h2 : nameF l = false) (h3 : numF l = false) (h4 : varF l = true) : kindF l = 3 := by unfold kindF; rw [h, h2, h3, h4]; rfl
theorem kindF_no {l : List UInt8} (h : wordF l = false) (h2 : nameF l = false) (h3 : numF l = false) (h4 : varF l = false) : kindF l = 0 := by unfold kindF; rw [h, h2, h3, h4]; rfl

set_option maxHeartbeats 1000000 in
theorem kind_any (w : World) (s : ByteArray) (hs : s.size ≤ 9223372036854775807) (hw : Wd w) :
    Calls Tryz.prog 124 #[.string s] w fun e w' => e = .returned (.int .i64 (kindF s.data.toList)) ∧ Below w.heap.size w w' := by
  have h1 := number_any w s
  have h2 := word_any w s hw
  cases hwd : wordF s.data.toList with
  | true =>
    have hk := Lib.hid (kindF_word hwd)
    rw [hwd] at h2
    have H1 := Lib.hid h1; have H2 := Lib.hid h2
    clear h1 h2 hwd
    go_enter Tryz.func124, Tryz.ntmps124
    go_wp2_with fail
    refine H1.out.mono ?_
    rintro e w' ⟨rfl, rfl⟩
    go_wp2_with fail
    refine H2.out.mono ?_
    rintro e w' ⟨rfl, rfl⟩
    go_wp2_with fail
    go_ret
    exact ⟨ret_int hk.out.symm, Below.refl _ _⟩
  | false =>
    rw [hwd] at h2
    have h3 := name_any w s hs
    cases hnm : nameF s.data.toList with
    | true =>
      have hk := Lib.hid (kindF_name hwd hnm)
      rw [hnm] at h3
      have H1 := Lib.hid h1; have H2 := Lib.hid h2; have H3 := Lib.hid h3
      clear h1 h2 h3 hwd hnm
      go_enter Tryz.func124, Tryz.ntmps124
      go_wp2_with fail
      refine H1.out.mono ?_
      rintro e w' ⟨rfl, rfl⟩
      go_wp2_with fail
      refine H2.out.mono ?_
      rintro e w' ⟨rfl, rfl⟩
      go_wp2_with fail
      refine H3.out.mono ?_
      rintro e w1 ⟨rfl, hb1⟩
      go_wp2_with fail
      go_ret
      exact ⟨ret_int hk.out.symm, hb1⟩
    | false =>
      rw [hnm] at h3
      cases hnu : numF s.data.toList with
      | true =>
        have hk := Lib.hid (kindF_num hwd hnm hnu)
        rw [hnu] at h1
        have H1 := Lib.hid h1; have H2 := Lib.hid h2; have H3 := Lib.hid h3
        clear h1 h2 h3 hwd hnm hnu
        go_enter Tryz.func124, Tryz.ntmps124
        go_wp2_with fail
        refine H1.out.mono ?_
        rintro e w' ⟨rfl, rfl⟩
        go_wp2_with fail
        refine H2.out.mono ?_
        rintro e w' ⟨rfl, rfl⟩
        go_wp2_with fail
        refine H3.out.mono ?_
        rintro e w1 ⟨rfl, hb1⟩
        go_wp2_with fail
        go_ret
        exact ⟨ret_int hk.out.symm, hb1⟩
      | false =>
        rw [hnu] at h1
        have h4 := fun w1 => variable_any w1 s hs
        cases hva : varF s.data.toList with
        | true =>
          have hk := Lib.hid (kindF_var hwd hnm hnu hva)
          rw [hva] at h4
          have H1 := Lib.hid h1; have H2 := Lib.hid h2; have H3 := Lib.hid h3; have H4 := Lib.hid h4
          clear h1 h2 h3 h4 hwd hnm hnu hva
          go_enter Tryz.func124, Tryz.ntmps124
          go_wp2_with fail
          refine H1.out.mono ?_
          rintro e w' ⟨rfl, rfl⟩
          go_wp2_with fail
          refine H2.out.mono ?_
          rintro e w' ⟨rfl, rfl⟩
          go_wp2_with fail
          refine H3.out.mono ?_
          rintro e w1 ⟨rfl, hb1⟩
          go_wp2_with fail
          refine (H4.out _).mono ?_
          rintro e w2 ⟨rfl, hb2⟩
          go_wp2_with fail
          go_ret
          exact ⟨ret_int hk.out.symm, hb1.trans (hb2.mono hb1.size)⟩
        | false =>
          have hk := Lib.hid (kindF_no hwd hnm hnu hva)
          rw [hva] at h4
          have H1 := Lib.hid h1; have H2 := Lib.hid h2; have H3 := Lib.hid h3; have H4 := Lib.hid h4
          clear h1 h2 h3 h4 hwd hnm hnu hva
          go_enter Tryz.func124, Tryz.ntmps124
          go_wp2_with fail
          refine H1.out.mono ?_
          rintro e w' ⟨rfl, rfl⟩
          go_wp2_with fail
          refine H2.out.mono ?_
          rintro e w' ⟨rfl, rfl⟩
          go_wp2_with fail
          refine H3.out.mono ?_
          rintro e w1 ⟨rfl, hb1⟩
          go_wp2_with fail
          refine (H4.out _).mono ?_
          rintro e w2 ⟨rfl, hb2⟩
          go_wp2_with fail
          go_ret
          exact ⟨ret_int hk.out.symm, hb1.trans (hb2.mono hb1.size)⟩

/-- how many bytes at the head satisfy p -/
def spanL (p : UInt8 → Bool) (l : List UInt8) : Nat := (l.takeWhile p).length
theorem drop_cons (s : ByteArray) (j : Nat) (h : j < s.size) : s.data.toList.drop j = s[j] :: s.data.toList.drop (j + 1) := by
  rw [List.drop_eq_getElem_cons (by simpa using h)]; rfl
theorem span_yes {p : UInt8 → Bool} (s : ByteArray) (j : Nat) (h : j < s.size) (hp : p s[j] = true) : spanL p (s.data.toList.drop j) = 1 + spanL p (s.data.toList.drop (j + 1)) := by
  unfold spanL
  rw [drop_cons s j h, List.takeWhile_cons_of_pos hp]
  simp; omega
theorem span_no {p : UInt8 → Bool} (s : ByteArray) (j : Nat) (h : j < s.size) (hp : p s[j] = false) : spanL p (s.data.toList.drop j) = 0 := by
  unfold spanL
  rw [drop_cons s j h, List.takeWhile_cons_of_neg (by simp [hp])]
  rfl
theorem span_end {p : UInt8 → Bool} (s : ByteArray) (j : Nat) (h : s.size ≤ j) : spanL p (s.data.toList.drop j) = 0 := by
  unfold spanL
  rw [List.drop_eq_nil_of_le (by simpa using h)]
  rfl
theorem span_le {p : UInt8 → Bool} (s : ByteArray) (j : Nat) (h : j ≤ s.size) : j + spanL p (s.data.toList.drop j) ≤ s.size := by
  unfold spanL
  have := (List.takeWhile_prefix p (l := s.data.toList.drop j)).length_le
  simp at this
  omega

set_option maxHeartbeats 1000000 in
theorem skipRun_any (w : World) (s : ByteArray) (k : Nat) (hs : s.size ≤ 9223372036854775807) (hk : k ≤ s.size) :
    Calls Tryz.prog 121 #[.string s, .int .i64 k, .func (.func 123) #[] #[]] w fun e w' => e = .returned (.int .i64 ((k + spanL (fun c => runB (bInt c)) (s.data.toList.drop k) : Nat))) ∧ w = w' := by
  go_enter Tryz.func121, Tryz.ntmps121
  go_wp2_with fail
  go_loop [1] (fun i => ∃ j : Nat, j ≤ s.size ∧ i = .int .i64 j ∧ Hid (j + spanL (fun c => runB (bInt c)) (s.data.toList.drop j) = k + spanL (fun c => runB (bInt c)) (s.data.toList.drop k))) (fun i => s.size - (intOf i).toNat)
  case atStart => exact ⟨k, hk, rfl, rfl⟩
  case round =>
    obtain ⟨j, hj, rfl, HJ⟩ := hrel
    by_cases hlt : j < s.size
    · by_cases hp : runB (bInt s[j]) = true
      · have HS := Lib.hid (span_yes (p := fun c => runB (bInt c)) s j hlt hp)
        have hc := fun w => inRun_any w (↑s[j].toNat)
        rw [show runB (↑s[j].toNat) = true from hp] at hc
        have HC := Lib.hid hc
        clear hc hp
        go_wp2_with (go_at_call 123; refine (HC.out _).mono ?_; rintro e w' ⟨rfl, rfl⟩)
        go_round
        case rel => exact ⟨j + 1, by omega, by go_num, by unfold Hid; have := HJ.out; rw [HS.out] at this; omega⟩
        case measure => simp [intOf]; omega
      · have HS := Lib.hid (span_no (p := fun c => runB (bInt c)) s j hlt (Bool.eq_false_iff.2 hp))
        have hc := fun w => inRun_any w (↑s[j].toNat)
        rw [show runB (↑s[j].toNat) = false from Bool.eq_false_iff.2 hp] at hc
        have HC := Lib.hid hc
        clear hc hp
        go_wp2_with (go_at_call 123; refine (HC.out _).mono ?_; rintro e w' ⟨rfl, rfl⟩)
        go_ret
        exact ⟨ret_int (by have := HJ.out; rw [HS.out] at this; omega), rfl⟩
    · have HS := Lib.hid (span_end (p := fun c => runB (bInt c)) s j (by omega))
      go_wp2_with fail
      go_ret
      exact ⟨ret_int (by have := HJ.out; rw [HS.out] at this; omega), rfl⟩

set_option maxHeartbeats 1000000 in
theorem skipLf_any (w : World) (s : ByteArray) (k : Nat) (hs : s.size ≤ 9223372036854775807) (hk : k ≤ s.size) :
    Calls Tryz.prog 121 #[.string s, .int .i64 k, .func (.func 122) #[] #[]] w fun e w' => e = .returned (.int .i64 ((k + spanL (fun c => noLf (bInt c)) (s.data.toList.drop k) : Nat))) ∧ w = w' := by
  go_enter Tryz.func121, Tryz.ntmps121
  go_wp2_with fail
  go_loop [1] (fun i => ∃ j : Nat, j ≤ s.size ∧ i = .int .i64 j ∧ Hid (j + spanL (fun c => noLf (bInt c)) (s.data.toList.drop j) = k + spanL (fun c => noLf (bInt c)) (s.data.toList.drop k))) (fun i => s.size - (intOf i).toNat)
  case atStart => exact ⟨k, hk, rfl, rfl⟩
  case round =>
    obtain ⟨j, hj, rfl, HJ⟩ := hrel
    by_cases hlt : j < s.size
    · by_cases hp : noLf (bInt s[j]) = true
      · have HS := Lib.hid (span_yes (p := fun c => noLf (bInt c)) s j hlt hp)
        have hc := fun w => noLf_any w (↑s[j].toNat)
        rw [show noLf (↑s[j].toNat) = true from hp] at hc
        have HC := Lib.hid hc
        clear hc hp
        go_wp2_with (go_at_call 122; refine (HC.out _).mono ?_; rintro e w' ⟨rfl, rfl⟩)
        go_round
        case rel => exact ⟨j + 1, by omega, by go_num, by unfold Hid; have := HJ.out; rw [HS.out] at this; omega⟩
        case measure => simp [intOf]; omega
      · have HS := Lib.hid (span_no (p := fun c => noLf (bInt c)) s j hlt (Bool.eq_false_iff.2 hp))
        have hc := fun w => noLf_any w (↑s[j].toNat)
        rw [show noLf (↑s[j].toNat) = false from Bool.eq_false_iff.2 hp] at hc
        have HC := Lib.hid hc
        clear hc hp
        go_wp2_with (go_at_call 122; refine (HC.out _).mono ?_; rintro e w' ⟨rfl, rfl⟩)
        go_ret
        exact ⟨ret_int (by have := HJ.out; rw [HS.out] at this; omega), rfl⟩
    · have HS := Lib.hid (span_end (p := fun c => noLf (bInt c)) s j (by omega))
      go_wp2_with fail
      go_ret
      exact ⟨ret_int (by have := HJ.out; rw [HS.out] at this; omega), rfl⟩

end Go.Proofs.YtmplpbdldcokjaaGreatDoor
