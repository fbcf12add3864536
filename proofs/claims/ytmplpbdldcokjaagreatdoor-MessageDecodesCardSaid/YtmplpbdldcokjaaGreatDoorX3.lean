/- Merged texts: The walks of lexer.Word (it reads the table of reserved words), lexer.kind, lexer.skip. The walk of the closure in lexer.Lex that adds a token. -/
import Derived.Test.YtmplpbdldcokjaaGreatDoorXb
import Derived.LoopN
import Derived.Deep.AppendLies
import Derived.Deep.RegionLaw
import Derived.OwnWalk
namespace Go.Proofs.YtmplpbdldcokjaaGreatDoor
/- The walks of lexer.Word (it reads the table of reserved words), lexer.kind, lexer.skip. -/
section
open Go Go.RowKit

/-- the table of reserved words holds its three words -/
def Wd (w : World) : Prop :=
  6 < w.heap.size ∧ w.cell? ⟨6, 0, none⟩ = some (.string ⟨#[105, 102]⟩) ∧ w.cell? ⟨6, 1, none⟩ = some (.string ⟨#[97, 110, 100]⟩) ∧ w.cell? ⟨6, 2, none⟩ = some (.string ⟨#[110, 111, 116]⟩)
theorem Wd.below {w w' : World} {B : Nat} (h : Wd w) (hb : Below B w w') (hB : 6 < B) : Wd w' := by
  obtain ⟨h0, h1, h2, h3⟩ := h
  refine ⟨Nat.lt_of_lt_of_le h0 hb.size, ?_, ?_, ?_⟩ <;> (rw [hb.cell (by exact hB)]; assumption)
theorem Wd.grown {w w' : World} {row : Option Nat} (h : Wd w) (hb : w.grownBy w' row) (hr : row ≠ some 6) : Wd w' := by
  obtain ⟨h0, h1, h2, h3⟩ := h
  have hk := hb.block 6 h0 (fun e => hr e.symm)
  refine ⟨Nat.lt_of_lt_of_le h0 hb.size, ?_, ?_, ?_⟩ <;> (rw [World.cell?_of_block (a := ⟨6, _, none⟩) hk]; assumption)
theorem Wd.drew {w : World} (h : Wd w) : Wd w.drew := h
theorem Wd.alloc {w : World} (h : Wd w) (o : Obj) : Wd (w.alloc o) := h.below ((Below.refl w.heap.size w).alloc (Nat.le_refl _) o) h.1

def idxF (l : List UInt8) : Int := if l == [105, 102] then 0 else if l == [97, 110, 100] then 1 else if l == [110, 111, 116] then 2 else -1

set_option maxHeartbeats 1000000 in
theorem index_any (w : World) (s : ByteArray) (h : Wd w) :
    Calls Tryz.prog 162 #[.slice (some ⟨6, 0, none⟩) 3 3, .string s] w fun e w' => e = .returned (.int .i64 (idxF s.data.toList)) ∧ w = w' := by
  obtain ⟨h0, h1, h2, h3⟩ := h
  rw [← ByteArray.toList_eq]
  go_enter Tryz.func162, Tryz.ntmps162
  go_wp2_with fail
  refine wp_loop_rounds 4 ?_
  rw [rounds_succ]
  go_wp2_with fail
  · go_ret
    exact ⟨ret_int (by simp_all [idxF]), rfl⟩
  rw [rounds_succ]
  go_wp2_with fail
  · go_ret
    exact ⟨ret_int (by simp_all [idxF]), rfl⟩
  rw [rounds_succ]
  go_wp2_with fail
  · go_ret
    exact ⟨ret_int (by simp_all [idxF]), rfl⟩
  rw [rounds_succ]
  go_wp2_with fail
  go_ret
  exact ⟨ret_int (by simp_all [idxF]), rfl⟩

theorem idxF_word (l : List UInt8) : decide (0 ≤ idxF l) = wordF l := by
  unfold idxF wordF
  cases h1 : l == [105, 102] <;> cases h2 : l == [97, 110, 100] <;> cases h3 : l == [110, 111, 116] <;> simp

set_option maxHeartbeats 400000 in
theorem word_any (w : World) (s : ByteArray) (h : Wd w) :
    Calls Tryz.prog 143 #[.string s] w fun e w' => e = .returned (.bool (wordF s.data.toList)) ∧ w = w' := by
  rw [← idxF_word]
  go_enter Tryz.func143, Tryz.ntmps143
  go_wp2_with (first | (go_at_call 155; go_in) | (go_at_call 162; refine (index_any _ _ h).mono ?_; rintro e w' ⟨rfl, rfl⟩))
  go_ret
  exact ⟨ret_bool rfl, rfl⟩

theorem kindF_word {l : List UInt8} (h : wordF l = true) : kindF l = 5 := by unfold kindF; rw [h]; rfl
theorem kindF_name {l : List UInt8} (h : wordF l = false) (h2 : nameF l = true) : kindF l = 1 := by unfold kindF; rw [h, h2]; rfl
theorem kindF_num {l : List UInt8} (h : wordF l = false) (h2 : nameF l = false) (h3 : numF l = true) : kindF l = 2 := by unfold kindF; rw [h, h2, h3]; rfl
theorem kindF_var {l : List UInt8} (h : wordF l = false) (h2 : nameF l = false) (h3 : numF l = false) (h4 : varF l = true) : kindF l = 3 := by unfold kindF; rw [h, h2, h3, h4]; rfl
theorem kindF_no {l : List UInt8} (h : wordF l = false) (h2 : nameF l = false) (h3 : numF l = false) (h4 : varF l = false) : kindF l = 0 := by unfold kindF; rw [h, h2, h3, h4]; rfl

set_option maxHeartbeats 1000000 in
theorem kind_any (w : World) (s : ByteArray) (hs : s.size ≤ 9223372036854775807) (hw : Wd w) :
    Calls Tryz.prog 124 #[.string s] w fun e w' => e = .returned (.int .i64 (kindF s.data.toList)) ∧ Below w.heap.size w w' := by
  have h1 := number_any w s
  have h2 := word_any w s hw
  cases hwd : wordF s.data.toList with
  | true =>
    have hk := Lib.hid (kindF_word hwd)
    rw [hwd] at h2
    have H1 := Lib.hid h1; have H2 := Lib.hid h2
    clear h1 h2 hwd
    go_enter Tryz.func124, Tryz.ntmps124
    go_wp2_with fail
    refine H1.out.mono ?_
    rintro e w' ⟨rfl, rfl⟩
    go_wp2_with fail
    refine H2.out.mono ?_
    rintro e w' ⟨rfl, rfl⟩
    go_wp2_with fail
    go_ret
    exact ⟨ret_int hk.out.symm, Below.refl _ _⟩
  | false =>
    rw [hwd] at h2
    have h3 := name_any w s hs
    cases hnm : nameF s.data.toList with
    | true =>
      have hk := Lib.hid (kindF_name hwd hnm)
      rw [hnm] at h3
      have H1 := Lib.hid h1; have H2 := Lib.hid h2; have H3 := Lib.hid h3
      clear h1 h2 h3 hwd hnm
      go_enter Tryz.func124, Tryz.ntmps124
      go_wp2_with fail
      refine H1.out.mono ?_
      rintro e w' ⟨rfl, rfl⟩
      go_wp2_with fail
      refine H2.out.mono ?_
      rintro e w' ⟨rfl, rfl⟩
      go_wp2_with fail
      refine H3.out.mono ?_
      rintro e w1 ⟨rfl, hb1⟩
      go_wp2_with fail
      go_ret
      exact ⟨ret_int hk.out.symm, hb1⟩
    | false =>
      rw [hnm] at h3
      cases hnu : numF s.data.toList with
      | true =>
        have hk := Lib.hid (kindF_num hwd hnm hnu)
        rw [hnu] at h1
        have H1 := Lib.hid h1; have H2 := Lib.hid h2; have H3 := Lib.hid h3
        clear h1 h2 h3 hwd hnm hnu
        go_enter Tryz.func124, Tryz.ntmps124
        go_wp2_with fail
        refine H1.out.mono ?_
        rintro e w' ⟨rfl, rfl⟩
        go_wp2_with fail
        refine H2.out.mono ?_
        rintro e w' ⟨rfl, rfl⟩
        go_wp2_with fail
        refine H3.out.mono ?_
        rintro e w1 ⟨rfl, hb1⟩
        go_wp2_with fail
        go_ret
        exact ⟨ret_int hk.out.symm, hb1⟩
      | false =>
        rw [hnu] at h1
        have h4 := fun w1 => variable_any w1 s hs
        cases hva : varF s.data.toList with
        | true =>
          have hk := Lib.hid (kindF_var hwd hnm hnu hva)
          rw [hva] at h4
          have H1 := Lib.hid h1; have H2 := Lib.hid h2; have H3 := Lib.hid h3; have H4 := Lib.hid h4
          clear h1 h2 h3 h4 hwd hnm hnu hva
          go_enter Tryz.func124, Tryz.ntmps124
          go_wp2_with fail
          refine H1.out.mono ?_
          rintro e w' ⟨rfl, rfl⟩
          go_wp2_with fail
          refine H2.out.mono ?_
          rintro e w' ⟨rfl, rfl⟩
          go_wp2_with fail
          refine H3.out.mono ?_
          rintro e w1 ⟨rfl, hb1⟩
          go_wp2_with fail
          refine (H4.out _).mono ?_
          rintro e w2 ⟨rfl, hb2⟩
          go_wp2_with fail
          go_ret
          exact ⟨ret_int hk.out.symm, hb1.trans (hb2.mono hb1.size)⟩
        | false =>
          have hk := Lib.hid (kindF_no hwd hnm hnu hva)
          rw [hva] at h4
          have H1 := Lib.hid h1; have H2 := Lib.hid h2; have H3 := Lib.hid h3; have H4 := Lib.hid h4
          clear h1 h2 h3 h4 hwd hnm hnu hva
          go_enter Tryz.func124, Tryz.ntmps124
          go_wp2_with fail
          refine H1.out.mono ?_
          rintro e w' ⟨rfl, rfl⟩
          go_wp2_with fail
          refine H2.out.mono ?_
          rintro e w' ⟨rfl, rfl⟩
          go_wp2_with fail
          refine H3.out.mono ?_
          rintro e w1 ⟨rfl, hb1⟩
          go_wp2_with fail
          refine (H4.out _).mono ?_
          rintro e w2 ⟨rfl, hb2⟩
          go_wp2_with fail
          go_ret
          exact ⟨ret_int hk.out.symm, hb1.trans (hb2.mono hb1.size)⟩

/-- how many bytes at the head satisfy p -/
def spanL (p : UInt8 → Bool) (l : List UInt8) : Nat := (l.takeWhile p).length
theorem drop_cons (s : ByteArray) (j : Nat) (h : j < s.size) : s.data.toList.drop j = s[j] :: s.data.toList.drop (j + 1) := by
  rw [List.drop_eq_getElem_cons (by simpa using h)]; rfl
theorem span_yes {p : UInt8 → Bool} (s : ByteArray) (j : Nat) (h : j < s.size) (hp : p s[j] = true) : spanL p (s.data.toList.drop j) = 1 + spanL p (s.data.toList.drop (j + 1)) := by
  unfold spanL
  rw [drop_cons s j h, List.takeWhile_cons_of_pos hp]
  simp; omega
theorem span_no {p : UInt8 → Bool} (s : ByteArray) (j : Nat) (h : j < s.size) (hp : p s[j] = false) : spanL p (s.data.toList.drop j) = 0 := by
  unfold spanL
  rw [drop_cons s j h, List.takeWhile_cons_of_neg (by simp [hp])]
  rfl
theorem span_end {p : UInt8 → Bool} (s : ByteArray) (j : Nat) (h : s.size ≤ j) : spanL p (s.data.toList.drop j) = 0 := by
  unfold spanL
  rw [List.drop_eq_nil_of_le (by simpa using h)]
  rfl
theorem span_le {p : UInt8 → Bool} (s : ByteArray) (j : Nat) (h : j ≤ s.size) : j + spanL p (s.data.toList.drop j) ≤ s.size := by
  unfold spanL
  have := (List.takeWhile_prefix p (l := s.data.toList.drop j)).length_le
  simp at this
  omega

set_option maxHeartbeats 1000000 in
theorem skipRun_any (w : World) (s : ByteArray) (k : Nat) (hs : s.size ≤ 9223372036854775807) (hk : k ≤ s.size) :
    Calls Tryz.prog 121 #[.string s, .int .i64 k, .func (.func 123) #[] #[]] w fun e w' => e = .returned (.int .i64 ((k + spanL (fun c => runB (bInt c)) (s.data.toList.drop k) : Nat))) ∧ w = w' := by
  go_enter Tryz.func121, Tryz.ntmps121
  go_wp2_with fail
  go_loop [1] (fun i => ∃ j : Nat, j ≤ s.size ∧ i = .int .i64 j ∧ Hid (j + spanL (fun c => runB (bInt c)) (s.data.toList.drop j) = k + spanL (fun c => runB (bInt c)) (s.data.toList.drop k))) (fun i => s.size - (intOf i).toNat)
  case atStart => exact ⟨k, hk, rfl, rfl⟩
  case round =>
    obtain ⟨j, hj, rfl, HJ⟩ := hrel
    by_cases hlt : j < s.size
    · by_cases hp : runB (bInt s[j]) = true
      · have HS := Lib.hid (span_yes (p := fun c => runB (bInt c)) s j hlt hp)
        have hc := fun w => inRun_any w (↑s[j].toNat)
        rw [show runB (↑s[j].toNat) = true from hp] at hc
        have HC := Lib.hid hc
        clear hc hp
        go_wp2_with (go_at_call 123; refine (HC.out _).mono ?_; rintro e w' ⟨rfl, rfl⟩)
        go_round
        case rel => exact ⟨j + 1, by omega, by go_num, by unfold Hid; have := HJ.out; rw [HS.out] at this; omega⟩
        case measure => simp [intOf]; omega
      · have HS := Lib.hid (span_no (p := fun c => runB (bInt c)) s j hlt (Bool.eq_false_iff.2 hp))
        have hc := fun w => inRun_any w (↑s[j].toNat)
        rw [show runB (↑s[j].toNat) = false from Bool.eq_false_iff.2 hp] at hc
        have HC := Lib.hid hc
        clear hc hp
        go_wp2_with (go_at_call 123; refine (HC.out _).mono ?_; rintro e w' ⟨rfl, rfl⟩)
        go_ret
        exact ⟨ret_int (by have := HJ.out; rw [HS.out] at this; omega), rfl⟩
    · have HS := Lib.hid (span_end (p := fun c => runB (bInt c)) s j (by omega))
      go_wp2_with fail
      go_ret
      exact ⟨ret_int (by have := HJ.out; rw [HS.out] at this; omega), rfl⟩

set_option maxHeartbeats 1000000 in
theorem skipLf_any (w : World) (s : ByteArray) (k : Nat) (hs : s.size ≤ 9223372036854775807) (hk : k ≤ s.size) :
    Calls Tryz.prog 121 #[.string s, .int .i64 k, .func (.func 122) #[] #[]] w fun e w' => e = .returned (.int .i64 ((k + spanL (fun c => noLf (bInt c)) (s.data.toList.drop k) : Nat))) ∧ w = w' := by
  go_enter Tryz.func121, Tryz.ntmps121
  go_wp2_with fail
  go_loop [1] (fun i => ∃ j : Nat, j ≤ s.size ∧ i = .int .i64 j ∧ Hid (j + spanL (fun c => noLf (bInt c)) (s.data.toList.drop j) = k + spanL (fun c => noLf (bInt c)) (s.data.toList.drop k))) (fun i => s.size - (intOf i).toNat)
  case atStart => exact ⟨k, hk, rfl, rfl⟩
  case round =>
    obtain ⟨j, hj, rfl, HJ⟩ := hrel
    by_cases hlt : j < s.size
    · by_cases hp : noLf (bInt s[j]) = true
      · have HS := Lib.hid (span_yes (p := fun c => noLf (bInt c)) s j hlt hp)
        have hc := fun w => noLf_any w (↑s[j].toNat)
        rw [show noLf (↑s[j].toNat) = true from hp] at hc
        have HC := Lib.hid hc
        clear hc hp
        go_wp2_with (go_at_call 122; refine (HC.out _).mono ?_; rintro e w' ⟨rfl, rfl⟩)
        go_round
        case rel => exact ⟨j + 1, by omega, by go_num, by unfold Hid; have := HJ.out; rw [HS.out] at this; omega⟩
        case measure => simp [intOf]; omega
      · have HS := Lib.hid (span_no (p := fun c => noLf (bInt c)) s j hlt (Bool.eq_false_iff.2 hp))
        have hc := fun w => noLf_any w (↑s[j].toNat)
        rw [show noLf (↑s[j].toNat) = false from Bool.eq_false_iff.2 hp] at hc
        have HC := Lib.hid hc
        clear hc hp
        go_wp2_with (go_at_call 122; refine (HC.out _).mono ?_; rintro e w' ⟨rfl, rfl⟩)
        go_ret
        exact ⟨ret_int (by have := HJ.out; rw [HS.out] at this; omega), rfl⟩
    · have HS := Lib.hid (span_end (p := fun c => noLf (bInt c)) s j (by omega))
      go_wp2_with fail
      go_ret
      exact ⟨ret_int (by have := HJ.out; rw [HS.out] at this; omega), rfl⟩


end
/- The walk of the closure in lexer.Lex that adds a token. -/
section
open Go Go.RowKit

def tokCells (t : Tok) : List Value := [.int .i64 t.kind, .string (bs t.text), .int .i64 t.pos]
def toksCells (l : List Tok) : List Value := l.flatMap tokCells
theorem infoTok : (Tryz.prog.info? 118).map (fun i => (i.zero, i.size, i.bytes)) = some (some (.agg #[.int .i64 0, .string ⟨#[]⟩, .int .i64 0]), 3, 32) := by kernel_rfl

theorem toksCells_snoc (l : List Tok) (t : Tok) : toksCells (l ++ [t]) = toksCells l ++ tokCells t := by simp [toksCells]
theorem toksCells_len (l : List Tok) : (toksCells l).length = l.length * 3 := by
  induction l with
  | nil => rfl
  | cons t l ih => simp only [toksCells, List.flatMap_cons, List.length_append, List.length_cons] at ih ⊢; rw [ih]; simp [tokCells]; omega

/-- the variables of lexer.Lex: the block of 'out', that of 'source', what 'out' owns -/
structure LexSt (w : World) (B bo bsrc : Nat) (s : ByteArray) (v : Value) (n : Nat) (xs : List Value) : Prop where
  lo : bo < w.heap.size
  ls : bsrc < w.heap.size
  bo_ : B ≤ bo
  bs_ : B ≤ bsrc
  out : w.cell? ⟨bo, 0, none⟩ = some v
  free : w.frozen? ⟨bo, 0, none⟩ = false
  src : w.cell? ⟨bsrc, 0, none⟩ = some (.string s)
  own : w.ownsRow B 118 3 v n xs
  no : v.ownBlock ≠ some bo
  ns : v.ownBlock ≠ some bsrc
  nb : bo ≠ bsrc

theorem LexSt.below {w w' : World} {B bo bsrc : Nat} {s : ByteArray} {v : Value} {n : Nat} {xs : List Value} (h : LexSt w B bo bsrc s v n xs) (hb : Below w.heap.size w w') : LexSt w' B bo bsrc s v n xs := by
  obtain ⟨h1, h2, h3, h4, h5, h6, h7, h8, h9, h10, h11⟩ := h
  refine ⟨Nat.lt_of_lt_of_le h1 hb.size, Nat.lt_of_lt_of_le h2 hb.size, h3, h4, ?_, ?_, ?_, ?_, h9, h10, h11⟩
  · rw [hb.cell (by exact h1)]; exact h5
  · rw [hb.frozen (by exact h1)]; exact h6
  · rw [hb.cell (by exact h2)]; exact h7
  · exact h8.kept (row := none) ⟨hb.os, hb.tape, hb.output, hb.size, fun k hk _ => hb.block k hk⟩ (by cases v.ownBlock <;> simp)
theorem LexSt.drew {w : World} {B bo bsrc : Nat} {s : ByteArray} {v : Value} {n : Nat} {xs : List Value} (h : LexSt w B bo bsrc s v n xs) : LexSt w.drew B bo bsrc s v n xs :=
  h.below ((Below.refl _ _).drew)

/-- what 'add' leaves -/
theorem LexSt.added {w w1 : World} {B bo bsrc : Nat} {s : ByteArray} {v : Value} {n : Nat} {xs ys : List Value} {g cap : Nat} {o : Obj} (h : LexSt w B bo bsrc s v n xs) (hB : B ≤ w.heap.size)
    (hown : w1.ownsRow B 118 3 (.slice (some ⟨g, 0, none⟩) (n + 1) cap) (n + 1) ys) (hgrow : (w.alloc o).drew.grownBy w1 v.ownBlock) (hat : v.ownBlock = some g ∨ g = w.heap.size + 1) :
    LexSt (w1.setCell ⟨bo, 0, none⟩ (.slice (some ⟨g, 0, none⟩) (n + 1) cap)) B bo bsrc s (.slice (some ⟨g, 0, none⟩) (n + 1) cap) (n + 1) ys ∧ Below B w (w1.setCell ⟨bo, 0, none⟩ (.slice (some ⟨g, 0, none⟩) (n + 1) cap)) := by
  obtain ⟨h1, h2, h3, h4, h5, h6, h7, h8, h9, h10, h11⟩ := h
  have hsz : w.heap.size + 1 ≤ w1.heap.size := by have := hgrow.size; simpa using this
  have hgo : g ≠ bo := by
    rintro rfl
    rcases hat with hat | hat
    · exact h9 hat
    · omega
  have hgs : g ≠ bsrc := by
    rintro rfl
    rcases hat with hat | hat
    · exact h10 hat
    · omega
  have ho : w1.cell? ⟨bo, 0, none⟩ = some v := (hgrow.cell_far ⟨bo, 0, none⟩ (by simp; omega) (Ne.symm h9)).trans ((World.cell?_alloc_lt w _ ⟨bo, 0, none⟩ h1).trans h5)
  have hf : w1.frozen? ⟨bo, 0, none⟩ = false := (hgrow.frozen_far ⟨bo, 0, none⟩ (by simp; omega) (Ne.symm h9)).trans ((World.frozen?_alloc_old w _ ⟨bo, 0, none⟩ (Nat.ne_of_lt h1)).trans h6)
  have hs : w1.cell? ⟨bsrc, 0, none⟩ = some (.string s) := (hgrow.cell_far ⟨bsrc, 0, none⟩ (by simp; omega) (Ne.symm h10)).trans ((World.cell?_alloc_lt w _ ⟨bsrc, 0, none⟩ h2).trans h7)
  refine ⟨⟨by simp; omega, by simp; omega, h3, h4, ?_, ?_, ?_, ?_, by simpa [Value.ownBlock] using hgo, by simpa [Value.ownBlock] using hgs, h11⟩, ?_⟩
  · exact World.cell?_setCell_same _ _ _ ho
  · rw [World.frozen?_setCell]; exact hf
  · rw [World.cell?_setCell_other _ _ _ _ (fun e => h11 (by injection e))]; exact hs
  · exact hown.kept (row := some bo) ⟨rfl, rfl, rfl, by simp [World.setCell], fun k _ hk => Below.heap_setCell _ _ _ _ (fun e => hk (by rw [e]))⟩ (.inr (by simpa [Value.ownBlock] using hgo))
  · refine Below.setCell ?_ (by exact h3) _
    exact ((((Below.refl B w).alloc hB o).drew).grown hgrow (by simp; omega) (fun k hk => (h8.lt k hk).1))

set_option maxHeartbeats 3200000 in
set_option maxRecDepth 100000 in
theorem add_any (w : World) (B bo bsrc : Nat) (s : ByteArray) (k : Int) (i j : Nat) (v : Value) (n : Nat) (xs : List Value)
    (hij : i ≤ j) (hj : j ≤ s.size) (hB : B ≤ w.heap.size) (hst : LexSt w B bo bsrc s v n xs) (hn : n < 20000) :
    Calls Tryz.prog 119 #[.int .i64 k, .int .i64 i, .int .i64 j, .pointer (some ⟨bo, 0, none⟩), .pointer (some ⟨bsrc, 0, none⟩)] w fun e w' =>
      e = .returned (.tuple #[]) ∧ Below B w w' ∧ ∃ g cap, LexSt w' B bo bsrc s (.slice (some ⟨g, 0, none⟩) (n + 1) cap) (n + 1) (xs ++ [.int .i64 k, .string (s.extract i j), .int .i64 i]) := by
  obtain ⟨i0, hi0, hz0, hz1, hz2⟩ := info_parts infoTok
  have h1 : (0 : Int) ≤ (i : Int) := by omega
  have h2 : (i : Int) ≤ (j : Int) := by omega
  have h3 : (j : Int) ≤ (s.size : Int) := by omega
  have HST := Lib.hid hst
  obtain ⟨hbo, hbs, _, _, ho, hof, hsrc, hown0, hne, _, _⟩ := hst
  have hown := Lib.hid hown0
  clear hown0
  go_enter Tryz.func119, Tryz.ntmps119
  go_wp2_with fail
  go_region_law ((refine step_append_lies _ (by rfl) _ _ _ (by rfl) B 118 i0 _ 3 32 Tryz.underlying109 hi0 hz0 hz1 hz2 rfl (by omega) v n xs (by rfl) ((hown.out.alloc _).drew) ⟨w.heap.size, 0, none⟩ 1 1 [.int .i64 k, .string (s.extract i j), .int .i64 i] (by rfl) (by rfl) (World.news_of_block (cs := #[.int .i64 k, .string (s.extract i j), .int .i64 i]) (t := 118) (fr := (0, 0)) (heap_alloc_new w _)) (by simp [Value.oneCell']) (by omega) (by unfold maxLen; omega) (by omega) (by simp; omega) (w.heap.size + 1) (by simp) ?_; intro gg cap w1 hown1 hgrow hat hlt; have HR := Lib.hid (HST.out.added hB hown1 hgrow hat); have hc1 : w1.cell? ⟨bo, 0, none⟩ = some v := (hgrow.cell_far ⟨bo, 0, none⟩ (by simp; omega) (Ne.symm hne)).trans ((World.cell?_alloc_lt w _ ⟨bo, 0, none⟩ hbo).trans ho); have hf1 : w1.frozen? ⟨bo, 0, none⟩ = false := (hgrow.frozen_far ⟨bo, 0, none⟩ (by simp; omega) (Ne.symm hne)).trans ((World.frozen?_alloc_old w _ ⟨bo, 0, none⟩ (Nat.ne_of_lt hbo)).trans hof); clear hgrow hown1 hat))
  all_goals
    go_end0
    exact ⟨rfl, HR.out.2, _, _, HR.out.1⟩

end
end Go.Proofs.YtmplpbdldcokjaaGreatDoor
