/- The walks of the laws LexerLexes, LexerWords, LexerPositions. -/
import Derived.Test.YtmpdnmnimdkfnaaDoorTa
import Derived.Test.YtmpdnmnimdkfnaaDoorTl
namespace Go.Proofs.YtmpdnmnimdkfnaaDoor
open Go Go.RowKit Go.Shelf
set_option linter.unusedSimpArgs false

def LexO (w : World) (l : List Tok) (e : Ending) (w' : World) : Prop :=
  ∃ g cap, e = .returned (.tuple #[.slice (some ⟨g, 0, none⟩) l.length cap, .int .i64 0, .int .i64 0]) ∧ Below w.heap.size w w' ∧ TkS w' (some ⟨g, 0, none⟩) l
def LexN (w : World) (p x : Int) (e : Ending) (w' : World) : Prop := e = .returned (.tuple #[.slice none 0 0, .int .i64 p, .int .i64 x]) ∧ Below w.heap.size w w'
theorem lexO_any {s : ByteArray} {l : List Tok} (hs : s.size ≤ 9223372036854775807) (h : lexF s.data.toList = .ok l) (w : World) (hw : Wd w) : Calls Tryd.prog 12 #[.string s] w (LexO w l) := by
  have h2 := lex_any w s hs hw
  rw [h] at h2
  exact h2.mono fun e w' ⟨hb, g, cap, he, hown⟩ => ⟨g, cap, he, hb, TkS.of_own hown rfl⟩
theorem rlexO_any {s : ByteArray} {l : List Tok} (hs : s.size ≤ 9223372036854775807) (h : lexF s.data.toList = .ok l) (w : World) : Calls Tryd.prog 13 #[.string s] w (LexO w l) := by
  have h2 := rLex_any w s hs
  rw [h] at h2
  exact h2.mono fun e w' ⟨hb, g, cap, he, hown⟩ => ⟨g, cap, he, hb, TkS.of_own hown rfl⟩
theorem lexN_any {s : ByteArray} {p : Nat} {x : Int} (hs : s.size ≤ 9223372036854775807) (h : lexF s.data.toList = .err p x) (w : World) (hw : Wd w) : Calls Tryd.prog 12 #[.string s] w (LexN w p x) := by
  have h2 := lex_any w s hs hw
  rw [h] at h2
  exact h2.mono fun e w' ⟨hb, he⟩ => ⟨he, hb⟩
theorem rlexN_any {s : ByteArray} {p : Nat} {x : Int} (hs : s.size ≤ 9223372036854775807) (h : lexF s.data.toList = .err p x) (w : World) : Calls Tryd.prog 13 #[.string s] w (LexN w p x) := by
  have h2 := rLex_any w s hs
  rw [h] at h2
  exact h2.mono fun e w' ⟨hb, he⟩ => ⟨he, hb⟩
theorem Wd.b {w w' : World} (h : Wd w) (hb : Below w.heap.size w w') : Wd w' := h.below hb h.1
theorem same_nil (w : World) : Calls Tryd.prog 14 #[.slice none 0 0, .slice none 0 0] w (OutB w (.bool true)) := same_any w none none 0 0 [] (by decide) (fun h => by simp at h) (fun h => by simp at h)

set_option maxHeartbeats 4000000 in
set_option maxRecDepth 100000 in
theorem law_lexes (w : World) (s : ByteArray) (hs : s.size ≤ 9223372036854775807) (hw : Wd w) : Calls Tryd.prog 3 #[.string s] w (YesP w) := by
  have HW := Lib.hid hw
  clear hw
  by_cases hl : (2000 : Int) < (s.size : Int)
  focus
    have t1 : decide ((2000 : Int) < (s.size : Int)) = true := by simpa using hl
    go_enter Tryd.func3, Tryd.ntmps3
    go_wp2_with fail
    refine (awake_any w HW.out).mono ?_
    rintro e w1 ⟨rfl, hb⟩
    go_wp2_with fail
    go_ret
    exact ⟨rfl, hb⟩
  have t1 : decide ((2000 : Int) < (s.size : Int)) = false := by simpa using hl
  cases hx : lexF s.data.toList with
  | err p x =>
    have P := Lib.hid (lexN_any hs hx)
    have R := Lib.hid (rlexN_any hs hx)
    clear hx
    go_enter Tryd.func3, Tryd.ntmps3
    go_wp2_with fail
    refine (P.out w HW.out).mono ?_
    rintro e w1 ⟨rfl, hb⟩
    have HB1 := Lib.hid hb
    have HW1 := Lib.hid (HW.out.b hb)
    clear hb
    go_wp2_with fail
    refine (R.out w1).mono ?_
    rintro e w2 ⟨rfl, hb⟩
    have HB2 := Lib.hid (HB1.out.trans (hb.mono HB1.out.size))
    have HW2 := Lib.hid (HW1.out.b hb)
    clear hb
    go_wp2_with fail
    refine (same_nil w2).mono ?_
    rintro e w3 ⟨rfl, hb⟩
    have HB3 := Lib.hid (HB2.out.trans (hb.mono HB2.out.size))
    have HW3 := Lib.hid (HW2.out.b hb)
    clear hb
    go_wp2_with fail
    refine (awake_any w3 HW3.out).mono ?_
    rintro e w4 ⟨rfl, hb⟩
    have HB4 := Lib.hid (HB3.out.trans (hb.mono HB3.out.size))
    clear hb
    go_wp2_with fail
    go_ret
    exact ⟨rfl, HB4.out⟩
  | ok l =>
    have hlen := (lexF_wf hx).choose_spec.2.2.2
    have hsz : s.data.toList.length = s.size := by simp
    have hln : (l.length : Int) ≤ 1000000000 := by omega
    have P := Lib.hid (lexO_any hs hx)
    have R := Lib.hid (rlexO_any hs hx)
    clear hx hlen hsz
    go_enter Tryd.func3, Tryd.ntmps3
    go_wp2_with fail
    refine (P.out w HW.out).mono ?_
    rintro e w1 ⟨g, cap, rfl, hb, htk⟩
    have HB1 := Lib.hid hb
    have HW1 := Lib.hid (HW.out.b hb)
    have HT1 := Lib.hid htk
    clear hb htk
    go_wp2_with fail
    refine (R.out w1).mono ?_
    rintro e w2 ⟨g2, cap2, rfl, hb, htk⟩
    have HB2 := Lib.hid (HB1.out.trans (hb.mono HB1.out.size))
    have HW2 := Lib.hid (HW1.out.b hb)
    have HT2 := Lib.hid (HT1.out.keep hb)
    have HU2 := Lib.hid htk
    clear hb htk
    go_wp2_with fail
    (with_reducible refine (same_any w2 _ _ _ _ l hln HT2.out HU2.out).mono ?_)
    rintro e w3 ⟨rfl, hb⟩
    have HB3 := Lib.hid (HB2.out.trans (hb.mono HB2.out.size))
    have HW3 := Lib.hid (HW2.out.b hb)
    clear hb
    go_wp2_with fail
    refine (awake_any w3 HW3.out).mono ?_
    rintro e w4 ⟨rfl, hb⟩
    have HB4 := Lib.hid (HB3.out.trans (hb.mono HB3.out.size))
    clear hb
    go_wp2_with fail
    go_ret
    exact ⟨rfl, HB4.out⟩

set_option maxHeartbeats 4000000 in
set_option maxRecDepth 100000 in
theorem law_words (w : World) (s : ByteArray) (_hs : s.size ≤ 9223372036854775807) (hw : Wd w) : Calls Tryd.prog 4 #[.string s] w (YesP w) := by
  have HW := Lib.hid hw
  have HWD := Lib.hid (word_any w s hw)
  clear hw
  have hwf : wordF s.data.toList = ((s.toList == [105, 102]) || (s.toList == [97, 110, 100]) || (s.toList == [110, 111, 116])) := by
    rw [ByteArray.toList_eq]
    rfl
  rw [hwf] at HWD
  by_cases h0 : s.toList = [105, 102]
  focus
    have b0 : (s.toList == [105, 102]) = true := by rw [h0]; rfl
    simp only [b0, Bool.true_or] at HWD
    clear hwf
    go_enter Tryd.func4, Tryd.ntmps4
    go_wp2_with fail
    refine HWD.out.mono ?_
    rintro e w1 ⟨rfl, rfl⟩
    go_wp2_with fail
    refine (awake_any w HW.out).mono ?_
    rintro e w1 ⟨rfl, hb⟩
    go_wp2_with fail
    go_ret
    exact ⟨rfl, hb⟩
  have b0 : (s.toList == [105, 102]) = false := beq_eq_false_iff_ne.2 h0
  by_cases h1 : s.toList = [97, 110, 100]
  focus
    have b1 : (s.toList == [97, 110, 100]) = true := by rw [h1]; rfl
    simp only [b1, b0, Bool.or_true, Bool.true_or, Bool.or_false, Bool.false_or] at HWD
    clear hwf
    go_enter Tryd.func4, Tryd.ntmps4
    go_wp2_with fail
    refine HWD.out.mono ?_
    rintro e w1 ⟨rfl, rfl⟩
    go_wp2_with fail
    refine (awake_any w HW.out).mono ?_
    rintro e w1 ⟨rfl, hb⟩
    go_wp2_with fail
    go_ret
    exact ⟨rfl, hb⟩
  have b1 : (s.toList == [97, 110, 100]) = false := beq_eq_false_iff_ne.2 h1
  by_cases h2 : s.toList = [110, 111, 116]
  focus
    have b2 : (s.toList == [110, 111, 116]) = true := by rw [h2]; rfl
    simp only [b2, b0, b1, Bool.or_true, Bool.true_or, Bool.or_false, Bool.false_or] at HWD
    clear hwf
    go_enter Tryd.func4, Tryd.ntmps4
    go_wp2_with fail
    refine HWD.out.mono ?_
    rintro e w1 ⟨rfl, rfl⟩
    go_wp2_with fail
    refine (awake_any w HW.out).mono ?_
    rintro e w1 ⟨rfl, hb⟩
    go_wp2_with fail
    go_ret
    exact ⟨rfl, hb⟩
  have b2 : (s.toList == [110, 111, 116]) = false := beq_eq_false_iff_ne.2 h2
  focus
    simp only [b0, b1, b2, Bool.or_false] at HWD
    clear hwf
    go_enter Tryd.func4, Tryd.ntmps4
    go_wp2_with fail
    refine HWD.out.mono ?_
    rintro e w1 ⟨rfl, rfl⟩
    go_wp2_with fail
    refine (awake_any w HW.out).mono ?_
    rintro e w1 ⟨rfl, hb⟩
    go_wp2_with fail
    go_ret
    exact ⟨rfl, hb⟩

set_option maxHeartbeats 4000000 in
set_option maxRecDepth 100000 in
theorem law_positions (w : World) (s : ByteArray) (n : Int) (hs : s.size ≤ 9223372036854775807) (hw : Wd w) : Calls Tryd.prog 6 #[.string s, .int .i64 n] w (YesP w) := by
  have HW := Lib.hid hw
  clear hw
  by_cases hl : (2000 : Int) < (s.size : Int)
  focus
    have t1 : decide ((2000 : Int) < (s.size : Int)) = true := by simpa using hl
    go_enter Tryd.func6, Tryd.ntmps6
    go_wp2_with fail
    refine (awake_any w HW.out).mono ?_
    rintro e w1 ⟨rfl, hb⟩
    go_wp2_with fail
    go_ret
    exact ⟨rfl, hb⟩
  have t1 : decide ((2000 : Int) < (s.size : Int)) = false := by simpa using hl
  have P := Lib.hid (position_any w s n (by omega))
  have R := Lib.hid (rposition_any w s n (by omega))
  generalize posF s.data.toList n = p at *
  obtain ⟨a, b⟩ := p
  go_enter Tryd.func6, Tryd.ntmps6
  go_wp2_with fail
  refine P.out.mono ?_
  rintro e w1 ⟨rfl, rfl⟩
  go_wp2_with fail
  refine R.out.mono ?_
  rintro e w1 ⟨rfl, rfl⟩
  go_wp2_with fail
  refine (awake_any w HW.out).mono ?_
  rintro e w1 ⟨rfl, hb⟩
  go_wp2_with fail
  go_ret
  exact ⟨rfl, hb⟩
end Go.Proofs.YtmpdnmnimdkfnaaDoor
