/- The walk of law04.awake, and of the laws LexerLexes, LexerWords, LexerJoins, LexerPositions. -/
import Derived.Test.YtmpdnmnimdkfnaaDoorTp
import Derived.KernelRfl
namespace Go.Proofs.YtmpdnmnimdkfnaaDoor
open Go Go.RowKit Go.Shelf
set_option linter.unusedSimpArgs false

def YesP (w : World) (e : Ending) (w' : World) : Prop := e = .returned (.bool true) ∧ Below w.heap.size w w'
def exToks : List Tok := [⟨1, [112], 0⟩, ⟨4, [40], 1⟩, ⟨3, [88], 2⟩, ⟨4, [44], 3⟩, ⟨2, [49], 4⟩, ⟨4, [41], 5⟩, ⟨4, [46], 6⟩, ⟨0, [], 11⟩]
theorem exLex : lexF [112, 40, 88, 44, 49, 41, 46, 32, 35, 32, 99] = .ok exToks := by kernel_rfl
theorem exLex2 : lexF [97, 32, 48, 48, 55, 32, 59] = .err 2 4 := by kernel_rfl
theorem exJoin : joinF exToks = [112, 32, 40, 32, 88, 32, 44, 32, 49, 32, 41, 32, 46] := by kernel_rfl
theorem exPos : posF [97, 98, 10, 99] 3 = (2, 1) := by kernel_rfl
def Lex8 (w : World) (e : Ending) (w' : World) : Prop :=
  ∃ g cap, e = .returned (.tuple #[.slice (some ⟨g, 0, none⟩) 8 cap, .int .i64 0, .int .i64 0]) ∧ Below w.heap.size w w' ∧ TkS w' (some ⟨g, 0, none⟩) exToks
theorem lex8_any (w : World) (hw : Wd w) : Calls Tryd.prog 12 #[.string ⟨#[112, 40, 88, 44, 49, 41, 46, 32, 35, 32, 99]⟩] w (Lex8 w) := by
  have h := lex_any w ⟨#[112, 40, 88, 44, 49, 41, 46, 32, 35, 32, 99]⟩ (by decide) hw
  rw [show lexF (⟨#[112, 40, 88, 44, 49, 41, 46, 32, 35, 32, 99]⟩ : ByteArray).data.toList = .ok exToks from exLex] at h
  exact h.mono fun e w' ⟨hb, g, cap, he, hown⟩ => ⟨g, cap, he, hb, TkS.of_own hown rfl⟩
def LexE (w : World) (e : Ending) (w' : World) : Prop := e = .returned (.tuple #[.slice none 0 0, .int .i64 2, .int .i64 4]) ∧ Below w.heap.size w w'
theorem lexE_any (w : World) (hw : Wd w) : Calls Tryd.prog 12 #[.string ⟨#[97, 32, 48, 48, 55, 32, 59]⟩] w (LexE w) := by
  have h := lex_any w ⟨#[97, 32, 48, 48, 55, 32, 59]⟩ (by decide) hw
  rw [show lexF (⟨#[97, 32, 48, 48, 55, 32, 59]⟩ : ByteArray).data.toList = .err 2 4 from exLex2] at h
  exact h.mono fun e w' ⟨hb, he⟩ => ⟨he, hb⟩
theorem join8_any (w : World) (g cap : Nat) (h : TkS w (some ⟨g, 0, none⟩) exToks) : Calls Tryd.prog 16 #[.slice (some ⟨g, 0, none⟩) 8 cap] w (OutB w (.string ⟨#[112, 32, 40, 32, 88, 32, 44, 32, 49, 32, 41, 32, 46]⟩)) := by
  have := join_any w (some ⟨g, 0, none⟩) cap exToks (by decide) h.j (by rw [exJoin]; decide)
  rw [exJoin] at this
  exact this

set_option maxHeartbeats 4000000 in
set_option maxRecDepth 100000 in
theorem awake_any (w : World) (hw : Wd w) : Calls Tryd.prog 11 #[] w (YesP w) := by
  have HW := Lib.hid hw
  clear hw
  go_enter Tryd.func11, Tryd.ntmps11
  go_wp2_with fail
  refine (lex8_any w HW.out).mono ?_
  rintro e w1 ⟨g, cap, rfl, hb, htk⟩
  have HB1 := Lib.hid hb
  have HW1 := Lib.hid (HW.out.below hb HW.out.1)
  have HT1 := Lib.hid htk
  clear hb htk
  go_wp2_with fail
  refine (lexE_any w1 HW1.out).mono ?_
  rintro e w2 ⟨rfl, hb⟩
  have HB2 := Lib.hid (HB1.out.trans (hb.mono HB1.out.size))
  have HW2 := Lib.hid (HW1.out.below hb HW1.out.1)
  have HT2 := Lib.hid (HT1.out.keep hb)
  clear hb HT1 HW1
  go_wp2_with fail
  refine (position_any w2 ⟨#[97, 98, 10, 99]⟩ 3 (by decide)).mono ?_
  rw [show posF (⟨#[97, 98, 10, 99]⟩ : ByteArray).data.toList 3 = (2, 1) from exPos]
  rintro e w3 ⟨rfl, rfl⟩
  obtain ⟨b, o, hA, hbl, hall⟩ := HT2.out (by decide)
  simp only [Option.some.injEq, Addr.mk.injEq, and_true] at hA
  obtain ⟨rfl, rfl⟩ := hA
  obtain ⟨p0, p1, p2⟩ := hall 2 ⟨3, [88], 2⟩ rfl
  obtain ⟨q0, q1, q2⟩ := hall 7 ⟨0, [], 11⟩ rfl
  simp only [Nat.zero_add, Nat.reduceMul, Nat.reduceAdd] at p0 p1 p2 q0 q1 q2
  have p1' : w2.cell? ⟨g, 7, none⟩ = some (.string ⟨#[88]⟩) := p1
  have q1' : w2.cell? ⟨g, 22, none⟩ = some (.string ⟨#[]⟩) := q1
  clear hall p1 q1
  go_wp2_with fail
  refine (join8_any w2 g cap HT2.out).mono ?_
  rintro e w4 ⟨rfl, hb⟩
  have HB4 := Lib.hid (HB2.out.trans (hb.mono HB2.out.size))
  have HW4 := Lib.hid (HW2.out.below hb HW2.out.1)
  clear hb
  go_wp2_with fail
  refine (word_any w4 ⟨#[97, 110, 100]⟩ HW4.out).mono ?_
  rw [show wordF (⟨#[97, 110, 100]⟩ : ByteArray).data.toList = true from rfl]
  rintro e w5 ⟨rfl, rfl⟩
  go_wp2_with fail
  refine (word_any w4 ⟨#[111, 114]⟩ HW4.out).mono ?_
  rw [show wordF (⟨#[111, 114]⟩ : ByteArray).data.toList = false from rfl]
  rintro e w5 ⟨rfl, rfl⟩
  go_wp2_with fail
  go_ret
  exact ⟨rfl, HB4.out⟩
end Go.Proofs.YtmpdnmnimdkfnaaDoor
