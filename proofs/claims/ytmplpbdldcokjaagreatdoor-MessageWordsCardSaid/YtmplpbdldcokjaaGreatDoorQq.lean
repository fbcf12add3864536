/- The walk of awake: the chapter's examples. -/
import Derived.Test.YtmplpbdldcokjaaGreatDoorQp
namespace Go.Proofs.YtmplpbdldcokjaaGreatDoor
open Go Go.RowKit Go.Shelf
set_option linter.unusedSimpArgs false
set_option linter.unusedVariables false

def exM : Ms := ⟨1, [109, 49], .mk [120] [], 10, 5, [], [], [97, 32, 98]⟩
def exS : List UInt8 := [115, 116, 97, 114, 116, 32, 109, 49, 32, 120, 32, 49, 48, 32, 53, 32, 97, 37, 50, 48, 98]
theorem itoa10 : Lib.itoa 10 = [49, 48] := by
  rw [itoa_nn (by decide)]
  show Lib.decDigits 10 = _
  rw [Lib.decDigits, dif_neg (by decide), Lib.decDigits, dif_pos (by decide)]
  rfl
theorem itoa5 : Lib.itoa 5 = [53] := by
  rw [itoa_nn (by decide)]
  show Lib.decDigits 5 = _
  rw [Lib.decDigits, dif_pos (by decide)]
  rfl
theorem exEnc : encO exM = (exS, 0) := by
  have h1 : checkF exM = 0 := by decide +kernel
  unfold encO
  rw [if_pos h1]
  have h2 : encF exM = exS := by
    have : encF exM = Lib.join [wStart, [109, 49], [120], Lib.itoa 10, Lib.itoa 5, escT [97, 32, 98]] [32] := rfl
    rw [this, itoa10, itoa5]
    decide +kernel
  rw [h2]
def exP : Ms := ⟨2, [109, 49], .mk [] [], 0, 0, [.mk [109, 97, 114, 107] [.mk [49] []]], [.mk [97] [], .mk [102] [.mk [98] []]], []⟩
def exL : List UInt8 := [112, 108, 97, 121, 32, 109, 49, 32, 109, 97, 114, 107, 40, 49, 41, 32, 97, 44, 37, 50, 48, 102, 40, 98, 41]
theorem exDec : decP exL = some exP := by
  have h1 : checkF exP = 0 := by decide +kernel
  have h2 : encF exP = exL := by decide +kernel
  rw [← h2]
  exact decP_enc h1
def exR : List UInt8 := [114, 101, 97, 100, 121, 32]
theorem exNone : decP exR = none := by
  have h : (decP exR).isNone = true := by decide +kernel
  simpa using h
theorem exUn : unO [37, 52, 49] = ([], 1) := by
  have h : (unT [37, 52, 49]).isNone = true := by decide +kernel
  exact unO_none (by simpa using h)

theorem msin_none (w : World) : MsIn w (fun _ => False) none [] none [] := ⟨by simp, by simp, fun _ h => h.elim, slv_none _ _, fun t ht => by simp at ht, slv_none _ _, fun t ht => by simp at ht⟩
set_option maxHeartbeats 8000000 in
set_option maxRecDepth 100000 in
theorem awake_any (w : World) (hm : Mw w) : Calls Tryz.prog 10 #[] w (YesP w) := by
  have HM := Lib.hid hm
  have HB1 := Lib.hid (one_box w (.cells #[.int .i64 1, .string ⟨#[109, 49]⟩, .string ⟨#[120]⟩, .slice none 0 0, .int .i64 10, .int .i64 5, .slice none 0 0, .slice none 0 0, .string ⟨#[97, 32, 98]⟩] 27)).1
  have CE : Hid (Calls Tryz.prog 12 #[.agg #[.int .i64 1, .string ⟨#[109, 49]⟩, .string ⟨#[120]⟩, .slice none 0 0, .int .i64 10, .int .i64 5, .slice none 0 0, .slice none 0 0, .string ⟨#[97, 32, 98]⟩]] (w.alloc (.cells #[.int .i64 1, .string ⟨#[109, 49]⟩, .string ⟨#[120]⟩, .slice none 0 0, .int .i64 10, .int .i64 5, .slice none 0 0, .slice none 0 0, .string ⟨#[97, 32, 98]⟩] 27)) (OutB (w.alloc (.cells #[.int .i64 1, .string ⟨#[109, 49]⟩, .string ⟨#[120]⟩, .slice none 0 0, .int .i64 10, .int .i64 5, .slice none 0 0, .slice none 0 0, .string ⟨#[97, 32, 98]⟩] 27)) (.tuple #[.string ⟨#[115, 116, 97, 114, 116, 32, 109, 49, 32, 120, 32, 49, 48, 32, 53, 32, 97, 37, 50, 48, 98]⟩, .int .i64 0]))) := by
    have h := encode_any (w.alloc (.cells #[.int .i64 1, .string ⟨#[109, 49]⟩, .string ⟨#[120]⟩, .slice none 0 0, .int .i64 10, .int .i64 5, .slice none 0 0, .slice none 0 0, .string ⟨#[97, 32, 98]⟩] 27)) (fun _ => False) 1 [109, 49] [120] none 0 [] 10 5 none 0 [] none 0 [] [97, 32, 98] (by simp) (by simp) (msin_none _) (by simp) (by simp) (HM.out.below HB1.out).tb (by simp)
    unfold encV at h
    rw [show (⟨1, [109, 49], .mk [120] [], 10, 5, [], [], [97, 32, 98]⟩ : Ms) = exM from rfl, exEnc] at h
    exact h
  have CD1 := Lib.hid (fun (y : World) (hy : Below w.heap.size w y) => decode_any y exL (by decide) (HM.out.below hy))
  rw [exDec] at CD1
  rw [show bs exL = ⟨#[112, 108, 97, 121, 32, 109, 49, 32, 109, 97, 114, 107, 40, 49, 41, 32, 97, 44, 37, 50, 48, 102, 40, 98, 41]⟩ from rfl] at CD1
  have CD2 := Lib.hid (fun (y : World) (hy : Below w.heap.size w y) => decode_any y exR (by decide) (HM.out.below hy))
  rw [exNone] at CD2
  rw [show bs exR = ⟨#[114, 101, 97, 100, 121, 32]⟩ from rfl] at CD2
  have CU : Hid (∀ y : World, Calls Tryz.prog 15 #[.string ⟨#[37, 52, 49]⟩] y (OutB y (.tuple #[.string ⟨#[]⟩, .int .i64 1]))) := fun y => by
    have h := unescape_any y ⟨#[37, 52, 49]⟩ (by decide)
    unfold unV at h
    rw [show (⟨#[37, 52, 49]⟩ : ByteArray).data.toList = [37, 52, 49] from rfl, exUn] at h
    exact h
  clear hm
  go_enter Tryz.func10, Tryz.ntmps10
  go_wp2_with fail
  refine CE.out.mono ?_
  rintro e w1 ⟨rfl, hb⟩
  have HB2 := Lib.hid (HB1.out.trans (hb.mono HB1.out.size))
  clear hb CE
  go_wp2_with fail
  refine (CD1.out _ HB2.out).mono ?_
  rintro e w2 ⟨hb, C, hC, rfl⟩
  obtain ⟨A1, c1, A2, c2, rfl, _, _, _⟩ := hC
  have HB3 := Lib.hid (HB2.out.trans (hb.mono HB2.out.size))
  have HP := Lib.hid (one_box w2 (.cells #[.int .i64 exP.kind, .string (bs exP.mat), .string (bs exP.role.name), .slice none 0 0, .int .i64 exP.sc, .int .i64 exP.pc, .slice A1 1 c1, .slice A2 2 c2, .string (bs exP.text)] 27))
  clear hb CD1
  rw [show exP.moves.length = 1 from rfl, show exP.percepts.length = 2 from rfl]
  generalize exP.kind = k at *
  generalize bs exP.mat = s1 at *
  generalize bs exP.role.name = s2 at *
  generalize exP.sc = k1 at *
  generalize exP.pc = k2 at *
  generalize bs exP.text = s3 at *
  have HB4 := Lib.hid (HB3.out.trans (HP.out.1.mono HB3.out.size))
  go_wp2_with fail
  generalize w2.alloc (.cells #[.int .i64 k, .string s1, .string s2, .slice none 0 0, .int .i64 k1, .int .i64 k2, .slice A1 1 c1, .slice A2 2 c2, .string s3] 27) = w3 at *
  refine (CD2.out _ HB4.out).mono ?_
  rintro e w4 ⟨hb, rfl⟩
  have HP4 := Lib.hid ((hb.block _ (heap_lt HP.out.2)).trans HP.out.2)
  have HB5 := Lib.hid (HB4.out.trans (hb.mono HB4.out.size))
  have HZ := Lib.hid (one_box w4 (.cells zMsg 27))
  have HP5 := Lib.hid ((HZ.out.1.block _ (heap_lt HP4.out)).trans HP4.out)
  have HB6 := Lib.hid (HB5.out.trans (HZ.out.1.mono HB5.out.size))
  clear hb CD2
  go_wp2_with fail
  generalize w4.alloc (.cells zMsg 27) = w5 at *
  refine (CU.out _).mono ?_
  rintro e w6 ⟨rfl, hb⟩
  have HP6 := Lib.hid ((hb.block _ (heap_lt HP5.out)).trans HP5.out)
  have HB7 := Lib.hid (HB6.out.trans (hb.mono HB6.out.size))
  clear hb
  have m6 := cell_blk HP6.out 6
  have m7 := cell_blk HP6.out 7
  go_wp2_with (go_at_call 18; refine (mreply_any _ _).mono ?_; rintro e w7 ⟨rfl, rfl⟩)
  go_ret
  exact ⟨rfl, HB7.out⟩
end Go.Proofs.YtmplpbdldcokjaaGreatDoor
