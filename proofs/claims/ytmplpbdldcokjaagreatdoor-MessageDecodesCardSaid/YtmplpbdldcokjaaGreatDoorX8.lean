/- Merged texts: The walk of awake: the chapter's examples. The laws MessageOne and MessageWords. -/
import Derived.Test.YtmplpbdldcokjaaGreatDoorX7
namespace Go.Proofs.YtmplpbdldcokjaaGreatDoor
/- The walk of awake: the chapter's examples. -/
section
open Go Go.RowKit Go.Shelf
set_option linter.unusedSimpArgs false
set_option linter.unusedVariables false

def exM : Ms := ⟨1, [109, 49], .mk [120] [], 10, 5, [], [], [97, 32, 98]⟩
def exS : List UInt8 := [115, 116, 97, 114, 116, 32, 109, 49, 32, 120, 32, 49, 48, 32, 53, 32, 97, 37, 50, 48, 98]
theorem itoa10 : Lib.itoa 10 = [49, 48] := by
  rw [itoa_nn (by decide)]
  show Lib.decDigits 10 = _
  rw [Lib.decDigits, dif_neg (by decide), Lib.decDigits, dif_pos (by decide)]
  rfl
theorem itoa5 : Lib.itoa 5 = [53] := by
  rw [itoa_nn (by decide)]
  show Lib.decDigits 5 = _
  rw [Lib.decDigits, dif_pos (by decide)]
  rfl
theorem exEnc : encO exM = (exS, 0) := by
  have h1 : checkF exM = 0 := by decide +kernel
  unfold encO
  rw [if_pos h1]
  have h2 : encF exM = exS := by
    have : encF exM = Lib.join [wStart, [109, 49], [120], Lib.itoa 10, Lib.itoa 5, escT [97, 32, 98]] [32] := rfl
    rw [this, itoa10, itoa5]
    decide +kernel
  rw [h2]
def exP : Ms := ⟨2, [109, 49], .mk [] [], 0, 0, [.mk [109, 97, 114, 107] [.mk [49] []]], [.mk [97] [], .mk [102] [.mk [98] []]], []⟩
def exL : List UInt8 := [112, 108, 97, 121, 32, 109, 49, 32, 109, 97, 114, 107, 40, 49, 41, 32, 97, 44, 37, 50, 48, 102, 40, 98, 41]
theorem exDec : decP exL = some exP := by
  have h1 : checkF exP = 0 := by decide +kernel
  have h2 : encF exP = exL := by decide +kernel
  rw [← h2]
  exact decP_enc h1
def exR : List UInt8 := [114, 101, 97, 100, 121, 32]
theorem exNone : decP exR = none := by
  have h : (decP exR).isNone = true := by decide +kernel
  simpa using h
theorem exUn : unO [37, 52, 49] = ([], 1) := by
  have h : (unT [37, 52, 49]).isNone = true := by decide +kernel
  exact unO_none (by simpa using h)

theorem msin_none (w : World) : MsIn w (fun _ => False) none [] none [] := ⟨by simp, by simp, fun _ h => h.elim, slv_none _ _, fun t ht => by simp at ht, slv_none _ _, fun t ht => by simp at ht⟩
set_option maxHeartbeats 8000000 in
set_option maxRecDepth 100000 in
theorem awake_any (w : World) (hm : Mw w) : Calls Tryz.prog 10 #[] w (YesP w) := by
  have HM := Lib.hid hm
  have HB1 := Lib.hid (one_box w (.cells #[.int .i64 1, .string ⟨#[109, 49]⟩, .string ⟨#[120]⟩, .slice none 0 0, .int .i64 10, .int .i64 5, .slice none 0 0, .slice none 0 0, .string ⟨#[97, 32, 98]⟩] 27)).1
  have CE : Hid (Calls Tryz.prog 12 #[.agg #[.int .i64 1, .string ⟨#[109, 49]⟩, .string ⟨#[120]⟩, .slice none 0 0, .int .i64 10, .int .i64 5, .slice none 0 0, .slice none 0 0, .string ⟨#[97, 32, 98]⟩]] (w.alloc (.cells #[.int .i64 1, .string ⟨#[109, 49]⟩, .string ⟨#[120]⟩, .slice none 0 0, .int .i64 10, .int .i64 5, .slice none 0 0, .slice none 0 0, .string ⟨#[97, 32, 98]⟩] 27)) (OutB (w.alloc (.cells #[.int .i64 1, .string ⟨#[109, 49]⟩, .string ⟨#[120]⟩, .slice none 0 0, .int .i64 10, .int .i64 5, .slice none 0 0, .slice none 0 0, .string ⟨#[97, 32, 98]⟩] 27)) (.tuple #[.string ⟨#[115, 116, 97, 114, 116, 32, 109, 49, 32, 120, 32, 49, 48, 32, 53, 32, 97, 37, 50, 48, 98]⟩, .int .i64 0]))) := by
    have h := encode_any (w.alloc (.cells #[.int .i64 1, .string ⟨#[109, 49]⟩, .string ⟨#[120]⟩, .slice none 0 0, .int .i64 10, .int .i64 5, .slice none 0 0, .slice none 0 0, .string ⟨#[97, 32, 98]⟩] 27)) (fun _ => False) 1 [109, 49] [120] none 0 [] 10 5 none 0 [] none 0 [] [97, 32, 98] (by simp) (by simp) (msin_none _) (by simp) (by simp) (HM.out.below HB1.out).tb (by simp)
    unfold encV at h
    rw [show (⟨1, [109, 49], .mk [120] [], 10, 5, [], [], [97, 32, 98]⟩ : Ms) = exM from rfl, exEnc] at h
    exact h
  have CD1 := Lib.hid (fun (y : World) (hy : Below w.heap.size w y) => decode_any y exL (by decide) (HM.out.below hy))
  rw [exDec] at CD1
  rw [show bs exL = ⟨#[112, 108, 97, 121, 32, 109, 49, 32, 109, 97, 114, 107, 40, 49, 41, 32, 97, 44, 37, 50, 48, 102, 40, 98, 41]⟩ from rfl] at CD1
  have CD2 := Lib.hid (fun (y : World) (hy : Below w.heap.size w y) => decode_any y exR (by decide) (HM.out.below hy))
  rw [exNone] at CD2
  rw [show bs exR = ⟨#[114, 101, 97, 100, 121, 32]⟩ from rfl] at CD2
  have CU : Hid (∀ y : World, Calls Tryz.prog 15 #[.string ⟨#[37, 52, 49]⟩] y (OutB y (.tuple #[.string ⟨#[]⟩, .int .i64 1]))) := fun y => by
    have h := unescape_any y ⟨#[37, 52, 49]⟩ (by decide)
    unfold unV at h
    rw [show (⟨#[37, 52, 49]⟩ : ByteArray).data.toList = [37, 52, 49] from rfl, exUn] at h
    exact h
  clear hm
  go_enter Tryz.func10, Tryz.ntmps10
  go_wp2_with fail
  refine CE.out.mono ?_
  rintro e w1 ⟨rfl, hb⟩
  have HB2 := Lib.hid (HB1.out.trans (hb.mono HB1.out.size))
  clear hb CE
  go_wp2_with fail
  refine (CD1.out _ HB2.out).mono ?_
  rintro e w2 ⟨hb, C, hC, rfl⟩
  obtain ⟨A1, c1, A2, c2, rfl, _, _, _⟩ := hC
  have HB3 := Lib.hid (HB2.out.trans (hb.mono HB2.out.size))
  have HP := Lib.hid (one_box w2 (.cells #[.int .i64 exP.kind, .string (bs exP.mat), .string (bs exP.role.name), .slice none 0 0, .int .i64 exP.sc, .int .i64 exP.pc, .slice A1 1 c1, .slice A2 2 c2, .string (bs exP.text)] 27))
  clear hb CD1
  rw [show exP.moves.length = 1 from rfl, show exP.percepts.length = 2 from rfl]
  generalize exP.kind = k at *
  generalize bs exP.mat = s1 at *
  generalize bs exP.role.name = s2 at *
  generalize exP.sc = k1 at *
  generalize exP.pc = k2 at *
  generalize bs exP.text = s3 at *
  have HB4 := Lib.hid (HB3.out.trans (HP.out.1.mono HB3.out.size))
  go_wp2_with fail
  generalize w2.alloc (.cells #[.int .i64 k, .string s1, .string s2, .slice none 0 0, .int .i64 k1, .int .i64 k2, .slice A1 1 c1, .slice A2 2 c2, .string s3] 27) = w3 at *
  refine (CD2.out _ HB4.out).mono ?_
  rintro e w4 ⟨hb, rfl⟩
  have HP4 := Lib.hid ((hb.block _ (heap_lt HP.out.2)).trans HP.out.2)
  have HB5 := Lib.hid (HB4.out.trans (hb.mono HB4.out.size))
  have HZ := Lib.hid (one_box w4 (.cells zMsg 27))
  have HP5 := Lib.hid ((HZ.out.1.block _ (heap_lt HP4.out)).trans HP4.out)
  have HB6 := Lib.hid (HB5.out.trans (HZ.out.1.mono HB5.out.size))
  clear hb CD2
  go_wp2_with fail
  generalize w4.alloc (.cells zMsg 27) = w5 at *
  refine (CU.out _).mono ?_
  rintro e w6 ⟨rfl, hb⟩
  have HP6 := Lib.hid ((hb.block _ (heap_lt HP5.out)).trans HP5.out)
  have HB7 := Lib.hid (HB6.out.trans (hb.mono HB6.out.size))
  clear hb
  have m6 := cell_blk HP6.out 6
  have m7 := cell_blk HP6.out 7
  go_wp2_with (go_at_call 18; refine (mreply_any _ _).mono ?_; rintro e w7 ⟨rfl, rfl⟩)
  go_ret
  exact ⟨rfl, HB7.out⟩

end
/- The laws MessageOne and MessageWords. -/
section
open Go Go.RowKit Go.Shelf
set_option linter.unusedSimpArgs false
set_option linter.unusedVariables false

theorem dec_fine {s : List UInt8} {m : Ms} (hs : s.length ≤ 4000) (h : decP s = some m) : Fine m := by
  unfold decP at h
  obtain ⟨n, hn, hc⟩ := Option.bind_eq_some_iff.1 h
  obtain ⟨rfl, _⟩ := close_some hc
  exact read_fine (fun x hx => Nat.le_trans ((words_le s).2 x (List.mem_of_mem_tail hx)) hs) hn
/-- a message that was read, in memory -/
theorem msc_in {w : World} {b : Nat} {C : Array Value} {m : Ms} (h : MsC w b C m) (hf : Fine m) :
    ∃ A1 c1 A2 c2, C = #[.int .i64 m.kind, .string (bs m.mat), .string (bs m.role.name), .slice none 0 0, .int .i64 m.sc, .int .i64 m.pc, .slice A1 m.moves.length c1, .slice A2 m.percepts.length c2, .string (bs m.text)] ∧ m = ⟨m.kind, m.mat, .mk m.role.name [], m.sc, m.pc, m.moves, m.percepts, m.text⟩ ∧
      MsIn w (fun j => b + 4 < j ∧ j < w.heap.size) A1 m.moves A2 m.percepts ∧ SlV TmV 2 w (fun k => b + 4 < k) A1 m.moves ∧ SlV TmV 2 w (fun k => b + 4 < k) A2 m.percepts := by
  obtain ⟨A1, c1, A2, c2, hC, hra, hs1, hs2⟩ := h
  refine ⟨A1, c1, A2, c2, hC, ?_, ⟨by have := hf.n1; omega, by have := hf.n2; omega, fun j hj => hj.2, hs1.keep keeps_tm (fun j hj hl => ⟨⟨hj, hl⟩, rfl⟩) (Nat.le_refl _), fun t ht => tmb_of4 (hf.v1 t ht), hs2.keep keeps_tm (fun j hj hl => ⟨⟨hj, hl⟩, rfl⟩) (Nat.le_refl _), fun t ht => tmb_of4 (hf.v2 t ht)⟩, hs1, hs2⟩
  obtain ⟨k0, mat, ⟨nm, ra⟩, sc, pc, mv, pv, tx⟩ := m
  have hra : ra = [] := hf.args
  subst hra
  rfl

set_option maxHeartbeats 8000000 in
set_option maxRecDepth 100000 in
theorem law_one (w : World) (s : List UInt8) (hs : s.length ≤ 9223372036854775807) (hm : Mw w) : Calls Tryz.prog 3 #[.string (bs s)] w (YesP w) := by
  have HM := Lib.hid hm
  have CA := Lib.hid (fun (y : World) (hy : Below w.heap.size w y) => awake_any y (HM.out.below hy))
  clear hm
  have hsz : ((bs s).size : Int) = (s.length : Int) := by rw [size_bs]
  by_cases h6 : 600 < s.length
  · have e1 : decide ((600 : Int) < ((bs s).size : Int)) = true := decide_eq_true (by omega)
    have e2 : 600 < (bs s).size := by omega
    generalize bs s = st at *
    go_enter Tryz.func3, Tryz.ntmps3
    go_wp2_with fail
    refine (CA.out _ (Below.refl _ _)).mono ?_
    rintro e w1 ⟨rfl, hb⟩
    go_wp2_with fail
    go_ret
    exact ⟨rfl, hb⟩
  have e1 : decide ((600 : Int) < ((bs s).size : Int)) = false := decide_eq_false (by omega)
  have e2 : ¬ 600 < (bs s).size := by omega
  have CD := Lib.hid (decode_any w s (by omega) HM.out)
  cases hd : decP s with
  | none =>
    rw [hd] at CD
    clear hd hsz
    generalize bs s = st at *
    go_enter Tryz.func3, Tryz.ntmps3
    go_wp2_with fail
    refine CD.out.mono ?_
    rintro e w1 ⟨hb, rfl⟩
    have HB1 := Lib.hid (hb.trans ((one_box w1 (.cells zMsg 27)).1.mono hb.size))
    clear hb
    go_wp2_with fail
    refine (CA.out _ HB1.out).mono ?_
    rintro e w2 ⟨rfl, hb⟩
    have HB2 := Lib.hid (HB1.out.trans (hb.mono HB1.out.size))
    clear hb
    go_wp2_with fail
    go_ret
    exact ⟨rfl, HB2.out⟩
  | some m =>
    rw [hd] at CD
    have hf := dec_fine (by omega) hd
    have HF := Lib.hid hf
    obtain ⟨hck, hen⟩ := decP_some hd
    obtain ⟨k0, mat, ⟨nm, ra⟩, sc, pc, mv, pv, tx⟩ := m
    have hra : ra = [] := hf.args
    subst hra
    have HO : Hid (encO ⟨k0, mat, .mk nm [], sc, pc, mv, pv, tx⟩ = (s, 0)) := by unfold Hid encO; rw [if_pos hck, hen]
    have HK := Lib.hid hck
    clear hd hsz hf hck hen
    generalize hst : bs s = st at *
    have e3 : (st.toList == st.toList) = true := by simp
    go_enter Tryz.func3, Tryz.ntmps3
    go_wp2_with fail
    refine CD.out.mono ?_
    rintro e w1 ⟨hb, C, hC, rfl⟩
    obtain ⟨A1, c1, A2, c2, hCe, _, hin, _, _⟩ := msc_in hC HF.out
    simp only [Tm.name] at hCe
    subst hCe
    have HB1 := Lib.hid hb
    have HW2 := Lib.hid (one_box w1 (.cells #[.int .i64 k0, .string (bs mat), .string (bs nm), .slice none 0 0, .int .i64 sc, .int .i64 pc, .slice A1 mv.length c1, .slice A2 pv.length c2, .string (bs tx)] 27))
    have HB2 := Lib.hid (HB1.out.trans (HW2.out.1.mono HB1.out.size))
    have HIN := Lib.hid (fun (y : World) (hy : Below w1.heap.size w1 y) => hin.keep hy)
    have hn := HF.out
    have CE := Lib.hid (encode_any (w1.alloc (.cells #[.int .i64 k0, .string (bs mat), .string (bs nm), .slice none 0 0, .int .i64 sc, .int .i64 pc, .slice A1 mv.length c1, .slice A2 pv.length c2, .string (bs tx)] 27)) _ k0 mat nm none 0 [] sc pc A1 c1 mv A2 c2 pv tx (by have := hn.mat; simp only at this; omega) (by have := hn.role; simp only [Tm.name] at this; omega) (HIN.out _ HW2.out.1) hn.n1 hn.n2 (HM.out.below HB2.out).tb (by have := hn.text; simp only at this; omega))
    unfold encV at CE
    rw [HO.out, show ([] : List Tm).length = 0 from rfl] at CE
    simp only at CE
    have CK := Lib.hid (fun (y : World) (hy : Below w1.heap.size w1 y) => check_any y _ k0 (bs mat) (bs nm) none 0 [] sc pc A1 c1 mv A2 c2 pv (bs tx) (by rw [size_bs]; have := hn.mat; simp only at this; omega) (by rw [size_bs]; have := hn.role; simp only [Tm.name] at this; omega) (HIN.out y hy))
    rw [toList_bs, toList_bs, toList_bs, HK.out, show ([] : List Tm).length = 0 from rfl] at CK
    clear hb hC hin hn
    rw [show bs s = st from hst] at CE
    clear hst
    go_wp2_with fail
    generalize w1.alloc (.cells #[.int .i64 k0, .string (bs mat), .string (bs nm), .slice none 0 0, .int .i64 sc, .int .i64 pc, .slice A1 mv.length c1, .slice A2 pv.length c2, .string (bs tx)] 27) = w2 at *
    refine CE.out.mono ?_
    rintro e w3 ⟨rfl, hb⟩
    have HX3 := Lib.hid ((hb.block _ (heap_lt HW2.out.2)).trans HW2.out.2)
    have HB3 := Lib.hid (HB2.out.trans (hb.mono HB2.out.size))
    have HY3 := Lib.hid (HW2.out.1.trans (hb.mono HW2.out.1.size))
    clear hb CE
    have c := cell_blk HX3.out
    have m0 := c 0; have m1 := c 1; have m2 := c 2; have m3 := c 3; have m4 := c 4; have m5 := c 5; have m6 := c 6; have m7 := c 7; have m8 := c 8
    simp at m0 m1 m2 m3 m4 m5 m6 m7 m8
    go_wp2_with fail
    refine (CK.out _ HY3.out).mono ?_
    rintro e w4 ⟨rfl, hb⟩
    have HB4 := Lib.hid (HB3.out.trans (hb.mono HB3.out.size))
    clear hb CK
    go_wp2_with fail
    refine (CA.out _ HB4.out).mono ?_
    rintro e w5 ⟨rfl, hb⟩
    have HB5 := Lib.hid (HB4.out.trans (hb.mono HB4.out.size))
    clear hb
    go_wp2_with fail
    go_ret
    exact ⟨rfl, HB5.out⟩

set_option maxHeartbeats 8000000 in
set_option maxRecDepth 100000 in
theorem law_words (w : World) (s t : List UInt8) (hs : s.length ≤ 9223372036854775807) (ht : t.length ≤ 9223372036854775807) (hm : Mw w) : Calls Tryz.prog 4 #[.string (bs s), .string (bs t)] w (YesP w) := by
  have HM := Lib.hid hm
  have CA := Lib.hid (fun (y : World) (hy : Below w.heap.size w y) => awake_any y (HM.out.below hy))
  clear hm
  have hsz : (bs s).size = s.length := size_bs s
  have htz : (bs t).size = t.length := size_bs t
  by_cases h6 : 600 < s.length
  · have e1 : decide ((600 : Int) < ((bs s).size : Int)) = true := decide_eq_true (by omega)
    have e2 : 600 < (bs s).size := by omega
    generalize bs s = st at *
    generalize bs t = tt at *
    go_enter Tryz.func4, Tryz.ntmps4
    go_wp2_with fail
    refine (CA.out _ (Below.refl _ _)).mono ?_
    rintro e w1 ⟨rfl, hb⟩
    go_wp2_with fail
    go_ret
    exact ⟨rfl, hb⟩
  have e1 : decide ((600 : Int) < ((bs s).size : Int)) = false := decide_eq_false (by omega)
  have e2 : ¬ 600 < (bs s).size := by omega
  by_cases h7 : 600 < t.length
  · have e3 : decide ((600 : Int) < ((bs t).size : Int)) = true := decide_eq_true (by omega)
    have e4 : 600 < (bs t).size := by omega
    generalize bs s = st at *
    generalize bs t = tt at *
    go_enter Tryz.func4, Tryz.ntmps4
    go_wp2_with fail
    refine (CA.out _ (Below.refl _ _)).mono ?_
    rintro e w1 ⟨rfl, hb⟩
    go_wp2_with fail
    go_ret
    exact ⟨rfl, hb⟩
  have e3 : decide ((600 : Int) < ((bs t).size : Int)) = false := decide_eq_false (by omega)
  have e4 : ¬ 600 < (bs t).size := by omega
  have CE := Lib.hid (escape_any w (bs s) (by omega))
  rw [toList_bs] at CE
  have hle := escT_len s
  have CU := Lib.hid (fun (y : World) => unescape_any y (bs (escT s)) (by rw [size_bs]; omega))
  unfold unV at CU
  rw [toList_bs, unO_some (unT_escT s)] at CU
  simp only at CU
  have CV := Lib.hid (fun (y : World) => unescape_any y (bs t) (by omega))
  rw [toList_bs] at CV
  have HINK : Hid (∀ (k : Nat) (h : k < (bs (escT s)).size), 32 < (((bs (escT s))[k]'h).toNat : Int) ∧ (((bs (escT s))[k]'h).toNat : Int) ≤ 126) := by
    intro k h
    have h2 := escT_ink s
    rw [List.all_eq_true] at h2
    have hk : k < (escT s).length := by rw [size_bs] at h; exact h
    have h3 := h2 ((escT s)[k]'hk) (List.getElem_mem hk)
    have h4 : (bs (escT s))[k]'h = (escT s)[k]'hk := by
      rfl
    rw [h4]
    unfold inkB bInt at h3
    simp only [Bool.and_eq_true, decide_eq_true_eq] at h3
    omega
  have hez : (bs (escT s)).size = (escT s).length := size_bs _
  have HNIL : Hid ((bs s).toList.isEmpty = s.isEmpty) := by rw [Hid, ByteArray.toList_eq, toList_bs]
  have hne : s.isEmpty = false → (bs (escT s)).size ≤ 3 * (bs s).size := by
    intro h
    have : s ≠ [] := by intro h0; rw [h0] at h; cases h
    have := hle.2.2 this
    omega
  have f1 : decide (((bs (escT s)).size : Int) < 1) = false := decide_eq_false (by omega)
  have f2 : decide (3 * ((bs s).size : Int) + 1 < ((bs (escT s)).size : Int)) = false := decide_eq_false (by omega)
  have f4 : ¬ (bs (escT s)).size < 1 := by omega
  have f5 : ¬ 3 * (bs s).size + 1 < (bs (escT s)).size := by omega
  have hb30 : (bs s).size ≤ 600 := by omega
  have hb31 : (bs (escT s)).size ≤ 2000 := by omega
  clear hle hez hsz
  generalize bs (escT s) = et at *
  generalize bs s = st at *
  have f3 : (st.toList == st.toList) = true := by simp
  have HTL : Hid (∀ o, unT t = some o → o.length ≤ 1000) := by
    intro o ho
    have hh := (unT_iff _ _).1 ho
    by_cases hz : o = []
    · subst hz; simp
    · rw [escT_ne hz] at hh
      have := (escA_len o).1
      rw [hh] at this
      omega
  have HTT : Hid (∀ o, unT t = some o → escT o = t) := fun o ho => (unT_iff _ _).1 ho
  have TAIL : Hid (∀ w2 : World, Below w.heap.size w w2 → True) := fun _ _ => trivial
  cases hn : s.isEmpty
  · rw [hn] at HNIL
    have g1 := hne hn
    have f6 : decide (3 * (st.size : Int) < (et.size : Int)) = false := decide_eq_false (by omega)
    have f7 : ¬ 3 * st.size < et.size := by omega
    have f8 : st.toList.isEmpty = false := HNIL.out
    clear hne hn htz g1
    go_enter Tryz.func4, Tryz.ntmps4
    go_wp2_with fail
    refine CE.out.mono ?_
    rintro e w1 ⟨rfl, hb⟩
    have HB1 := Lib.hid hb
    clear hb
    go_wp2_with fail
    refine (CU.out _).mono ?_
    rintro e w2 ⟨rfl, hb⟩
    have HB2 := Lib.hid (HB1.out.trans (hb.mono HB1.out.size))
    clear hb
    go_wp2_with fail
    go_loopw [8] (fun i wr => ∃ k : Nat, k ≤ et.size ∧ i = .int .i64 k ∧ Hid (Below w.heap.size w wr)) (fun i _ => et.size - (intOf i).toNat)
    case atStart => exact ⟨0, Nat.zero_le _, rfl, HB2.out⟩
    case round =>
      obtain ⟨k, hk, rfl, HBR⟩ := hrel
      by_cases hlk : k < et.size
      focus
        obtain ⟨i1, i2⟩ := HINK.out k hlk
        have j1 : decide ((et[k].toNat : Int) ≤ 32) = false := decide_eq_false (by omega)
        have j2 : decide ((126 : Int) < (et[k].toNat : Int)) = false := decide_eq_false (by omega)
        go_wp2_with fail
        go_roundw
        case rel => exact ⟨k + 1, by omega, by go_num, HBR.out⟩
        case measure => simp [intOf]; omega
      obtain rfl : k = et.size := by omega
      cases hu : unT t with
      | none =>
        unfold unV at CV
        rw [unO_none hu] at CV
        simp only at CV
        go_wp2_with fail
        refine (CV.out _).mono ?_
        rintro e w3 ⟨rfl, hb⟩
        have HB3 := Lib.hid (HBR.out.trans (hb.mono HBR.out.size))
        clear hb
        go_wp2_with fail
        refine (CA.out _ HB3.out).mono ?_
        rintro e w4 ⟨rfl, hb⟩
        have HB4 := Lib.hid (HB3.out.trans (hb.mono HB3.out.size))
        clear hb
        go_wp2_with fail
        go_ret
        exact ⟨rfl, HB4.out⟩
      | some o =>
        have hol := HTL.out o hu
        have CX := Lib.hid (fun (y : World) => escape_any y (bs o) (by rw [size_bs]; omega))
        rw [toList_bs, HTT.out o hu] at CX
        unfold unV at CV
        rw [unO_some hu] at CV
        simp only at CV
        clear hu
        generalize bs o = so at *
        generalize bs t = tt at *
        have f9 : (tt.toList == tt.toList) = true := by simp
        go_wp2_with fail
        refine (CV.out _).mono ?_
        rintro e w3 ⟨rfl, hb⟩
        have HB3 := Lib.hid (HBR.out.trans (hb.mono HBR.out.size))
        clear hb
        go_wp2_with fail
        refine (CX.out _).mono ?_
        rintro e w4 ⟨rfl, hb⟩
        have HB4 := Lib.hid (HB3.out.trans (hb.mono HB3.out.size))
        clear hb
        go_wp2_with fail
        refine (CA.out _ HB4.out).mono ?_
        rintro e w5 ⟨rfl, hb⟩
        have HB5 := Lib.hid (HB4.out.trans (hb.mono HB4.out.size))
        clear hb
        go_wp2_with fail
        go_ret
        exact ⟨rfl, HB5.out⟩
  · rw [hn] at HNIL
    have f8 : st.toList.isEmpty = true := HNIL.out
    clear hne hn htz
    go_enter Tryz.func4, Tryz.ntmps4
    go_wp2_with fail
    refine CE.out.mono ?_
    rintro e w1 ⟨rfl, hb⟩
    have HB1 := Lib.hid hb
    clear hb
    go_wp2_with fail
    refine (CU.out _).mono ?_
    rintro e w2 ⟨rfl, hb⟩
    have HB2 := Lib.hid (HB1.out.trans (hb.mono HB1.out.size))
    clear hb
    go_wp2_with fail
    go_loopw [8] (fun i wr => ∃ k : Nat, k ≤ et.size ∧ i = .int .i64 k ∧ Hid (Below w.heap.size w wr)) (fun i _ => et.size - (intOf i).toNat)
    case atStart => exact ⟨0, Nat.zero_le _, rfl, HB2.out⟩
    case round =>
      obtain ⟨k, hk, rfl, HBR⟩ := hrel
      by_cases hlk : k < et.size
      focus
        obtain ⟨i1, i2⟩ := HINK.out k hlk
        have j1 : decide ((et[k].toNat : Int) ≤ 32) = false := decide_eq_false (by omega)
        have j2 : decide ((126 : Int) < (et[k].toNat : Int)) = false := decide_eq_false (by omega)
        go_wp2_with fail
        go_roundw
        case rel => exact ⟨k + 1, by omega, by go_num, HBR.out⟩
        case measure => simp [intOf]; omega
      obtain rfl : k = et.size := by omega
      cases hu : unT t with
      | none =>
        unfold unV at CV
        rw [unO_none hu] at CV
        simp only at CV
        go_wp2_with fail
        refine (CV.out _).mono ?_
        rintro e w3 ⟨rfl, hb⟩
        have HB3 := Lib.hid (HBR.out.trans (hb.mono HBR.out.size))
        clear hb
        go_wp2_with fail
        refine (CA.out _ HB3.out).mono ?_
        rintro e w4 ⟨rfl, hb⟩
        have HB4 := Lib.hid (HB3.out.trans (hb.mono HB3.out.size))
        clear hb
        go_wp2_with fail
        go_ret
        exact ⟨rfl, HB4.out⟩
      | some o =>
        have hol := HTL.out o hu
        have CX := Lib.hid (fun (y : World) => escape_any y (bs o) (by rw [size_bs]; omega))
        rw [toList_bs, HTT.out o hu] at CX
        unfold unV at CV
        rw [unO_some hu] at CV
        simp only at CV
        clear hu
        generalize bs o = so at *
        generalize bs t = tt at *
        have f9 : (tt.toList == tt.toList) = true := by simp
        go_wp2_with fail
        refine (CV.out _).mono ?_
        rintro e w3 ⟨rfl, hb⟩
        have HB3 := Lib.hid (HBR.out.trans (hb.mono HBR.out.size))
        clear hb
        go_wp2_with fail
        refine (CX.out _).mono ?_
        rintro e w4 ⟨rfl, hb⟩
        have HB4 := Lib.hid (HB3.out.trans (hb.mono HB3.out.size))
        clear hb
        go_wp2_with fail
        refine (CA.out _ HB4.out).mono ?_
        rintro e w5 ⟨rfl, hb⟩
        have HB5 := Lib.hid (HB4.out.trans (hb.mono HB4.out.size))
        clear hb
        go_wp2_with fail
        go_ret
        exact ⟨rfl, HB5.out⟩

end
end Go.Proofs.YtmplpbdldcokjaaGreatDoor
