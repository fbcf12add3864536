/- The law MessageBack. -/
import Derived.Test.YtmplpbdldcokjaaGreatDoorQt
import Derived.Test.YtmplpbdldcokjaaGreatDoorXi
namespace Go.Proofs.YtmplpbdldcokjaaGreatDoor
open Go Go.RowKit Go.Shelf
set_option linter.unusedSimpArgs false
set_option linter.unusedVariables false

theorem plTermsV {l : List Tm} (hs : ∀ r ∈ l, TmS r) (hn : l.length < 4611686018427387904) (w : World) (P P' : Nat → Prop) (A B : Option Addr) (c1 c2 : Nat) (hx : SlV TmV 2 w P A l) (hy : SlV TmV 2 w P' B l) :
    Calls Tryz.prog 26 #[.slice A l.length c1, .slice B l.length c2] w (YesP w) := by
  obtain ⟨xs, hxl, hxA, hxt⟩ := hx
  obtain ⟨ys, hyl, hyA, hyt⟩ := hy
  have sh : ∀ {zs : List (List Value)} {Q : Nat → Prop}, zs.length = l.length → (∀ (i : Nat) (x : List Value) (a : Tm), zs[i]? = some x → l[i]? = some a → TmV w Q x a) → ∀ x ∈ zs, ∃ a b, x = [a, b] := by
    intro zs Q hzl hz x hx
    obtain ⟨i, hi, rfl⟩ := List.getElem_of_mem hx
    obtain ⟨nm, A, cap, a, he, _⟩ := (hz i _ (l[i]'(by omega)) (List.getElem?_eq_getElem hi) (List.getElem?_eq_getElem (by omega))).form
    exact ⟨_, _, he⟩
  refine plTerms w P P' A B l.length c1 c2 xs ys hxA hyA hxl hyl hn (sh hxl hxt) (sh hyl hyt) (fun i x y hi hj w' hb => ?_)
  have hil : i < l.length := by have := (List.getElem?_eq_some_iff.1 hi).1; omega
  have hl : l[i]? = some (l[i]'hil) := List.getElem?_eq_getElem hil
  exact plTerm (hs _ (List.getElem_mem hil)) w' P P' x y (keeps_tm _ _ _ _ _ _ (hxt i x _ hi hl) (fun b hp hlt => ⟨hp, hb.block b hlt⟩) hb.size) (keeps_tm _ _ _ _ _ _ (hyt i y _ hj hl) (fun b hp hlt => ⟨hp, hb.block b hlt⟩) hb.size)

theorem MsO.keep {w w' : World} {k : Int} {mat nm : List UInt8} {A : Option Addr} {cp : Nat} {l : List Tm} {A1 : Option Addr} {l1 : List Tm} {A2 : Option Addr} {l2 : List Tm} {txt : List UInt8} (h : MsO w k mat nm A cp l A1 l1 A2 l2 txt) (hb : Below w.heap.size w w') : MsO w' k mat nm A cp l A1 l1 A2 l2 txt :=
  ⟨h.mat, h.txt, h.role.keep (fun b hp hl => ⟨Nat.lt_of_lt_of_le hp hb.size, hb.block b hl⟩) hb.size, h.rb, ⟨h.ins.n1, h.ins.n2, fun _ h => h, h.ins.a1.keep keeps_tm (fun b hp hl => ⟨Nat.lt_of_lt_of_le hp hb.size, hb.block b hl⟩) hb.size, h.ins.b1, h.ins.a2.keep keeps_tm (fun b hp hl => ⟨Nat.lt_of_lt_of_le hp hb.size, hb.block b hl⟩) hb.size, h.ins.b2⟩⟩
theorem ms_fine {m : Ms} (h : checkF m = 0) (h2 : m.percepts.length ≤ 20) : Fine m ∧ (encF m).length ≤ 5000000 := by
  obtain ⟨hk, hmat, hmat2, h1, hn1, hp, hm, hm1, hm6, hg1, hg2, ht⟩ := check_ok h
  have hargs : m.role.args = [] := by
    by_cases hk1 : m.kind = 1
    · exact List.length_eq_zero_iff.1 (h1 hk1).2.1
    · rw [(hn1 hk1).1]; rfl
  have hl1 : m.moves.length ≤ 1 := by
    by_cases a : m.kind = 2 ∨ m.kind = 3
    · exact hm1 a
    · by_cases b : m.kind = 6
      · have := hm6 b; omega
      · rw [hm (by omega) (by omega) b]; simp
  have hmatl : m.mat.length ≤ 16 := by
    by_cases a : m.kind ≤ 4
    · exact name_le (hmat a)
    · rw [hmat2 (by omega)]; simp
  have hrol : m.role.name.length ≤ 16 := by
    by_cases hk1 : m.kind = 1
    · exact name_le (h1 hk1).1
    · rw [(hn1 hk1).1]; simp [Tm.name]
  refine ⟨⟨hargs, by omega, by omega, fun t ht => valid_mono _ _ (List.all_eq_true.1 hg1 t ht), fun t ht => valid_mono _ _ (List.all_eq_true.1 hg2 t ht), by omega, by omega, by omega⟩, ?_⟩
  have e1 := (escT_len (termsT m.moves)).2.1
  have e2 := (escT_len (termsT m.percepts)).2.1
  have e3 := (escT_len m.text).2.1
  have g1 := termsT_len hg1
  have g2 := termsT_len hg2
  have i1 : (Lib.itoa m.sc).length ≤ 21 ∧ (Lib.itoa m.pc).length ≤ 21 ∨ m.kind ≠ 1 := by
    by_cases hk1 : m.kind = 1
    · obtain ⟨_, _, a, b, c, d⟩ := h1 hk1
      exact .inl ⟨Lib.itoa_length_le _ (by omega) (by omega), Lib.itoa_length_le _ (by omega) (by omega)⟩
    · exact .inr hk1
  unfold encF encW
  repeat' split
  all_goals (rw [Lib.join_cons]; simp [Lib.joinTail, wStart, wPlay, wStop, wAbort, wReady, wMove, wDone]; try omega)
theorem dec_back {m : Ms} (h : checkF m = 0) (h2 : m.percepts.length ≤ 20) : ∀ n, readP ((wordsF (encF m)).headD []) (wordsF (encF m)).tail = some n → Fine n := by
  intro n hn
  rw [words_enc h, (both_back h).1] at hn
  injection hn with hn
  subst hn
  exact (ms_fine h h2).1
theorem tms_ground {l : List Tm} (h : groundF l = true) : ∀ t ∈ l, TmS t := fun t ht => tms_valid 4 t (List.all_eq_true.1 h t ht)
theorem tmv_leaf (w : World) (P : Nat → Prop) (nm : List UInt8) (cp : Nat) (A : Option Addr) : TmV w P [.string (bs nm), .slice A 0 cp] (.mk nm []) := by
  have h := TmV.mk (w := w) (P := P) nm A cp [] [] rfl (fun h => by simp at h) (fun i x t h => by simp at h)
  exact h

set_option maxHeartbeats 16000000 in
set_option maxRecDepth 100000 in
theorem law_back (w : World) (hm : Mw w) (k : Int) (mat nm : List UInt8) (A : Option Addr) (cp : Nat) (l : List Tm) (sc pc : Int) (A1 : Option Addr) (c1 : Nat) (l1 : List Tm) (A2 : Option Addr) (c2 : Nat) (l2 : List Tm) (txt : List UInt8) (h : MsO w k mat nm A cp l A1 l1 A2 l2 txt) :
    Calls Tryz.prog 9 #[msgV k (bs mat) (bs nm) A l.length cp sc pc A1 l1.length c1 A2 l2.length c2 (bs txt)] w (YesP w) := by
  have HM := Lib.hid hm
  have HO := Lib.hid h
  have CA := Lib.hid (fun (y : World) (hy : Below w.heap.size w y) => awake_any y (HM.out.below hy))
  have HB0 := Lib.hid (one_box w (.cells #[.int .i64 k, .string (bs mat), .string (bs nm), .slice A l.length cp, .int .i64 sc, .int .i64 pc, .slice A1 l1.length c1, .slice A2 l2.length c2, .string (bs txt)] 27))
  have CS := Lib.hid (short_any (w.alloc (.cells #[.int .i64 k, .string (bs mat), .string (bs nm), .slice A l.length cp, .int .i64 sc, .int .i64 pc, .slice A1 l1.length c1, .slice A2 l2.length c2, .string (bs txt)] 27)) k mat nm A cp l sc pc A1 c1 l1 A2 c2 l2 txt (h.keep HB0.out.1))
  have hmat := h.mat
  have hnm := h.nm
  have htxt := h.txt
  clear hm h
  have CE := Lib.hid (fun (y : World) (hy : Below w.heap.size w y) (n1 : l1.length ≤ 20) (n2 : l2.length ≤ 20) (nt : txt.length ≤ 17000) => encode_any y _ k mat nm A cp l sc pc A1 c1 l1 A2 c2 l2 txt hmat hnm (HO.out.keep hy).ins (by omega) (by omega) (HM.out.below hy).tb (by omega))
  have CK := Lib.hid (fun (y : World) (hy : Below w.heap.size w y) => check_any y _ k (bs mat) (bs nm) A cp l sc pc A1 c1 l1 A2 c2 l2 (bs txt) (by rw [size_bs]; exact hmat) (by rw [size_bs]; exact hnm) (HO.out.keep hy).ins)
  rw [toList_bs, toList_bs, toList_bs] at CK
  clear hmat hnm htxt
  unfold encV encO at CE
  by_cases hc : checkF ⟨k, mat, .mk nm l, sc, pc, l1, l2, txt⟩ = 0
  rotate_left
  focus
    rw [if_neg hc] at CE
    generalize checkF ⟨k, mat, .mk nm l, sc, pc, l1, l2, txt⟩ = z at *
    simp only at CE
    rw [show bs [] = ⟨#[]⟩ from rfl] at CE
    have e1 : (z != 0) = true := by simpa using hc
    have e2 : (z == z) = true := by simp
    generalize bs mat = smat at *
    generalize bs nm = snm at *
    generalize bs txt = stxt at *
    go_enter Tryz.func9, Tryz.ntmps9
    go_wp2_with fail
    generalize w.alloc (.cells #[.int .i64 k, .string smat, .string snm, .slice A l.length cp, .int .i64 sc, .int .i64 pc, .slice A1 l1.length c1, .slice A2 l2.length c2, .string stxt] 27) = w0 at *
    refine CS.out.mono ?_
    rintro e w1 ⟨b, rfl, hb, hsh⟩
    have HX1 := Lib.hid ((hb.block _ (heap_lt HB0.out.2)).trans HB0.out.2)
    have HB1 := Lib.hid (HB0.out.1.trans (hb.mono HB0.out.1.size))
    clear hb
    cases b
    · go_wp2_with fail
      refine (CA.out _ HB1.out).mono ?_
      rintro e w2 ⟨rfl, hb⟩
      have HB2 := Lib.hid (HB1.out.trans (hb.mono HB1.out.size))
      clear hb
      go_wp2_with fail
      go_ret
      exact ⟨rfl, HB2.out⟩
    · obtain ⟨nt, n1, n2⟩ := hsh rfl
      have CE1 := Lib.hid (CE.out w1 HB1.out n1 n2 nt)
      clear hsh nt n1 n2 CE
      have c := cell_blk HX1.out
      have m0 := c 0; have m1 := c 1; have m2 := c 2; have m3 := c 3; have m4 := c 4; have m5 := c 5; have m6 := c 6; have m7 := c 7; have m8 := c 8
      clear c
      go_wp2_with fail
      clear m0 m1 m2 m3 m4 m5 m6 m7 m8
      refine CE1.out.mono ?_
      rintro e w2 ⟨rfl, hb⟩
      have HX2 := Lib.hid ((hb.block _ (heap_lt HX1.out)).trans HX1.out)
      have HB2 := Lib.hid (HB1.out.trans (hb.mono HB1.out.size))
      clear hb
      have c := cell_blk HX2.out
      have m0 := c 0; have m1 := c 1; have m2 := c 2; have m3 := c 3; have m4 := c 4; have m5 := c 5; have m6 := c 6; have m7 := c 7; have m8 := c 8
      clear c
      go_wp2_with fail
      clear m0 m1 m2 m3 m4 m5 m6 m7 m8
      refine (CK.out _ HB2.out).mono ?_
      rintro e w3 ⟨rfl, hb⟩
      have HB3 := Lib.hid (HB2.out.trans (hb.mono HB2.out.size))
      clear hb
      go_wp2_with fail
      refine (CA.out _ HB3.out).mono ?_
      rintro e w4 ⟨rfl, hb⟩
      have HB4 := Lib.hid (HB3.out.trans (hb.mono HB3.out.size))
      clear hb
      go_wp2_with fail
      go_ret
      exact ⟨rfl, HB4.out⟩
  rw [if_pos hc] at CE
  have HCK := Lib.hid hc
  have hl : l = [] := by
    obtain ⟨_, _, _, h1, hn1, _⟩ := check_ok hc
    by_cases hk1 : k = 1
    · exact List.length_eq_zero_iff.1 (h1 hk1).2.1
    · have := (hn1 hk1).1
      injection this
  subst hl
  rw [show ([] : List Tm).length = 0 from rfl] at *
  have HG1 : Hid (groundF l1 = true) := (check_ok hc).2.2.2.2.2.2.2.2.2.1
  have HG2 : Hid (groundF l2 = true) := (check_ok hc).2.2.2.2.2.2.2.2.2.2.1
  have CD := Lib.hid (fun (y : World) (hy : Below w.heap.size w y) (n2 : l2.length ≤ 20) => decode_gen y (encF ⟨k, mat, .mk nm [], sc, pc, l1, l2, txt⟩) (ms_fine hc n2).2 (dec_back hc n2) (HM.out.below hy))
  rw [decP_enc hc] at CD
  clear hc
  simp only at CE
  generalize bs (encF ⟨k, mat, .mk nm [], sc, pc, l1, l2, txt⟩) = es at *
  go_enter Tryz.func9, Tryz.ntmps9
  go_wp2_with fail
  generalize w.alloc (.cells #[.int .i64 k, .string (bs mat), .string (bs nm), .slice A 0 cp, .int .i64 sc, .int .i64 pc, .slice A1 l1.length c1, .slice A2 l2.length c2, .string (bs txt)] 27) = w0 at *
  refine CS.out.mono ?_
  rintro e w1 ⟨b, rfl, hb, hsh⟩
  have HX1 := Lib.hid ((hb.block _ (heap_lt HB0.out.2)).trans HB0.out.2)
  have HB1 := Lib.hid (HB0.out.1.trans (hb.mono HB0.out.1.size))
  clear hb
  cases b
  focus
    go_wp2_with fail
    refine (CA.out _ HB1.out).mono ?_
    rintro e w2 ⟨rfl, hb⟩
    have HB2 := Lib.hid (HB1.out.trans (hb.mono HB1.out.size))
    clear hb
    go_wp2_with fail
    go_ret
    exact ⟨rfl, HB2.out⟩
  obtain ⟨nt, n1, n2⟩ := hsh rfl
  have CE1 := Lib.hid (CE.out w1 HB1.out n1 n2 nt)
  have CD1 := Lib.hid (fun (y : World) (hy : Below w.heap.size w y) => CD.out y hy n2)
  have HN1 := Lib.hid (And.intro n1 n2)
  clear hsh nt n1 n2 CE CD
  have c := cell_blk HX1.out
  have m0 := c 0; have m1 := c 1; have m2 := c 2; have m3 := c 3; have m4 := c 4; have m5 := c 5; have m6 := c 6; have m7 := c 7; have m8 := c 8
  clear c
  go_wp2_with fail
  clear m0 m1 m2 m3 m4 m5 m6 m7 m8
  refine CE1.out.mono ?_
  rintro e w2 ⟨rfl, hb⟩
  have HX2 := Lib.hid ((hb.block _ (heap_lt HX1.out)).trans HX1.out)
  have HB2 := Lib.hid (HB1.out.trans (hb.mono HB1.out.size))
  clear hb
  go_wp2_with fail
  refine (CD1.out _ HB2.out).mono ?_
  rintro e w3 ⟨hb, C, hC, rfl⟩
  obtain ⟨B1, d1, B2, d2, hCe, _, hq1, hq2⟩ := hC
  simp only [Tm.name] at hCe
  subst hCe
  have HX3 := Lib.hid ((hb.block _ (heap_lt HX2.out)).trans HX2.out)
  have HB3 := Lib.hid (HB2.out.trans (hb.mono HB2.out.size))
  have HNB := Lib.hid (one_box w3 (.cells #[.int .i64 k, .string (bs mat), .string (bs nm), .slice none 0 0, .int .i64 sc, .int .i64 pc, .slice B1 l1.length d1, .slice B2 l2.length d2, .string (bs txt)] 27))
  have HX4 := Lib.hid ((HNB.out.1.block _ (heap_lt HX3.out)).trans HX3.out)
  have HB4 := Lib.hid (HB3.out.trans (HNB.out.1.mono HB3.out.size))
  have CT := Lib.hid (fun (y : World) => plTerm (t := .mk nm []) (.mk nm [] (by simp) (fun t ht => by cases ht)) y (fun _ => False) (fun _ => False) _ _ (tmv_leaf y _ nm 0 none) (tmv_leaf y _ nm cp A))
  have HS1 := Lib.hid hq1
  have HS2 := Lib.hid hq2
  have CT1 := Lib.hid (fun (y : World) (hy : Below w3.heap.size w3 y) => plTermsV (tms_ground HG1.out) (by have := HN1.out.1; omega) y _ _ B1 A1 d1 c1 (HS1.out.keep keeps_tm (fun b hp hl => ⟨hp, hy.block b hl⟩) hy.size) (HO.out.keep (HB3.out.trans (hy.mono HB3.out.size))).ins.a1)
  have CT2 := Lib.hid (fun (y : World) (hy : Below w3.heap.size w3 y) => plTermsV (tms_ground HG2.out) (by have := HN1.out.2; omega) y _ _ B2 A2 d2 c2 (HS2.out.keep keeps_tm (fun b hp hl => ⟨hp, hy.block b hl⟩) hy.size) (HO.out.keep (HB3.out.trans (hy.mono HB3.out.size))).ins.a2)
  clear hb hq1 hq2 HX3
  generalize bs mat = smat at *
  generalize bs nm = snm at *
  generalize bs txt = stxt at *
  have e1 : (smat.toList == smat.toList) = true := by simp
  have e2 : (stxt.toList == stxt.toList) = true := by simp
  have e3 : (k == k) = true := by simp
  have e4 : (sc == sc) = true := by simp
  have e5 : (pc == pc) = true := by simp
  have HY4 := Lib.hid HNB.out.1
  have c := cell_blk HX4.out
  have m0 := c 0; have m1 := c 1; have m2 := c 2; have m3 := c 3
  clear c
  go_wp2_with fail
  generalize w3.alloc (.cells #[.int .i64 k, .string smat, .string snm, .slice none 0 0, .int .i64 sc, .int .i64 pc, .slice B1 l1.length d1, .slice B2 l2.length d2, .string stxt] 27) = w4 at *
  clear m0 m1 m2 m3
  refine (CT.out _).mono ?_
  rintro e w5 ⟨rfl, hb⟩
  have HX5 := Lib.hid ((hb.block _ (heap_lt HX4.out)).trans HX4.out)
  have HZ5 := Lib.hid ((hb.block _ (heap_lt HNB.out.2)).trans HNB.out.2)
  have HB5 := Lib.hid (HB4.out.trans (hb.mono HB4.out.size))
  have HY5 := Lib.hid (HY4.out.trans (hb.mono HY4.out.size))
  clear hb
  have c := cell_blk HX5.out
  have m4 := c 4; have m5 := c 5; have m6 := c 6
  have d := cell_blk HZ5.out
  have n4 := d 4; have n5 := d 5; have n6 := d 6
  clear c d
  go_wp2_with fail
  clear m4 m5 m6 n4 n5 n6
  refine (CT1.out _ HY5.out).mono ?_
  rintro e w6 ⟨rfl, hb⟩
  have HX6 := Lib.hid ((hb.block _ (heap_lt HX5.out)).trans HX5.out)
  have HZ6 := Lib.hid ((hb.block _ (heap_lt HZ5.out)).trans HZ5.out)
  have HB6 := Lib.hid (HB5.out.trans (hb.mono HB5.out.size))
  have HY6 := Lib.hid (HY5.out.trans (hb.mono HY5.out.size))
  clear hb
  have m7 := cell_blk HX6.out 7
  have n7 := cell_blk HZ6.out 7
  go_wp2_with fail
  clear m7 n7
  refine (CT2.out _ HY6.out).mono ?_
  rintro e w7 ⟨rfl, hb⟩
  have HX7 := Lib.hid ((hb.block _ (heap_lt HX6.out)).trans HX6.out)
  have HZ7 := Lib.hid ((hb.block _ (heap_lt HZ6.out)).trans HZ6.out)
  have HB7 := Lib.hid (HB6.out.trans (hb.mono HB6.out.size))
  clear hb
  have m8 := cell_blk HX7.out 8
  have n8 := cell_blk HZ7.out 8
  go_wp2_with fail
  clear m8 n8
  refine (CA.out _ HB7.out).mono ?_
  rintro e w8 ⟨rfl, hb⟩
  have HB8 := Lib.hid (HB7.out.trans (hb.mono HB7.out.size))
  clear hb
  go_wp2_with fail
  go_ret
  exact ⟨rfl, HB8.out⟩
end Go.Proofs.YtmplpbdldcokjaaGreatDoor
