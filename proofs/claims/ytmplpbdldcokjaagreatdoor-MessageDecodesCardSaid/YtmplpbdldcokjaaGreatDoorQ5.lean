/- The law MessageDecodes. -/
import Derived.Test.YtmplpbdldcokjaaGreatDoorX9
import Derived.Test.YtmplpbdldcokjaaGreatDoorX8
import Derived.Test.YtmplpbdldcokjaaGreatDoorXi
namespace Go.Proofs.YtmplpbdldcokjaaGreatDoor
open Go Go.RowKit Go.Shelf
set_option linter.unusedSimpArgs false
set_option linter.unusedVariables false

theorem plTermsW {l : List Tm} (hs : ∀ r ∈ l, TmS r) (hn : l.length < 4611686018427387904) (w : World) (P P' : Nat → Prop) (A B : Option Addr) (c1 c2 : Nat) (hx : SlV TmV 2 w P A l) (hy : SlV TmV 2 w P' B l) :
    Calls Tryz.prog 26 #[.slice A l.length c1, .slice B l.length c2] w (YesP w) := by
  obtain ⟨xs, hxl, hxA, hxt⟩ := hx
  obtain ⟨ys, hyl, hyA, hyt⟩ := hy
  have sh : ∀ {zs : List (List Value)} {Q : Nat → Prop}, zs.length = l.length → (∀ (i : Nat) (x : List Value) (a : Tm), zs[i]? = some x → l[i]? = some a → TmV w Q x a) → ∀ x ∈ zs, ∃ a b, x = [a, b] := by
    intro zs Q hzl hz x hx
    obtain ⟨i, hi, rfl⟩ := List.getElem_of_mem hx
    obtain ⟨nm, A, cap, a, he, _⟩ := (hz i _ (l[i]'(by omega)) (List.getElem?_eq_getElem hi) (List.getElem?_eq_getElem (by omega))).form
    exact ⟨_, _, he⟩
  refine plTerms w P P' A B l.length c1 c2 xs ys hxA hyA hxl hyl hn (sh hxl hxt) (sh hyl hyt) (fun i x y hi hj w' hb => ?_)
  have hil : i < l.length := by have := (List.getElem?_eq_some_iff.1 hi).1; omega
  have hl : l[i]? = some (l[i]'hil) := List.getElem?_eq_getElem hil
  exact plTerm (hs _ (List.getElem_mem hil)) w' P P' x y (keeps_tm _ _ _ _ _ _ (hxt i x _ hi hl) (fun b hp hlt => ⟨hp, hb.block b hlt⟩) hb.size) (keeps_tm _ _ _ _ _ _ (hyt i y _ hj hl) (fun b hp hlt => ⟨hp, hb.block b hlt⟩) hb.size)

theorem tms_ground2 {l : List Tm} (h : groundF l = true) : ∀ t ∈ l, TmS t := fun t ht => tms_valid 4 t (List.all_eq_true.1 h t ht)
set_option maxHeartbeats 16000000 in
set_option maxRecDepth 100000 in
theorem rsame_any (w : World) (P P' : Nat → Prop) (k0 sc pc : Int) (mat nm tx : List UInt8) (mv pv : List Tm) (A1 A2 B1 B2 : Option Addr) (ac1 ac2 bc1 bc2 : Nat) (hg1 : groundF mv = true) (hg2 : groundF pv = true) (hl1 : mv.length ≤ 5000) (hl2 : pv.length ≤ 5000)
    (ha1 : SlV TmV 2 w P A1 mv) (ha2 : SlV TmV 2 w P A2 pv) (hb1 : SlV TmV 2 w P' B1 mv) (hb2 : SlV TmV 2 w P' B2 pv) :
    Calls Tryz.prog 22 #[.agg #[.int .i64 k0, .string (bs mat), .string (bs nm), .slice none 0 0, .int .i64 sc, .int .i64 pc, .slice A1 mv.length ac1, .slice A2 pv.length ac2, .string (bs tx)], .agg #[.int .i64 k0, .string (bs mat), .string (bs nm), .slice none 0 0, .int .i64 sc, .int .i64 pc, .slice B1 mv.length bc1, .slice B2 pv.length bc2, .string (bs tx)]] w (YesP w) := by
  have HTB := Lib.hid (two_box w (.cells #[.int .i64 k0, .string (bs mat), .string (bs nm), .slice none 0 0, .int .i64 sc, .int .i64 pc, .slice A1 mv.length ac1, .slice A2 pv.length ac2, .string (bs tx)] 27) (.cells #[.int .i64 k0, .string (bs mat), .string (bs nm), .slice none 0 0, .int .i64 sc, .int .i64 pc, .slice B1 mv.length bc1, .slice B2 pv.length bc2, .string (bs tx)] 27))
  have CT := Lib.hid (fun (y : World) => plTerm (t := .mk nm []) (.mk nm [] (by simp) (fun t ht => by cases ht)) y (fun _ => False) (fun _ => False) _ _ (tmv_leaf3 y _ nm 0 none) (tmv_leaf3 y _ nm 0 none))
  have CT1 := Lib.hid (fun (y : World) (hy : Below w.heap.size w y) => plTermsW (tms_ground2 hg1) (by omega) y P P' A1 B1 ac1 bc1 (ha1.keep keeps_tm (fun b hp hb => ⟨hp, hy.block b hb⟩) hy.size) (hb1.keep keeps_tm (fun b hp hb => ⟨hp, hy.block b hb⟩) hy.size))
  have CT2 := Lib.hid (fun (y : World) (hy : Below w.heap.size w y) => plTermsW (tms_ground2 hg2) (by omega) y P P' A2 B2 ac2 bc2 (ha2.keep keeps_tm (fun b hp hb => ⟨hp, hy.block b hb⟩) hy.size) (hb2.keep keeps_tm (fun b hp hb => ⟨hp, hy.block b hb⟩) hy.size))
  clear hg1 hg2 hl1 hl2 ha1 ha2 hb1 hb2
  generalize bs mat = smat at *
  generalize bs nm = snm at *
  generalize bs tx = stx at *
  have e1 : (smat.toList == smat.toList) = true := by simp
  have e2 : (stx.toList == stx.toList) = true := by simp
  have e3 : (k0 == k0) = true := by simp
  have e4 : (sc == sc) = true := by simp
  have e5 : (pc == pc) = true := by simp
  go_enter Tryz.func22, Tryz.ntmps22
  go_upto_region 1 with fail
  have HB := Lib.hid HTB.out.1
  have HX := Lib.hid HTB.out.2.1
  have HY := Lib.hid HTB.out.2.2
  clear HTB
  generalize (w.alloc (.cells #[.int .i64 k0, .string smat, .string snm, .slice none 0 0, .int .i64 sc, .int .i64 pc, .slice A1 mv.length ac1, .slice A2 pv.length ac2, .string stx] 27)).alloc (.cells #[.int .i64 k0, .string smat, .string snm, .slice none 0 0, .int .i64 sc, .int .i64 pc, .slice B1 mv.length bc1, .slice B2 pv.length bc2, .string stx] 27) = w2 at *
  have m := cell_blk HX.out
  have m0 := m 0
  have m1 := m 1
  have m2 := m 2
  have m3 := m 3
  clear m
  have n := cell_blk HY.out
  have n0 := n 0
  have n1 := n 1
  have n2 := n 2
  have n3 := n 3
  clear n
  go_wp2_with fail
  clear m0 m1 m2 m3 n0 n1 n2 n3
  refine (CT.out _).mono ?_
  rintro e w3 ⟨rfl, hb⟩
  replace HX := Lib.hid ((hb.block _ (heap_lt HX.out)).trans HX.out)
  replace HY := Lib.hid ((hb.block _ (heap_lt HY.out)).trans HY.out)
  replace HB := Lib.hid (HB.out.trans (hb.mono HB.out.size))
  clear hb
  have m := cell_blk HX.out
  have m4 := m 4
  have m5 := m 5
  have m6 := m 6
  clear m
  have n := cell_blk HY.out
  have n4 := n 4
  have n5 := n 5
  have n6 := n 6
  clear n
  go_wp2_with fail
  clear m4 m5 m6 n4 n5 n6
  refine (CT1.out _ HB.out).mono ?_
  rintro e w4 ⟨rfl, hb⟩
  replace HX := Lib.hid ((hb.block _ (heap_lt HX.out)).trans HX.out)
  replace HY := Lib.hid ((hb.block _ (heap_lt HY.out)).trans HY.out)
  replace HB := Lib.hid (HB.out.trans (hb.mono HB.out.size))
  clear hb
  have m := cell_blk HX.out
  have m7 := m 7
  clear m
  have n := cell_blk HY.out
  have n7 := n 7
  clear n
  go_wp2_with fail
  clear m7 n7
  refine (CT2.out _ HB.out).mono ?_
  rintro e w5 ⟨rfl, hb⟩
  replace HX := Lib.hid ((hb.block _ (heap_lt HX.out)).trans HX.out)
  replace HY := Lib.hid ((hb.block _ (heap_lt HY.out)).trans HY.out)
  replace HB := Lib.hid (HB.out.trans (hb.mono HB.out.size))
  clear hb
  have m := cell_blk HX.out
  have m8 := m 8
  clear m
  have n := cell_blk HY.out
  have n8 := n 8
  clear n
  go_wp2_with fail
  clear m8 n8
  go_ret
  exact ⟨rfl, HB.out⟩

set_option maxHeartbeats 16000000 in
set_option maxRecDepth 100000 in
theorem law_decodes (w : World) (s : List UInt8) (hs : s.length ≤ 9223372036854775807) (hm : Mw w) : Calls Tryz.prog 7 #[.string (bs s)] w (YesP w) := by
  have HM := Lib.hid hm
  have CA := Lib.hid (fun (y : World) (hy : Below w.heap.size w y) => awake_any y (HM.out.below hy))
  clear hm
  have hsz : ((bs s).size : Int) = (s.length : Int) := by rw [size_bs]
  by_cases h6 : 600 < s.length
  · have e1 : decide ((600 : Int) < ((bs s).size : Int)) = true := decide_eq_true (by omega)
    have e2 : 600 < (bs s).size := by omega
    generalize bs s = st at *
    go_enter Tryz.func7, Tryz.ntmps7
    go_wp2_with fail
    refine (CA.out _ (Below.refl _ _)).mono ?_
    rintro e w1 ⟨rfl, hb⟩
    go_wp2_with fail
    go_ret
    exact ⟨rfl, hb⟩
  have e1 : decide ((600 : Int) < ((bs s).size : Int)) = false := decide_eq_false (by omega)
  have e2 : ¬ 600 < (bs s).size := by omega
  have CD := Lib.hid (decode_any w s (by omega) HM.out)
  have CR := Lib.hid (fun (y : World) (hy : Below w.heap.size w y) => rdecode_any y s (by omega) (HM.out.below hy).tb)
  rw [dec_eq] at CR
  cases hd : decP s with
  | none =>
    rw [hd] at CD CR
    clear hd hsz
    generalize bs s = st at *
    go_enter Tryz.func7, Tryz.ntmps7
    go_wp2_with fail
    refine CD.out.mono ?_
    rintro e w1 ⟨hb, rfl⟩
    have HB := Lib.hid hb
    clear hb
    have HNX := Lib.hid (one_box w1 (.cells #[.int .i64 0, .string ⟨#[]⟩, .string ⟨#[]⟩, .slice none 0 0, .int .i64 0, .int .i64 0, .slice none 0 0, .slice none 0 0, .string ⟨#[]⟩] 27))
    replace HB := Lib.hid (HB.out.trans (HNX.out.1.mono HB.out.size))
    have HX := Lib.hid HNX.out.2
    have HW := Lib.hid HNX.out.1
    clear HNX
    go_wp2_with fail
    generalize w1.alloc (.cells #[.int .i64 0, .string ⟨#[]⟩, .string ⟨#[]⟩, .slice none 0 0, .int .i64 0, .int .i64 0, .slice none 0 0, .slice none 0 0, .string ⟨#[]⟩] 27) = w2 at *
    refine (CR.out _ HB.out).mono ?_
    rintro e w3 ⟨hb, rfl⟩
    replace HX := Lib.hid ((hb.block _ (heap_lt HX.out)).trans HX.out)
    replace HB := Lib.hid (HB.out.trans (hb.mono HB.out.size))
    clear hb
    have HNY := Lib.hid (one_box w3 (.cells #[.int .i64 0, .string ⟨#[]⟩, .string ⟨#[]⟩, .slice none 0 0, .int .i64 0, .int .i64 0, .slice none 0 0, .slice none 0 0, .string ⟨#[]⟩] 27))
    replace HB := Lib.hid (HB.out.trans (HNY.out.1.mono HB.out.size))
    replace HX := Lib.hid ((HNY.out.1.block _ (heap_lt HX.out)).trans HX.out)
    have HY := Lib.hid HNY.out.2
    have CS := Lib.hid (rsame_any (w3.alloc (.cells #[.int .i64 0, .string ⟨#[]⟩, .string ⟨#[]⟩, .slice none 0 0, .int .i64 0, .int .i64 0, .slice none 0 0, .slice none 0 0, .string ⟨#[]⟩] 27)) (fun _ => True) (fun _ => True) 0 0 0 [] [] [] [] [] none none none none 0 0 0 0 rfl rfl (by decide) (by decide) (slv_none _ _) (slv_none _ _) (slv_none _ _) (slv_none _ _))
    rw [show bs [] = ⟨#[]⟩ from rfl, show ([] : List Tm).length = 0 from rfl] at CS
    have m := cell_blk HX.out
    have m0 := m 0
    have m1 := m 1
    have m2 := m 2
    have m3 := m 3
    have m4 := m 4
    have m5 := m 5
    have m6 := m 6
    have m7 := m 7
    have m8 := m 8
    clear m
    have n := cell_blk HY.out
    have n0 := n 0
    have n1 := n 1
    have n2 := n 2
    have n3 := n 3
    have n4 := n 4
    have n5 := n 5
    have n6 := n 6
    have n7 := n 7
    have n8 := n 8
    clear n
    simp at m0 m1 m2 m3 m4 m5 m6 m7 m8 n0 n1 n2 n3 n4 n5 n6 n7 n8
    go_wp2_with fail
    clear m0 n0 m1 n1 m2 n2 m3 n3 m4 n4 m5 n5 m6 n6 m7 n7 m8 n8
    generalize w3.alloc (.cells #[.int .i64 0, .string ⟨#[]⟩, .string ⟨#[]⟩, .slice none 0 0, .int .i64 0, .int .i64 0, .slice none 0 0, .slice none 0 0, .string ⟨#[]⟩] 27) = w4 at *
    refine CS.out.mono ?_
    rintro e w5 ⟨rfl, hb⟩
    replace HB := Lib.hid (HB.out.trans (hb.mono HB.out.size))
    clear hb
    go_wp2_with fail
    refine (CA.out _ HB.out).mono ?_
    rintro e w6 ⟨rfl, hb⟩
    replace HB := Lib.hid (HB.out.trans (hb.mono HB.out.size))
    clear hb
    go_wp2_with fail
    go_ret
    exact ⟨rfl, HB.out⟩
  | some m =>
    rw [hd] at CD CR
    have hf := dec_fine (by omega) hd
    obtain ⟨hck, _⟩ := decP_some hd
    have HG : Hid (groundF m.moves = true ∧ groundF m.percepts = true ∧ m.moves.length ≤ 5000 ∧ m.percepts.length ≤ 5000) := ⟨(check_ok hck).2.2.2.2.2.2.2.2.2.1, (check_ok hck).2.2.2.2.2.2.2.2.2.2.1, hf.n1, hf.n2⟩
    obtain ⟨k0, mat, ⟨nm, ra⟩, sc, pc, mv, pv, tx⟩ := m
    have hra : ra = [] := hf.args
    subst hra
    simp only at HG
    clear hd hsz hf hck
    generalize bs s = st at *
    generalize hmat : bs mat = smat at *
    generalize hnm : bs nm = snm at *
    generalize htx : bs tx = stx at *
    have HE3 := Lib.hid (And.intro hmat (And.intro hnm htx))
    clear hmat hnm htx
    have e3 : (smat.toList == smat.toList) = true := by simp
    go_enter Tryz.func7, Tryz.ntmps7
    go_wp2_with fail
    refine CD.out.mono ?_
    rintro e w1 ⟨hb, C, hC, rfl⟩
    obtain ⟨A1, ac1, A2, ac2, hCe, _, hp1, hp2⟩ := hC
    simp only [Tm.name] at hCe
    rw [HE3.out.1, HE3.out.2.1, HE3.out.2.2] at hCe
    subst hCe
    have HB := Lib.hid hb
    have HP1 := Lib.hid (hp1.keep keeps_tm (P' := fun _ => True) (fun _ _ _ => ⟨trivial, rfl⟩) (Nat.le_refl _))
    have HP2 := Lib.hid (hp2.keep keeps_tm (P' := fun _ => True) (fun _ _ _ => ⟨trivial, rfl⟩) (Nat.le_refl _))
    clear hb hp1 hp2
    have HNX := Lib.hid (one_box w1 (.cells #[.int .i64 k0, .string smat, .string snm, .slice none 0 0, .int .i64 sc, .int .i64 pc, .slice A1 mv.length ac1, .slice A2 pv.length ac2, .string stx] 27))
    replace HB := Lib.hid (HB.out.trans (HNX.out.1.mono HB.out.size))
    have HX := Lib.hid HNX.out.2
    have HW := Lib.hid HNX.out.1
    clear HNX
    go_wp2_with fail
    generalize w1.alloc (.cells #[.int .i64 k0, .string smat, .string snm, .slice none 0 0, .int .i64 sc, .int .i64 pc, .slice A1 mv.length ac1, .slice A2 pv.length ac2, .string stx] 27) = w2 at *
    refine (CR.out _ HB.out).mono ?_
    rintro e w3 ⟨hb, C, hC, rfl⟩
    obtain ⟨B1, bc1, B2, bc2, hCe, _, hq1, hq2⟩ := hC
    simp only [Tm.name] at hCe
    rw [HE3.out.1, HE3.out.2.1, HE3.out.2.2] at hCe
    subst hCe
    replace HX := Lib.hid ((hb.block _ (heap_lt HX.out)).trans HX.out)
    replace HB := Lib.hid (HB.out.trans (hb.mono HB.out.size))
    replace HP1 := Lib.hid ((HP1.out.keep keeps_tm (P' := fun _ => True) (fun j _ hl => ⟨trivial, HW.out.block j hl⟩) HW.out.size).keep keeps_tm (P' := fun _ => True) (fun j _ hl => ⟨trivial, hb.block j hl⟩) hb.size)
    replace HP2 := Lib.hid ((HP2.out.keep keeps_tm (P' := fun _ => True) (fun j _ hl => ⟨trivial, HW.out.block j hl⟩) HW.out.size).keep keeps_tm (P' := fun _ => True) (fun j _ hl => ⟨trivial, hb.block j hl⟩) hb.size)
    have HQ1 := Lib.hid (hq1.keep keeps_tm (P' := fun _ => True) (fun _ _ _ => ⟨trivial, rfl⟩) (Nat.le_refl _))
    have HQ2 := Lib.hid (hq2.keep keeps_tm (P' := fun _ => True) (fun _ _ _ => ⟨trivial, rfl⟩) (Nat.le_refl _))
    clear hb hq1 hq2
    have HNY := Lib.hid (one_box w3 (.cells #[.int .i64 k0, .string smat, .string snm, .slice none 0 0, .int .i64 sc, .int .i64 pc, .slice B1 mv.length bc1, .slice B2 pv.length bc2, .string stx] 27))
    replace HB := Lib.hid (HB.out.trans (HNY.out.1.mono HB.out.size))
    replace HX := Lib.hid ((HNY.out.1.block _ (heap_lt HX.out)).trans HX.out)
    have HY := Lib.hid HNY.out.2
    have CS := Lib.hid (rsame_any (w3.alloc (.cells #[.int .i64 k0, .string smat, .string snm, .slice none 0 0, .int .i64 sc, .int .i64 pc, .slice B1 mv.length bc1, .slice B2 pv.length bc2, .string stx] 27)) (fun _ => True) (fun _ => True) k0 sc pc mat nm tx mv pv A1 A2 B1 B2 ac1 ac2 bc1 bc2 HG.out.1 HG.out.2.1 HG.out.2.2.1 HG.out.2.2.2
      (HP1.out.keep keeps_tm (fun j _ hl => ⟨trivial, HNY.out.1.block j hl⟩) HNY.out.1.size) (HP2.out.keep keeps_tm (fun j _ hl => ⟨trivial, HNY.out.1.block j hl⟩) HNY.out.1.size) (HQ1.out.keep keeps_tm (fun j _ hl => ⟨trivial, HNY.out.1.block j hl⟩) HNY.out.1.size) (HQ2.out.keep keeps_tm (fun j _ hl => ⟨trivial, HNY.out.1.block j hl⟩) HNY.out.1.size))
    rw [HE3.out.1, HE3.out.2.1, HE3.out.2.2] at CS
    have m := cell_blk HX.out
    have m0 := m 0
    have m1 := m 1
    have m2 := m 2
    have m3 := m 3
    have m4 := m 4
    have m5 := m 5
    have m6 := m 6
    have m7 := m 7
    have m8 := m 8
    clear m
    have n := cell_blk HY.out
    have n0 := n 0
    have n1 := n 1
    have n2 := n 2
    have n3 := n 3
    have n4 := n 4
    have n5 := n 5
    have n6 := n 6
    have n7 := n 7
    have n8 := n 8
    clear n
    simp at m0 m1 m2 m3 m4 m5 m6 m7 m8 n0 n1 n2 n3 n4 n5 n6 n7 n8
    go_wp2_with fail
    clear m0 n0 m1 n1 m2 n2 m3 n3 m4 n4 m5 n5 m6 n6 m7 n7 m8 n8
    generalize w3.alloc (.cells #[.int .i64 k0, .string smat, .string snm, .slice none 0 0, .int .i64 sc, .int .i64 pc, .slice B1 mv.length bc1, .slice B2 pv.length bc2, .string stx] 27) = w4 at *
    refine CS.out.mono ?_
    rintro e w5 ⟨rfl, hb⟩
    replace HB := Lib.hid (HB.out.trans (hb.mono HB.out.size))
    clear hb
    go_wp2_with fail
    refine (CA.out _ HB.out).mono ?_
    rintro e w6 ⟨rfl, hb⟩
    replace HB := Lib.hid (HB.out.trans (hb.mono HB.out.size))
    clear hb
    go_wp2_with fail
    go_ret
    exact ⟨rfl, HB.out⟩
end Go.Proofs.YtmplpbdldcokjaaGreatDoor
