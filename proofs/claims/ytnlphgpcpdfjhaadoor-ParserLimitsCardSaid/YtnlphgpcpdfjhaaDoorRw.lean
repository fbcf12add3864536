/- The walk of (*parser.reader).rule. -/
import Derived.Test.YtnlphgpcpdfjhaaDoorRu
namespace Go.Proofs.YtnlphgpcpdfjhaaDoor
open Go Go.RowKit
set_option linter.unusedSimpArgs false

theorem infoLit2 : (Tryd.prog.info? 46).map (fun i => (i.zero, i.size, i.bytes)) = some (some (.agg #[.bool false, .string ⟨#[]⟩, .slice none 0 0]), 3, 48) := infoLit

set_option maxHeartbeats 8000000 in
set_option maxRecDepth 100000 in
theorem rule_any (w : World) (rb tb cap : Nat) (toks ts : List Tok) (i : Nat) (h : Rd w rb tb cap toks ts i) :
    Calls Tryd.prog 33 #[.pointer (some ⟨rb, 0, none⟩)] w (RPost RuV w rb tb cap toks (ruleF ts)) := by
  have HR := Lib.hid h
  have hrw := h.rlt
  have htw := h.tk.1
  clear h
  obtain ⟨i0, hi0, hz0, hz1, hz2⟩ := info_parts infoLit2
  have HI0 := Lib.hid hi0; have HZ0 := Lib.hid hz0; have HZ1 := Lib.hid hz1; have HZ2 := Lib.hid hz2
  clear hi0 hz0 hz1 hz2
  have HR1 := Lib.hid (HR.out.below (w' := w.alloc (.cells #[.string ⟨#[]⟩, .slice none 0 0, .slice none 0 0] 34)) ((Below.refl _ _).alloc (Nat.le_refl _) _))
  have HRES := Lib.hid (heap_alloc_new w (.cells #[.string ⟨#[]⟩, .slice none 0 0, .slice none 0 0] 34))
  have HG := Lib.hid (World.grownBy_alloc w (.cells #[.string ⟨#[]⟩, .slice none 0 0, .slice none 0 0] 34) (some rb))
  go_enter Tryd.func33, Tryd.ntmps33
  go_wp2_with fail
  generalize w.alloc (.cells #[.string ⟨#[]⟩, .slice none 0 0, .slice none 0 0] 34) = w0 at *
  (with_reducible refine (atom_any w0 rb tb cap toks ts i HR1.out).mono ?_)
  cases hat : atomF ts with
  | err p e =>
    have HT := Lib.hid (ruleF_err hat)
    clear hat
    rintro e' w3 ⟨rfl, hg⟩
    refine ⟨rfl, ?_⟩
    unfold RPost
    rw [HT.out]
    exact ⟨rfl, grown_trans HG.out hg⟩
  | ok t r =>
    have HT := Lib.hid (ruleF_ok hat)
    clear hat
    rintro e' w1 ⟨x, rfl, htm, hmv⟩
    obtain ⟨nm, A0, cp0, l0, rfl, rfl⟩ := htm.form
    have hsz0 := heap_lt HRES.out
    have hsz : w.heap.size < w1.heap.size := by have := hmv.2.size; omega
    have HST : Hid (RSt w (w1.alloc (.cells #[.string (bs nm), .slice A0 l0.length cp0, .slice none 0 0] 34)) rb tb cap toks w.heap.size w1.heap.size (.string (bs nm)) (.slice A0 l0.length cp0) (.mk nm l0) (.slice none 0 0) [] r) := by
      obtain ⟨⟨i1, hr1⟩, hg1⟩ := hmv
      have hb : Below w1.heap.size w1 (w1.alloc (.cells #[.string (bs nm), .slice A0 l0.length cp0, .slice none 0 0] 34)) := (Below.refl _ _).alloc (Nat.le_refl _) _
      refine ⟨⟨i1, hr1.below hb⟩, Nat.le_refl _, hsz, hrw, htw, heap_alloc_new _ _, ⟨_, _, _, (hb.block _ hsz).trans ((hg1.block _ hsz0 (by simp; omega)).trans HRES.out)⟩, ?_, OwnL.nil _ _ _ _ _, grown_trans (grown_trans HG.out hg1) (grown_of_below hb _)⟩
      exact htm.keep (fun b hb' hlt => ⟨⟨by omega, hlt, by omega⟩, hb.block b hlt⟩) hb.size
    clear htm hmv HRES HR1 HG
    go_wp2_with fail
    generalize w1.alloc (.cells #[.string (bs nm), .slice A0 l0.length cp0, .slice none 0 0] 34) = w2 at *
    generalize w1.heap.size = bo at *
    clear w1
    obtain ⟨i2, hr2⟩ := HST.out.rd
    have HAC := Lib.hid (accept_any hr2 [105, 102])
    clear hr2
    cases hif : isT r [105, 102] with
    | false =>
      rw [hif] at HAC HT
      simp only [Bool.false_eq_true, if_false] at HT
      clear hif
      refine HAC.out.mono ?_
      rintro e w3 ⟨rfl, hm⟩
      have HZ := Lib.hid (HST.out.move (ts' := r) hm)
      clear hm HAC HST
      go_wp2_with fail
      -- the point, and the result
      obtain ⟨iz, hrz⟩ := HZ.out.rd
      have HXP := Lib.hid (expect_any hrz [46])
      clear hrz
      cases hdot : isT r [46] with
      | true =>
        rw [hdot] at HXP
        go_wp2_with fail
        refine HXP.out.mono ?_
        rintro e w9 h9
        obtain ⟨rfl, hm9⟩ := h9
        have HS9 := Lib.hid (HZ.out.move (ts' := r.tail) hm9)
        have HDOT := Lib.hid hdot
        clear hm9 HXP hdot
        obtain ⟨z0, z1, z2, _, lb, lr⟩ := HS9.out.facts
        obtain ⟨d0, d1, d2, e0, e1, e2, g0, g1, g2⟩ := HS9.out.facts2
        have hbr : w.heap.size ≠ bo := by have := HS9.out.ltr; omega
        go_wp2_with fail
        refine bodyPost_ret (v := .agg #[.string (bs nm), .slice A0 l0.length cp0, .slice none 0 0]) (by simp [results, Tryd.results33, go_sem, e0, e1, e2]) rfl ?_
        unfold RPost
        rw [HT.out]
        unfold finR
        simp only []
        rw [if_pos HDOT.out]
        exact ⟨[.string (bs nm), .slice A0 l0.length cp0, .slice none 0 0], rfl, HS9.out.fin _ _ _⟩
      | false =>
        rw [hdot] at HXP
        go_wp2_with fail
        refine HXP.out.mono ?_
        rintro e w9 h9
        obtain ⟨rfl, hg9⟩ := h9
        refine ⟨rfl, ?_⟩
        unfold RPost
        rw [HT.out]
        unfold finR
        simp only []
        rw [if_neg (by rw [hdot]; exact Bool.false_ne_true)]
        exact ⟨rfl, grown_trans HZ.out.gr hg9⟩
    | true =>
      rw [hif] at HAC HT
      simp only [if_true] at HT
      clear hif
      refine HAC.out.mono ?_
      rintro e w3 ⟨rfl, hm⟩
      have HS := Lib.hid (HST.out.move (ts' := r.tail) hm)
      clear hm HAC HST
      obtain ⟨_, _, cb2, fb2, lb, lr⟩ := HS.out.facts
      obtain ⟨i3, hr3⟩ := HS.out.rd
      have HRD := Lib.hid hr3
      clear hr3
      go_wp2_with fail
      have hS : w3.cell? ⟨bo, 2, none⟩ = some (.slice none 0 0) := cb2
      refine region_mix (fun x => x.cell? ⟨bo, 2, none⟩ = some (.slice none 0 0)) [0, 1, 2] [3, 4, 5, 6, 7] (by kernel_rfl) (by kernel_rfl) (by intro c a d v w h; cases d <;> exact h) hS ?_
      simp only [picks, List.filterMap_cons, List.filterMap_nil, List.getElem?_toArray, List.getElem?_cons_succ, List.getElem?_cons_zero]
      repeat (refine rd_next _ (by rfl) (by intro w' hS'; go_simp; try with_reducible rfl) ?_; simp only [Act.put, List.setIfInBounds_toArray, List.set_cons_zero, List.set_cons_succ])
      refine rd_done ?_
      refine eff_next (by rfl) (fun K hK => ?_)
      go_simp
      clear hS
      have HSW := Lib.hid (HS.out.move (w' := w3.drew) (ts' := r.tail) ⟨⟨_, HRD.out.below (Below.refl _ _).drew⟩, grown_of_below (Below.refl _ _).drew _⟩)
      have HRW := Lib.hid (HRD.out.below (w' := w3.drew) (Below.refl _ _).drew)
      cases ht : litF 0 r.tail with
      | err p e =>
        have HCE := Lib.hid ht
        clear ht
        (refine (lit_any w3.drew rb tb cap toks r.tail _ HRW.out 0).mono ?_)
        rw [HCE.out]
        rintro e' w4 ⟨rfl, hg⟩
        refine ⟨rfl, ?_⟩
        unfold RPost
        rw [HT.out, bodyF_err (n := 9) (acc := []) (by omega) HCE.out]
        unfold finR
        exact ⟨rfl, grown_trans HSW.out.gr hg⟩
      | ok t rest =>
        have HCE := Lib.hid ht
        clear ht
        (refine (lit_any w3.drew rb tb cap toks r.tail _ HRW.out 0).mono ?_)
        rw [HCE.out]
        rintro e' w4 ⟨x, rfl, htm, hmv⟩
        have hS4 := HSW.out.move hmv
        obtain ⟨xs, hx1, hx2⟩ := hS4.app htm lb (fun k hk => by have h3 := HSW.out.own; obtain ⟨_, _, _, h3, _⟩ := h3; exact (h3.lt k hk).2)
        obtain ⟨_, _, cb2', fb2', lb', lr'⟩ := hS4.facts
        obtain ⟨bb, nm', A', cp', l', rfl, rfl⟩ := htm.form
        have HX1 := Lib.hid hx1
        have HX2 := Lib.hid hx2
        clear hx1 hx2 hS4 htm hmv
        refine hK _ _ (fun _ => cb2') ?_
        clear hK K
        try simp only [Act.put, List.setIfInBounds_toArray, List.set_cons_zero, List.set_cons_succ]
        refine eff_next (by rfl) (fun K hK => ?_)
        go_simp
        refine hK _ _ (fun _ => (World.cell?_alloc_lt w4 _ ⟨bo, 2, none⟩ lb').trans cb2') ?_
        clear hK K
        try simp only [Act.put, List.setIfInBounds_toArray, List.set_cons_zero, List.set_cons_succ]
        refine eff_next (by rfl) (fun K hK => ?_)
        have hrow : bo + 1 ≤ w4.heap.size := lb'
        (with_reducible refine wp_append_lies _ (.tmp 10) (.tmp 13) _ rfl (bo + 1) 46 i0 _ 3 48 Tryd.underlying32 HI0.out HZ0.out HZ1.out HZ2.out rfl (by omega) (.slice none 0 0) ([] : List Li).length xs rfl (HX1.out.alloc _) ⟨w4.heap.size, 0, none⟩ 1 1 [.bool bb, .string (bs nm'), .slice A' l'.length cp'] rfl rfl (World.news_of_block (cs := #[.bool bb, .string (bs nm'), .slice A' l'.length cp']) (t := 46) (fr := (0, 0)) (heap_alloc_new w4 _)) (by simp [Value.oneCell']) (by omega) (by have hnl : ([] : List Li).length = 0 := rfl; unfold maxLen; omega) (by have hnl : ([] : List Li).length = 0 := rfl; omega) (by simp; omega) (w4.heap.size + 1) (by simp) ?_)
        intro g cp6 w6 hown6 hgrow hat hlt6
        have hC := HX2.out g cp6 w6 _ hown6 hgrow hat
        have hc6 := hC.2.1
        have hf6 := hC.2.2.1
        have hl6 := hC.2.2.2
        have HC6 := Lib.hid hC.1
        clear hC hown6 hgrow hat hlt6
        refine hK _ _ (fun _ => hc6) ?_
        clear hK K
        try simp only [Act.put, List.setIfInBounds_toArray, List.set_cons_zero, List.set_cons_succ]
        refine eff_next (by rfl) (fun K hK => ?_)
        go_simp
        refine hK _ _ (fun _ => hc6) ?_
        clear hK K
        try simp only [Act.put, List.setIfInBounds_toArray, List.set_cons_zero, List.set_cons_succ]
        refine eff_next (by rfl) (fun K hK => ?_)
        go_simp
        refine hK _ _ (fun h => absurd rfl h) ?_
        clear hK K
        try simp only [Act.put, List.setIfInBounds_toArray, List.set_cons_zero, List.set_cons_succ]
        refine eff_done ?_
        generalize w6.setCell ⟨bo, 2, none⟩ (.slice (some ⟨g, 0, none⟩) (([] : List Li).length + 1) cp6) = w7 at HC6
        clear cb2 fb2 lb lr cb2' fb2' lb' lr' hc6 hf6 hl6 hrow HSW HRW HX1 HX2
        clear HS HRD
        have HBK := Lib.hid (bodyF_ok (n := 9) (acc := []) (by omega) HCE.out)
        clear HCE
        go_wp2_with fail
        go_loopg [] 8 (fun n wr => ∃ (v : Value) (acc : List Li) (cur : List Tok), Hid (acc.length + n = 9 ∧ acc.length ≤ 8 ∧ RSt w wr rb tb cap toks w.heap.size bo (.string (bs nm)) (.slice A0 l0.length cp0) (.mk nm l0) v acc cur ∧ bodyF 9 [] r.tail = bodyK n acc cur))
        case atStart => exact ⟨_, [⟨bb, .mk nm' l'⟩], rest, rfl, by simp, HC6.out, HBK.out⟩
        case round =>
          obtain ⟨v, acc, cur, HI⟩ := hrel
          clear HC6 HBK
          obtain ⟨A, cp, rfl⟩ := HI.out.2.2.1.own.len
          obtain ⟨i3, hrd⟩ := HI.out.2.2.1.rd
          have HRD := Lib.hid hrd
          have ha4 : (acc.length : Int) ≤ 8 := by have := HI.out.2.1; omega
          have hn0 : 0 < gk := by have := HI.out.1; have := HI.out.2.1; omega
          have HAC := Lib.hid (accept_any hrd [97, 110, 100])
          clear hrd
          cases hand : isT cur [97, 110, 100] with
          | false =>
            rw [hand] at HAC
            have HB : Hid (finR (.mk nm l0) (bodyF 9 [] r.tail) = finR (.mk nm l0) (.ok acc cur)) := by
              unfold Hid; rw [HI.out.2.2.2]; unfold bodyK; rw [hand]; rfl
            clear hand
            go_wp2_with fail
            refine HAC.out.mono ?_
            rintro e w8 ⟨rfl, hm⟩
            have HZ := Lib.hid (HI.out.2.2.1.move (ts' := cur) hm)
            clear hm HAC HRD
            go_wp2_with fail
            -- the point, and the result
            obtain ⟨iz, hrz⟩ := HZ.out.rd
            have HXP := Lib.hid (expect_any hrz [46])
            clear hrz
            cases hdot : isT cur [46] with
            | true =>
              rw [hdot] at HXP
              go_wp2_with fail
              refine HXP.out.mono ?_
              rintro e w9 h9
              obtain ⟨rfl, hm9⟩ := h9
              have HS9 := Lib.hid (HZ.out.move (ts' := cur.tail) hm9)
              have HDOT := Lib.hid hdot
              clear hm9 HXP hdot
              obtain ⟨z0, z1, z2, _, lb, lr⟩ := HS9.out.facts
              obtain ⟨d0, d1, d2, e0, e1, e2, g0, g1, g2⟩ := HS9.out.facts2
              have hbr : w.heap.size ≠ bo := by have := HS9.out.ltr; omega
              go_wp2_with fail
              refine bodyPost_ret (v := .agg #[.string (bs nm), .slice A0 l0.length cp0, .slice A acc.length cp]) (by simp [results, Tryd.results33, go_sem, e0, e1, e2]) rfl ?_
              unfold RPost
              rw [HT.out, HB.out]
              unfold finR
              simp only []
              rw [if_pos HDOT.out]
              exact ⟨[.string (bs nm), .slice A0 l0.length cp0, .slice A acc.length cp], rfl, HS9.out.fin _ _ _⟩
            | false =>
              rw [hdot] at HXP
              go_wp2_with fail
              refine HXP.out.mono ?_
              rintro e w9 h9
              obtain ⟨rfl, hg9⟩ := h9
              refine ⟨rfl, ?_⟩
              unfold RPost
              rw [HT.out, HB.out]
              unfold finR
              simp only []
              rw [if_neg (by rw [hdot]; exact Bool.false_ne_true)]
              exact ⟨rfl, grown_trans HZ.out.gr hg9⟩
          | true =>
            rw [hand] at HAC
            have HB0 : Hid (bodyF 9 [] r.tail = bodyF gk acc cur.tail) := by
              unfold Hid; rw [HI.out.2.2.2]; unfold bodyK; rw [hand]; rfl
            clear hand
            go_wp2_with fail
            refine HAC.out.mono ?_
            rintro e w8 ⟨rfl, hm⟩
            have HS8 := Lib.hid (HI.out.2.2.1.move (ts' := cur.tail) hm)
            clear hm HAC HRD
            obtain ⟨_, _, cb2, fb2, lb, lr⟩ := HS8.out.facts
            obtain ⟨i8, hr8⟩ := HS8.out.rd
            have HRD := Lib.hid hr8
            clear hr8
            go_wp2_with fail
            have hS : w8.cell? ⟨bo, 2, none⟩ = some (.slice A acc.length cp) := cb2
            refine region_mix (fun x => x.cell? ⟨bo, 2, none⟩ = some (.slice A acc.length cp)) [0, 1, 2, 3, 4, 5] [6, 7, 8, 9, 10] (by kernel_rfl) (by kernel_rfl) (by intro c a d v w h; cases d <;> exact h) hS ?_
            simp only [picks, List.filterMap_cons, List.filterMap_nil, List.getElem?_toArray, List.getElem?_cons_succ, List.getElem?_cons_zero]
            repeat (refine rd_next _ (by rfl) (by intro w' hS'; go_simp; try with_reducible rfl) ?_; simp only [Act.put, List.setIfInBounds_toArray, List.set_cons_zero, List.set_cons_succ])
            refine rd_done ?_
            refine eff_next (by rfl) (fun K hK => ?_)
            go_simp
            clear hS
            have HSW := Lib.hid (HS8.out.move (w' := w8.drew) (ts' := cur.tail) ⟨⟨_, HRD.out.below (Below.refl _ _).drew⟩, grown_of_below (Below.refl _ _).drew _⟩)
            have HRW := Lib.hid (HRD.out.below (w' := w8.drew) (Below.refl _ _).drew)
            cases ht : litF acc.length cur.tail with
            | err p e =>
              have HCE := Lib.hid ht
              clear ht
              (refine (lit_any w8.drew rb tb cap toks cur.tail _ HRW.out acc.length).mono ?_)
              rw [HCE.out]
              rintro e' w4 ⟨rfl, hg⟩
              refine ⟨rfl, ?_⟩
              unfold RPost
              rw [HT.out, HB0.out, bodyF_err hn0 HCE.out]
              unfold finR
              exact ⟨rfl, grown_trans HSW.out.gr hg⟩
            | ok t rest =>
              have HCE := Lib.hid ht
              clear ht
              (refine (lit_any w8.drew rb tb cap toks cur.tail _ HRW.out acc.length).mono ?_)
              rw [HCE.out]
              rintro e' w4 ⟨x, rfl, htm, hmv⟩
              have hS4 := HSW.out.move hmv
              obtain ⟨xs, hx1, hx2⟩ := hS4.app htm lb (fun k hk => by have h3 := HSW.out.own; obtain ⟨_, _, _, h3, _⟩ := h3; exact (h3.lt k hk).2)
              obtain ⟨_, _, cb2', fb2', lb', lr'⟩ := hS4.facts
              obtain ⟨bb, nm', A', cp', l', rfl, rfl⟩ := htm.form
              have HX1 := Lib.hid hx1
              have HX2 := Lib.hid hx2
              clear hx1 hx2 hS4 htm hmv
              refine hK _ _ (fun _ => cb2') ?_
              clear hK K
              try simp only [Act.put, List.setIfInBounds_toArray, List.set_cons_zero, List.set_cons_succ]
              refine eff_next (by rfl) (fun K hK => ?_)
              go_simp
              refine hK _ _ (fun _ => (World.cell?_alloc_lt w4 _ ⟨bo, 2, none⟩ lb').trans cb2') ?_
              clear hK K
              try simp only [Act.put, List.setIfInBounds_toArray, List.set_cons_zero, List.set_cons_succ]
              refine eff_next (by rfl) (fun K hK => ?_)
              have hrow : bo + 1 ≤ w4.heap.size := lb'
              (with_reducible refine wp_append_lies _ (.tmp 19) (.tmp 25) _ rfl (bo + 1) 46 i0 _ 3 48 Tryd.underlying32 HI0.out HZ0.out HZ1.out HZ2.out rfl (by omega) (.slice A acc.length cp) acc.length xs rfl (HX1.out.alloc _) ⟨w4.heap.size, 0, none⟩ 1 1 [.bool bb, .string (bs nm'), .slice A' l'.length cp'] rfl rfl (World.news_of_block (cs := #[.bool bb, .string (bs nm'), .slice A' l'.length cp']) (t := 46) (fr := (0, 0)) (heap_alloc_new w4 _)) (by simp [Value.oneCell']) (by omega) (by have hnl : ([] : List Li).length = 0 := rfl; unfold maxLen; omega) (by have hnl : ([] : List Li).length = 0 := rfl; omega) (by simp; omega) (w4.heap.size + 1) (by simp) ?_)
              intro g cp6 w6 hown6 hgrow hat hlt6
              have hC := HX2.out g cp6 w6 _ hown6 hgrow hat
              have hc6 := hC.2.1
              have hf6 := hC.2.2.1
              have hl6 := hC.2.2.2
              have HC6 := Lib.hid hC.1
              clear hC hown6 hgrow hat hlt6
              refine hK _ _ (fun _ => hc6) ?_
              clear hK K
              try simp only [Act.put, List.setIfInBounds_toArray, List.set_cons_zero, List.set_cons_succ]
              refine eff_next (by rfl) (fun K hK => ?_)
              go_simp
              refine hK _ _ (fun _ => hc6) ?_
              clear hK K
              try simp only [Act.put, List.setIfInBounds_toArray, List.set_cons_zero, List.set_cons_succ]
              refine eff_next (by rfl) (fun K hK => ?_)
              go_simp
              refine hK _ _ (fun h => absurd rfl h) ?_
              clear hK K
              try simp only [Act.put, List.setIfInBounds_toArray, List.set_cons_zero, List.set_cons_succ]
              refine eff_done ?_
              generalize w6.setCell ⟨bo, 2, none⟩ (.slice (some ⟨g, 0, none⟩) (acc.length + 1) cp6) = w7 at HC6
              clear cb2 fb2 lb lr cb2' fb2' lb' lr' hc6 hf6 hl6 hrow HSW HRW HX1 HX2
              have hlen : acc.length ≠ 8 := fun e8 => by
                obtain ⟨p, e, he⟩ := litF_8 cur.tail
                have := HCE.out
                rw [e8, he] at this
                cases this
              have HBK := Lib.hid (bodyF_ok hn0 HCE.out)
              clear HCE
              go_wp2_with fail
              go_roundg (gk - 1)
              case measure => omega
              case rel =>
                refine ⟨_, acc ++ [⟨bb, .mk nm' l'⟩], rest, ?_, ?_, HC6.out, ?_⟩
                · have := HI.out.1; rw [List.length_append]; simp; omega
                · have := HI.out.2.1; rw [List.length_append]; simp; omega
                · rw [HB0.out, HBK.out]
end Go.Proofs.YtnlphgpcpdfjhaaDoor
