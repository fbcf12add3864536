/- The walks of rest and term of the reference's reader. -/
import Derived.Test.YtmplpbdldcokjaaGreatDoorXr
namespace Go.Proofs.YtmplpbdldcokjaaGreatDoor
open Go Go.RowKit
set_option linter.unusedSimpArgs false

def restF (d : Nat) (ts : List Tok) : PR Tm := if (hd ts).kind == 1 then compF (termF d) ts else .ok (.mk (hd ts).text []) ts.tail

set_option maxHeartbeats 8000000 in
set_option maxRecDepth 100000 in
theorem rrest_of (d : Nat) (hd4 : d ≤ 4) (IH : ∀ (w : World) (rb tb cap : Nat) (toks ts : List Tok) (i : Nat), RR w rb tb cap toks ts i 0 0 → ∀ lev : Int, lev + d = 5 →
      Calls Tryz.prog 140 #[.pointer (some ⟨rb, 0, none⟩), .int .i64 lev] w (RTPost w rb tb cap toks (termF d ts)))
    (w : World) (rb tb cap : Nat) (toks ts : List Tok) (i : Nat) (h : RR w rb tb cap toks ts i 0 0) (hk : (hd ts).kind ≠ 0) (lev : Int) (hlev : lev + d = 4) :
    Calls Tryz.prog 154 #[.pointer (some ⟨rb, 0, none⟩), .int .i64 lev] w (RTPost w rb tb cap toks (restF d ts)) := by
  obtain ⟨i0, hi0, hz0, hz1, hz2⟩ := info_parts infoTerm
  have HI0 := Lib.hid hi0; have HZ0 := Lib.hid hz0; have HZ1 := Lib.hid hz1; have HZ2 := Lib.hid hz2
  clear hi0 hz0 hz1 hz2
  have HR := Lib.hid h
  have hsm : (i : Int) < 20000 := by have := h.lt; have := h.big; omega
  have hrw := h.rlt
  have htw := h.tk.1
  have HK := Lib.hid hk
  have HLV := Lib.hid hlev
  have hl1 : (0 : Int) ≤ lev := by omega
  have hl2 : lev ≤ 4 := by omega
  have HR0 := Lib.hid (HR.out.below (w' := w.alloc (.cells #[.string ⟨#[]⟩, .slice none 0 0] 25)) ((Below.refl _ _).alloc (Nat.le_refl _) _))
  have HRES := Lib.hid (heap_alloc_new w (.cells #[.string ⟨#[]⟩, .slice none 0 0] 25))
  have HG := Lib.hid (World.grownBy_alloc w (.cells #[.string ⟨#[]⟩, .slice none 0 0] 25) (some rb))
  clear h hk hlev hd4
  go_enter Tryz.func154, Tryz.ntmps154
  go_wp2_with fail
  generalize w.alloc (.cells #[.string ⟨#[]⟩, .slice none 0 0] 25) = w0 at *
  have hi : (i : Int) < (toks.length : Int) := by have := HR0.out.lt; omega
  have hi0' : (0 : Int) ≤ (i : Int) := by omega
  obtain ⟨c0, c1, _, c3, f1, _, _⟩ := HR0.out.facts
  obtain ⟨t0, t1, _⟩ := HR0.out.tk.2 i _ HR0.out.hd
  have hrl := HR0.out.rlt
  have htl := HR0.out.tk.1
  have hr4 := heap_lt HRES.out
  go_region
  have HST : Hid (RCt w (w0.alloc (.cells #[.string (bs (hd ts).text), .slice none 0 0] 25)).drew rb tb cap toks w.heap.size w0.heap.size (hd ts).text (.slice none 0 0) [] ts) := by
    have hb : Below w0.heap.size w0 (w0.alloc (.cells #[.string (bs (hd ts).text), .slice none 0 0] 25)).drew := ((Below.refl _ _).alloc (Nat.le_refl _) _).drew
    exact ⟨⟨i, HR0.out.below hb⟩, Nat.le_refl _, hr4, hrw, htw, heap_alloc_new w0 _, ⟨_, _, (hb.block _ hr4).trans HRES.out⟩, OwnL.nil _ _ _ _ _, grown_trans HG.out (grown_of_below hb _)⟩
  have HR1 := Lib.hid (HR0.out.below (w' := (w0.alloc (.cells #[.string (bs (hd ts).text), .slice none 0 0] 25)).drew) ((Below.refl _ _).alloc (Nat.le_refl _) _).drew)
  clear c0 c1 c3 f1 t0 t1 HR0 HRES HG HR hrl htl
  generalize (w0.alloc (.cells #[.string (bs (hd ts).text), .slice none 0 0] 25)).drew = w1 at *
  generalize w0.heap.size = bo at *
  obtain ⟨c0, c1, _, c3, f1, _, _⟩ := HR1.out.facts
  obtain ⟨t0, t1, _⟩ := HR1.out.tk.2 i _ HR1.out.hd
  cases k1 : (hd ts).kind == 1 with
  | false =>
    have HT : Hid (restF d ts = .ok (.mk (hd ts).text []) ts.tail) := by unfold Hid restF; rw [k1]; rfl
    have HM : Hid (RMoved w1 rb tb cap toks ts.tail (w1.drew.setCell ⟨rb, 1, none⟩ (.int .i64 (i + 1 : Nat)))) := ⟨⟨_, (HR1.out.below (Below.refl _ _).drew).step HK.out⟩, grown_trans (grown_of_below (Below.refl _ _).drew _) (grown_set _ _ _ _)⟩
    have HST2 := Lib.hid (HST.out.move HM.out)
    generalize hkd : (hd ts).kind = kd at *
    have HKD := Lib.hid hkd
    clear hkd
    have hbr := Ne.symm (Nat.ne_of_lt HST.out.ltr)
    have hrbo : rb ≠ bo := by have := HST.out.ltr; omega
    obtain ⟨b0, b1, bf, bl, brl⟩ := HST.out.facts
    obtain ⟨u0, u1, v0, v1, g0, g1⟩ := HST.out.facts4
    have hrr : rb ≠ w.heap.size := by omega
    go_wp2_with fail
    go_region
    go_wp2_with fail
    rw [show ((i : Int) + 1) = ((i + 1 : Nat) : Int) from by omega]
    refine bodyPost_ret (v := .agg #[.string (bs (hd ts).text), .slice none 0 0]) (by simp [results, Tryz.results154, go_sem, v0, v1, hrr, Ne.symm hrr]) rfl ?_
    unfold RTPost
    rw [HT.out]
    exact ⟨[.string (bs (hd ts).text), .slice none 0 0], rfl, HST2.out.fin _ _⟩
  | true =>
    have HT : Hid (restF d ts = compF (termF d) ts) := by unfold Hid restF; rw [k1]; rfl
    have HM : Hid (RMoved w1 rb tb cap toks ts.tail (w1.drew.setCell ⟨rb, 1, none⟩ (.int .i64 (i + 1 : Nat)))) := ⟨⟨_, (HR1.out.below (Below.refl _ _).drew).step HK.out⟩, grown_trans (grown_of_below (Below.refl _ _).drew _) (grown_set _ _ _ _)⟩
    have HST2 := Lib.hid (HST.out.move HM.out)
    generalize hkd : (hd ts).kind = kd at *
    have HKD := Lib.hid hkd
    clear hkd
    go_wp2_with fail
    go_region
    go_wp2_with fail
    rw [show ((i : Int) + 1) = ((i + 1 : Nat) : Int) from by omega]
    have HS2 : Hid (RCt w (w1.setCell ⟨rb, 1, none⟩ (.int .i64 (i + 1 : Nat))).drew rb tb cap toks w.heap.size bo (hd ts).text (.slice none 0 0) [] ts.tail) := HST2.out
    clear HST HST2 HM HR1 c0 c1 c3 f1 t0 t1
    generalize (w1.setCell ⟨rb, 1, none⟩ (.int .i64 (i + 1 : Nat))).drew = w2 at *
    obtain ⟨i2, hr2⟩ := HS2.out.rd
    have HI := Lib.hid (ris_any hr2 [40])
    have HR2 := Lib.hid hr2
    clear hr2 k1
    cases hp : isT ts.tail [40] with
    | false =>
      rw [hp] at HI
      have HC : Hid (compF (termF d) ts = .ok (.mk (hd ts).text []) ts.tail) := by unfold Hid compF; rw [hp]; rfl
      clear hp
      refine HI.out.mono ?_
      rintro e w3 ⟨rfl, hb3⟩
      have HS := Lib.hid (HS2.out.move (ts' := ts.tail) ⟨⟨_, HR2.out.below hb3⟩, grown_of_below hb3 _⟩)
      clear hb3 HI
      obtain ⟨cb0, cb1, _, lb, lr⟩ := HS.out.facts
      obtain ⟨u0, u1, cr0, cr1, fr0, fr1⟩ := HS.out.facts4
      have hbr : w.heap.size ≠ bo := by omega
      go_wp2_with fail
      refine bodyPost_ret (v := .agg #[.string (bs (hd ts).text), .slice none 0 0]) (by simp [results, Tryz.results154, go_sem, cr0, cr1]) rfl ?_
      unfold RTPost
      rw [HT.out, HC.out]
      exact ⟨[.string (bs (hd ts).text), .slice none 0 0], rfl, HS.out.fin _ _⟩
    | true =>
      rw [hp] at HI
      have HPK := Lib.hid (isT_kind hp)
      have HC : Hid (compF (termF d) ts = match argsF (termF d) 5 [] ts.tail.tail with | .err p e => .err p e | .ok l ts' => .ok (.mk (hd ts).text l) ts') := by unfold Hid compF; rw [hp]; rfl
      clear hp
      refine HI.out.mono ?_
      rintro e w3 ⟨rfl, hb3⟩
      have HR3 := Lib.hid (HR2.out.below hb3)
      have HS3 := Lib.hid (HS2.out.move (ts' := ts.tail) ⟨⟨_, HR3.out⟩, grown_of_below hb3 _⟩)
      clear hb3 HI HR2 HS2
      have hsm3 : (i2 : Int) < 20000 := by have := HR3.out.lt; have := HR3.out.big; omega
      obtain ⟨c0, c1, _, c3, f1, _, _⟩ := HR3.out.facts
      go_wp2_with fail
      rw [show ((i2 : Int) + 1) = ((i2 + 1 : Nat) : Int) from by omega]
      have HS := Lib.hid (HS3.out.move (ts' := ts.tail.tail) (w' := w3.setCell ⟨rb, 1, none⟩ (.int .i64 (i2 + 1 : Nat))) ⟨⟨_, HR3.out.step HPK.out⟩, grown_set _ _ _ _⟩)
      clear HR3 HS3 c0 c1 c3 f1
      generalize w3.setCell ⟨rb, 1, none⟩ (.int .i64 (i2 + 1 : Nat)) = w4 at *
      go_wp2_with fail
      go_loopg [] 5 (fun n wr => Hid ((∃ (v : Value) (acc : List Tm) (cur : List Tok), acc.length + n = 5 ∧ acc.length ≤ 4 ∧ RCt w wr rb tb cap toks w.heap.size bo (hd ts).text v acc cur ∧ argsF (termF d) 5 [] ts.tail.tail = argsF (termF d) n acc cur) ∨
        (∃ (A1 : Option Addr) (n1 cp1 : Nat) (p : Nat) (x : Int), RCe w wr rb tb cap toks w.heap.size bo (.string (bs (hd ts).text)) (.slice A1 n1 cp1) p x ∧ argsF (termF d) 5 [] ts.tail.tail = .err p x)))
      case atStart => exact .inl ⟨_, [], _, rfl, by simp, HS.out, rfl⟩
      case round =>
        clear HS
        rcases hrel.out with ⟨v, acc, cur, hi1, hi2, hi3, hi4⟩ | ⟨A1, n1, cp1, p, x, he1, he2⟩
        rotate_left
        · -- an error stands
          have HE := Lib.hid he1
          have HQ := Lib.hid he2
          clear hrel he1 he2
          obtain ⟨tc, ic, hrc⟩ := HE.out.rd
          obtain ⟨_, _, _, k3, _, _, _⟩ := hrc.facts
          have hx0 : (x == 0) = false := beq_eq_false_iff_ne.2 HE.out.hx
          clear hrc
          go_wp2_with fail
          obtain ⟨tz, iz, hrz⟩ := HE.out.rd
          have HSK := Lib.hid (rskip_no hrz HE.out.hx [41])
          clear hrz
          go_wp2_with fail
          refine HSK.out.mono ?_
          rintro e w9 ⟨rfl, hb9⟩
          have HE9 := Lib.hid (HE.out.below hb9)
          clear hb9 HSK
          obtain ⟨z0, z1, zf, zl, zr, zn⟩ := HE9.out.facts
          obtain ⟨d0, d1, e0, e1, g0, g1⟩ := HE9.out.facts4
          go_wp2_with fail
          refine bodyPost_ret (v := .agg #[.string (bs (hd ts).text), .slice A1 n1 cp1]) (by simp [results, Tryz.results154, go_sem, e0, e1]) rfl ?_
          unfold RTPost
          rw [HT.out, HC.out, HQ.out]
          exact ⟨_, _, _, _, rfl, HE9.out.fin _ _⟩
        have HI := Lib.hid (And.intro hi1 (And.intro hi2 (And.intro hi3 hi4)))
        clear hrel hi1 hi2 hi3 hi4
        obtain ⟨A, cp, rfl⟩ := HI.out.2.2.1.own.len
        obtain ⟨i3, hrd⟩ := HI.out.2.2.1.rd
        have HRD := Lib.hid hrd
        obtain ⟨_, _, _, k3, _, _, _⟩ := hrd.facts
        clear hrd
        obtain ⟨cb0, cb1, fb1, lb, lr⟩ := HI.out.2.2.1.facts
        have ha4 : (acc.length : Int) ≤ 4 := by have := HI.out.2.1; omega
        have hn0 : 0 < gk := by have := HI.out.1; have := HI.out.2.1; omega
        have h4n : ((acc.length : Int) == 4) = (acc.length == 4) := by
          cases hh : acc.length == 4 with
          | true => rw [beq_iff_eq] at hh ⊢; omega
          | false => rw [beq_eq_false_iff_ne] at hh ⊢; omega
        cases h4 : (acc.length == 4)
        all_goals rw [h4] at h4n
        focus
          have H4' : Hid ((acc.length == 4 && begT cur) = false) := by unfold Hid; rw [h4]; rfl
          go_wp2_with fail
          have HSX := Lib.hid HI.out.2.2.1
          have HRX := Lib.hid HRD.out
          generalize wr = wx at *
        rotate_left
        focus
          have HBG := Lib.hid (rbegins_any HRD.out)
          go_wp2_with fail
          refine HBG.out.mono ?_
          rintro e wx ⟨rfl, hbx⟩
          have HSX := Lib.hid (HI.out.2.2.1.move (w' := wx) (ts' := cur) ⟨⟨_, HRD.out.below hbx⟩, grown_of_below hbx _⟩)
          have HRX := Lib.hid (HRD.out.below hbx)
          clear hbx HBG
          cases hbt : begT cur
          rotate_left
          focus
            have HCE := Lib.hid (argsF_full (tf := termF d) (acc := acc) hn0 (show (acc.length == 4 && begT cur) = true by rw [h4, hbt]; rfl))
            clear cb0 cb1 fb1 lb lr k3
            go_wp2_with fail
            refine (rfail_ok HRX.out 5 (by decide)).mono ?_
            rintro e w5 ⟨rfl, he5⟩
            have HE := Lib.hid (HSX.out.err he5)
            clear he5
            go_wp2_with fail
            obtain ⟨tz, iz, hrz⟩ := HE.out.rd
            have HSK := Lib.hid (rskip_no hrz HE.out.hx [41])
            clear hrz
            go_wp2_with fail
            refine HSK.out.mono ?_
            rintro e w9 ⟨rfl, hb9⟩
            have HE9 := Lib.hid (HE.out.below hb9)
            clear hb9 HSK
            obtain ⟨z0, z1, zf, zl, zr, zn⟩ := HE9.out.facts
            obtain ⟨d0, d1, e0, e1, g0, g1⟩ := HE9.out.facts4
            go_wp2_with fail
            refine bodyPost_ret (v := .agg #[.string (bs (hd ts).text), .slice A acc.length cp]) (by simp [results, Tryz.results154, go_sem, e0, e1]) rfl ?_
            unfold RTPost
            rw [HT.out, HC.out, HI.out.2.2.2, HCE.out]
            exact ⟨_, _, _, _, rfl, HE9.out.fin _ _⟩
          focus
            have H4' : Hid ((acc.length == 4 && begT cur) = false) := by unfold Hid; rw [hbt]; simp
            clear cb0 cb1 fb1 lb lr k3
            obtain ⟨cb0, cb1, fb1, lb, lr⟩ := HSX.out.facts
            obtain ⟨_, _, _, k3, _, _, _⟩ := HRX.out.facts
            go_wp2_with fail
        all_goals
          clear h4n
          obtain ⟨ix, hrx⟩ := HSX.out.rd
          have HRX' := Lib.hid hrx
          clear hrx HRX
          have hS : wx.cell? ⟨bo, 1, none⟩ = some (.slice A acc.length cp) := HSX.out.facts.2.1
          have hwl : IntKind.i64.wrap (lev + 1) = lev + 1 := IntWalk.i64_in _ (by omega)
          refine region_mix (fun x => x.cell? ⟨bo, 1, none⟩ = some (.slice A acc.length cp)) [0, 1, 2, 3, 4] [5, 6, 7, 8, 9] (by kernel_rfl) (by kernel_rfl) (by intro c a d v w h; cases d <;> exact h) hS ?_
          simp only [picks, List.filterMap_cons, List.filterMap_nil, List.getElem?_toArray, List.getElem?_cons_succ, List.getElem?_cons_zero]
          repeat (refine rd_next _ (by rfl) (by intro w' hS'; go_simp; try with_reducible rfl) ?_; simp only [Act.put, List.setIfInBounds_toArray, List.set_cons_zero, List.set_cons_succ])
          refine rd_done ?_
          refine eff_next (by rfl) (fun K hK => ?_)
          go_simp
          clear hwl hS
          have HRW := Lib.hid (HRX'.out.below (w' := wx.drew) (Below.refl _ _).drew)
          have HSW : Hid (RCt w wx.drew rb tb cap toks w.heap.size bo (hd ts).text (.slice A acc.length cp) acc cur) := HSX.out.move ⟨⟨_, HRW.out⟩, grown_of_below (Below.refl _ _).drew _⟩
          clear HSX HRX'
          (with_reducible refine (IH wx.drew rb tb cap toks cur ix HRW.out (lev + 1) (by have := HLV.out; omega)).mono ?_)
          cases ht : termF d cur with
          | err p e =>
            have HCE := Lib.hid (argsF_err (tf := termF d) (acc := acc) hn0 H4'.out ht)
            clear ht
            rintro e' w5 ⟨nm', A', n', cp', rfl, he5⟩
            have HEE := Lib.hid (HSW.out.err he5)
            have hown := HSW.out.own.keep keeps_tm he5.2.2 (fun k hk => by injection hk; have := HSW.out.ltr; have := HSW.out.le0; omega)
            obtain ⟨xs, hx1, _⟩ := hown.row
            have HX1 := Lib.hid hx1
            clear he5 hown hx1
            obtain ⟨_, cb1', _, lb', _, _⟩ := HEE.out.facts
            refine hK _ _ (fun _ => cb1') ?_
            clear hK K
            try simp only [Act.put, List.setIfInBounds_toArray, List.set_cons_zero, List.set_cons_succ]
            refine eff_next (by rfl) (fun K hK => ?_)
            go_simp
            refine hK _ _ (fun _ => (World.cell?_alloc_lt w5 _ ⟨bo, 1, none⟩ lb').trans cb1') ?_
            clear hK K
            try simp only [Act.put, List.setIfInBounds_toArray, List.set_cons_zero, List.set_cons_succ]
            refine eff_next (by rfl) (fun K hK => ?_)
            have hrow : bo + 1 ≤ w5.heap.size := lb'
            (with_reducible refine wp_append_lies _ (.tmp 71) (.tmp 76) _ rfl (bo + 1) 25 i0 _ 2 40 Tryz.underlying23 HI0.out HZ0.out HZ1.out HZ2.out rfl (by omega) (.slice A acc.length cp) acc.length xs rfl (HX1.out.alloc _) ⟨w5.heap.size, 0, none⟩ 1 1 [.string nm', .slice A' n' cp'] rfl rfl (World.news_of_block (cs := #[.string nm', .slice A' n' cp']) (t := 25) (fr := (0, 0)) (heap_alloc_new w5 _)) (by simp [Value.oneCell']) (by omega) (by unfold maxLen; omega) (by omega) (by simp; omega) (w5.heap.size + 1) (by simp) ?_)
            intro g cp6 w6 hown6 hgrow hat hlt6
            have hC := HEE.out.app HX1.out g cp6 (acc.length + 1) w6 _ hgrow
            have hc6 := hC.2.1
            have hf6 := hC.2.2.1
            have hl6 := hC.2.2.2
            have HC6 := Lib.hid hC.1
            clear hC hown6 hgrow hat hlt6
            refine hK _ _ (fun _ => hc6) ?_
            clear hK K
            try simp only [Act.put, List.setIfInBounds_toArray, List.set_cons_zero, List.set_cons_succ]
            refine eff_next (by rfl) (fun K hK => ?_)
            go_simp
            refine hK _ _ (fun _ => hc6) ?_
            clear hK K
            try simp only [Act.put, List.setIfInBounds_toArray, List.set_cons_zero, List.set_cons_succ]
            refine eff_next (by rfl) (fun K hK => ?_)
            go_simp
            refine hK _ _ (fun h => absurd rfl h) ?_
            clear hK K
            try simp only [Act.put, List.setIfInBounds_toArray, List.set_cons_zero, List.set_cons_succ]
            refine eff_done ?_
            generalize w6.setCell ⟨bo, 1, none⟩ (.slice (some ⟨g, 0, none⟩) (acc.length + 1) cp6) = w7 at HC6
            clear cb0 cb1 fb1 lb lr cb1' lb' hc6 hf6 hl6 hrow k3
            obtain ⟨t7, i7, hr7⟩ := HC6.out.rd
            have HIS := Lib.hid (ris_any hr7 [41])
            rw [show (e == 0 && isT t7 [41]) = false from by rw [beq_eq_false_iff_ne.2 HC6.out.hx]; rfl] at HIS
            clear hr7
            go_wp2_with fail
            refine HIS.out.mono ?_
            rintro e8 w8 ⟨rfl, hb8⟩
            have HC8 := Lib.hid (HC6.out.below hb8)
            clear hb8 HIS HC6
            obtain ⟨t8, i8, hr8⟩ := HC8.out.rd
            have HSK := Lib.hid (rskip_no hr8 HC8.out.hx [44])
            clear hr8
            go_wp2_with fail
            refine HSK.out.mono ?_
            rintro e9 w9 ⟨rfl, hb9⟩
            have HC9 := Lib.hid (HC8.out.below hb9)
            clear hb9 HSK HC8
            go_wp2_with fail
            go_roundg (gk - 1)
            case measure => omega
            case rel => exact .inr ⟨_, _, _, p, e, HC9.out, by rw [HI.out.2.2.2, HCE.out]⟩
          | ok t rest =>
            have HTE := Lib.hid ht
            clear ht
            rintro e' w5 ⟨x, rfl, htm, hmv⟩
            have hS4 := HSW.out.move hmv
            obtain ⟨xs, hx1, hx2⟩ := hS4.app htm lb (fun k hk => by obtain ⟨_, _, _, h3, _⟩ := HSW.out.own; exact (h3.lt k hk).2)
            obtain ⟨cb0', cb1', fb1', lb', lr'⟩ := hS4.facts
            obtain ⟨nm', A', cp', l', rfl, rfl⟩ := htm.form
            have HX1 := Lib.hid hx1
            have HX2 := Lib.hid hx2
            clear hx1 hx2 hS4 htm hmv
            refine hK _ _ (fun _ => cb1') ?_
            clear hK K
            try simp only [Act.put, List.setIfInBounds_toArray, List.set_cons_zero, List.set_cons_succ]
            refine eff_next (by rfl) (fun K hK => ?_)
            go_simp
            refine hK _ _ (fun _ => (World.cell?_alloc_lt w5 _ ⟨bo, 1, none⟩ lb').trans cb1') ?_
            clear hK K
            try simp only [Act.put, List.setIfInBounds_toArray, List.set_cons_zero, List.set_cons_succ]
            refine eff_next (by rfl) (fun K hK => ?_)
            have hrow : bo + 1 ≤ w5.heap.size := lb'
            (with_reducible refine wp_append_lies _ (.tmp 71) (.tmp 76) _ rfl (bo + 1) 25 i0 _ 2 40 Tryz.underlying23 HI0.out HZ0.out HZ1.out HZ2.out rfl (by omega) (.slice A acc.length cp) acc.length xs rfl (HX1.out.alloc _) ⟨w5.heap.size, 0, none⟩ 1 1 [.string (bs nm'), .slice A' l'.length cp'] rfl rfl (World.news_of_block (cs := #[.string (bs nm'), .slice A' l'.length cp']) (t := 25) (fr := (0, 0)) (heap_alloc_new w5 _)) (by simp [Value.oneCell']) (by omega) (by unfold maxLen; omega) (by omega) (by simp; omega) (w5.heap.size + 1) (by simp) ?_)
            intro g cp6 w6 hown6 hgrow hat hlt6
            have hC := HX2.out g cp6 w6 _ hown6 hgrow hat
            have hc6 := hC.2.1
            have hf6 := hC.2.2.1
            have hl6 := hC.2.2.2
            have HC6 := Lib.hid hC.1
            clear hC hown6 hgrow hat hlt6
            refine hK _ _ (fun _ => hc6) ?_
            clear hK K
            try simp only [Act.put, List.setIfInBounds_toArray, List.set_cons_zero, List.set_cons_succ]
            refine eff_next (by rfl) (fun K hK => ?_)
            go_simp
            refine hK _ _ (fun _ => hc6) ?_
            clear hK K
            try simp only [Act.put, List.setIfInBounds_toArray, List.set_cons_zero, List.set_cons_succ]
            refine eff_next (by rfl) (fun K hK => ?_)
            go_simp
            refine hK _ _ (fun h => absurd rfl h) ?_
            clear hK K
            try simp only [Act.put, List.setIfInBounds_toArray, List.set_cons_zero, List.set_cons_succ]
            refine eff_done ?_
            generalize w6.setCell ⟨bo, 1, none⟩ (.slice (some ⟨g, 0, none⟩) (acc.length + 1) cp6) = w7 at HC6
            clear cb0 cb1 fb1 lb lr cb0' cb1' fb1' lb' lr' hc6 hf6 hl6 hrow k3
            obtain ⟨i7, hr7⟩ := HC6.out.rd
            have HIS := Lib.hid (ris_any hr7 [41])
            have HR7 := Lib.hid hr7
            clear hr7
            cases hcl : isT rest [41] with
            | true =>
              have hno : isT rest [44] = false := by
                unfold isT at hcl ⊢
                simp only [Bool.and_eq_true, beq_iff_eq] at hcl
                rw [hcl.2]; simp
              have HCM := Lib.hid (argsF_close (tf := termF d) (acc := acc) hn0 H4'.out HTE.out hno)
              rw [hcl] at HIS
              go_wp2_with fail
              refine HIS.out.mono ?_
              rintro e8 w8 ⟨rfl, hb8⟩
              have HR8 := Lib.hid (HR7.out.below hb8)
              have HC8 := Lib.hid (HC6.out.move (ts' := rest) ⟨⟨_, HR8.out⟩, grown_of_below hb8 _⟩)
              clear hb8 HIS HC6 HR7
              have HSK := Lib.hid (rskip_ok HR8.out [41])
              rw [hcl] at HSK HCM
              clear hcl hno
              go_wp2_with fail
              refine HSK.out.mono ?_
              rintro e9 w9 h9
              obtain ⟨rfl, hm9⟩ := h9
              have HS9 := Lib.hid (HC8.out.move (ts' := rest.tail) hm9)
              clear hm9 HSK HC8 HR8
              obtain ⟨cb0, cb1, _, lb, lr⟩ := HS9.out.facts
              obtain ⟨u0, u1, cr0, cr1, fr0, fr1⟩ := HS9.out.facts4
              have hbr : w.heap.size ≠ bo := by omega
              go_wp2_with fail
              refine bodyPost_ret (v := .agg #[.string (bs (hd ts).text), .slice (some ⟨g, 0, none⟩) (acc.length + 1) cp6]) (by simp [results, Tryz.results154, go_sem, cr0, cr1]) rfl ?_
              unfold RTPost
              rw [HT.out, HC.out, HI.out.2.2.2, HCM.out]
              exact ⟨[.string (bs (hd ts).text), .slice (some ⟨g, 0, none⟩) (acc.length + 1) cp6], rfl, HS9.out.fin _ _⟩
            | false =>
              rw [hcl] at HIS
              go_wp2_with fail
              refine HIS.out.mono ?_
              rintro e8 w8 ⟨rfl, hb8⟩
              have HR8 := Lib.hid (HR7.out.below hb8)
              have HC8 := Lib.hid (HC6.out.move (ts' := rest) ⟨⟨_, HR8.out⟩, grown_of_below hb8 _⟩)
              clear hb8 HIS HC6 HR7
              have HSK := Lib.hid (rskip_ok HR8.out [44])
              cases hcm : isT rest [44] with
              | true =>
                have HCM := Lib.hid (argsF_comma (tf := termF d) (acc := acc) hn0 H4'.out HTE.out hcm)
                have HLE : Hid (acc.length ≠ 4) := fun e4 => by
                  have h := H4'.out
                  rw [e4] at h
                  have hb : begT cur = false := by simpa using h
                  have h2 := HTE.out
                  rw [termF_nobeg hb] at h2
                  cases h2
                rw [hcm] at HSK
                clear hcm hcl
                go_wp2_with fail
                refine HSK.out.mono ?_
                rintro e9 w9 h9
                obtain ⟨rfl, hm9⟩ := h9
                have HS9 := Lib.hid (HC8.out.move (ts' := rest.tail) hm9)
                clear hm9 HSK HC8 HR8
                go_wp2_with fail
                go_roundg (gk - 1)
                case measure => omega
                case rel =>
                  refine .inl ⟨_, acc ++ [.mk nm' l'], rest.tail, ?_, ?_, HS9.out, ?_⟩
                  · have := HI.out.1; rw [List.length_append]; simp; omega
                  · have := HI.out.2.1; have := HLE.out; rw [List.length_append]; simp; omega
                  · rw [HI.out.2.2.2, HCM.out]
              | false =>
                have HCM := Lib.hid (argsF_close (tf := termF d) (acc := acc) hn0 H4'.out HTE.out hcm)
                rw [hcl] at HCM
                rw [hcm] at HSK
                clear hcm hcl
                go_wp2_with fail
                refine HSK.out.mono ?_
                rintro e9 w9 h9
                obtain ⟨rfl, he9⟩ := h9
                have HE := Lib.hid (HC8.out.err he9)
                clear he9 HSK HC8 HR8
                go_wp2_with fail
                go_roundg (gk - 1)
                case measure => omega
                case rel => exact .inr ⟨_, _, _, _, _, HE.out, by rw [HI.out.2.2.2, HCM.out]; rfl⟩
end Go.Proofs.YtmplpbdldcokjaaGreatDoor
