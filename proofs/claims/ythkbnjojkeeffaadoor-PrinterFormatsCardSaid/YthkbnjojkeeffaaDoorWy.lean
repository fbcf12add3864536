/- The walk of rule of the reference's reader. -/
import Derived.Test.YthkbnjojkeeffaaDoorWx
import Derived.Deep.RegionHeld3
namespace Go.Proofs.YthkbnjojkeeffaaDoor
open Go Go.RowKit
set_option linter.unusedSimpArgs false

theorem litF_zero {o : Nat} {ts : List Tok} (h : (o == 8 && (isT ts [110, 111, 116] || (hd ts).kind == 1)) = false) : litF o ts = litF 0 ts := by
  rw [litF_go h, litF_go (o := 0) rfl]
section
variable {P : Program} {md : Region.Mode} {l : List Oper} {Q : Exit → Act → World → Prop} {S : World → Prop}
theorem held_take {i : Nat} {oi : Oper} {v : Value} {fuel : Nat} {listed : Array Bool} {a : Act} {w : World} (hi : l[i]? = some oi)
    (hs : Region.noSelect l.toArray = true) (hf : Region.free md l.toArray listed i = true) (hr : (Region.ready md l.toArray listed).contains i = true)
    (hQ : ∀ c a w, Q (.panic c) (a.put oi.dst v) w → Q (.panic c) a w) (hw : Region.wanted oi (yielded l.toArray a.tmps) = true) (hy : ∀ w', S w' → (execOp a.eval oi).run P w' = .ok (.value v) w') (hS : S w)
    (h : wpAnyH P md l.toArray Q S fuel (listed.setIfInBounds i true) (a.put oi.dst v) w) : wpAnyH P md l.toArray Q S (fuel + 1) listed a w :=
  wpAnyH_take (by rw [List.getElem?_toArray]; exact hi) hs hf hr hQ (.inl ⟨hw, hy⟩) hS h
theorem held_skip {i : Nat} {oi : Oper} {fuel : Nat} {listed : Array Bool} {a : Act} {w : World} (hi : l[i]? = some oi)
    (hs : Region.noSelect l.toArray = true) (hf : Region.free md l.toArray listed i = true) (hr : (Region.ready md l.toArray listed).contains i = true)
    (hQ : ∀ c a w, Q (.panic c) (a.put oi.dst undef) w → Q (.panic c) a w) (hw : Region.wanted oi (yielded l.toArray a.tmps) = false) (hS : S w)
    (h : wpAnyH P md l.toArray Q S fuel (listed.setIfInBounds i true) (a.put oi.dst undef) w) : wpAnyH P md l.toArray Q S (fuel + 1) listed a w :=
  wpAnyH_take (by rw [List.getElem?_toArray]; exact hi) hs hf hr hQ (.inr ⟨hw, rfl⟩) hS h
theorem held_one {fuel : Nat} {listed : Array Bool} {a : Act} {w : World} {i : Nat} {o : Oper} (ho : l[i]? = some o)
    (h : ∀ K' : Act → World → Prop, Shut (∀ a w, S w → (S w → wpAnyH P md l.toArray Q S fuel (listed.setIfInBounds i true) a w) → K' a w) → if Region.wanted o (yielded l.toArray a.tmps) = true then Oper.wp P o a w K' Q else K' (a.put o.dst undef) w) : AllReadyH P md l.toArray Q S fuel listed a w [i] :=
  AllReadyH.cons (by rw [List.getElem?_toArray]; exact ho) h AllReadyH.nil
end
theorem keep5 {w4 x : World} {a b c d : Addr} {va vb vc vd : Value} (h : w4.cell? a = some va ∧ w4.cell? b = some vb ∧ w4.cell? c = some vc ∧ w4.cell? d = some vd ∧ a.block < w4.heap.size ∧ b.block < w4.heap.size ∧ c.block < w4.heap.size ∧ d.block < w4.heap.size)
    (hb : Below w4.heap.size w4 x) : x.cell? a = some va ∧ x.cell? b = some vb ∧ x.cell? c = some vc ∧ x.cell? d = some vd ∧ Hid (Below w4.heap.size w4 x) := by
  obtain ⟨h1, h2, h3, h4, l1, l2, l3, l4⟩ := h
  exact ⟨(hb.cell l1).trans h1, (hb.cell l2).trans h2, (hb.cell l3).trans h3, (hb.cell l4).trans h4, hb⟩
theorem trans5 {w4 x y : World} (h : Below w4.heap.size w4 x) (hb : Below x.heap.size x y) : Below w4.heap.size w4 y := h.trans (hb.mono h.size)
theorem own_grown {w w' : World} {base n : Nat} {v : Value} {e : TypeId} {sz : Nat} {ys : List Value} (h : w.ownsRow base e sz v n ys) (hg : w.grownBy w' none) : w'.ownsRow base e sz v n ys :=
  h.kept hg (by cases v.ownBlock with | none => exact .inl rfl | some k => exact .inr (by simp))

set_option maxHeartbeats 8000000 in
set_option maxRecDepth 100000 in
theorem rrule_any (w : World) (rb tb cap : Nat) (toks ts : List Tok) (i : Nat) (h : RR w rb tb cap toks ts i 0 0) :
    Calls Tryd.prog 59 #[.pointer (some ⟨rb, 0, none⟩)] w (RRPost w rb tb cap toks (ruleF ts)) := by
  have HR := Lib.hid h
  have hrw := h.rlt
  have htw := h.tk.1
  clear h
  obtain ⟨i0, hi0, hz0, hz1, hz2⟩ := info_parts infoLit2
  have HI0 := Lib.hid hi0; have HZ0 := Lib.hid hz0; have HZ1 := Lib.hid hz1; have HZ2 := Lib.hid hz2
  clear hi0 hz0 hz1 hz2
  have HR1 := Lib.hid (HR.out.below (w' := w.alloc (.cells #[.string ⟨#[]⟩, .slice none 0 0, .slice none 0 0] 27)) ((Below.refl _ _).alloc (Nat.le_refl _) _))
  have HRES := Lib.hid (heap_alloc_new w (.cells #[.string ⟨#[]⟩, .slice none 0 0, .slice none 0 0] 27))
  have HG := Lib.hid (World.grownBy_alloc w (.cells #[.string ⟨#[]⟩, .slice none 0 0, .slice none 0 0] 27) (some rb))
  go_enter Tryd.func59, Tryd.ntmps59
  go_wp2_with fail
  generalize w.alloc (.cells #[.string ⟨#[]⟩, .slice none 0 0, .slice none 0 0] 27) = w0 at *
  (with_reducible refine (ratom_ok w0 rb tb cap toks ts i HR1.out).mono ?_)
  cases hat : atomF ts with
  | err p e =>
    have HT := Lib.hid (ruleF_err hat)
    clear hat
    rintro e' w1 ⟨nm, A0, n0, cp0, rfl, he⟩
    have hsz0 := heap_lt HRES.out
    have hsz : w.heap.size < w1.heap.size := by have := he.2.2.size; omega
    have HE : Hid (REt w (w1.alloc (.cells #[.string nm, .slice A0 n0 cp0, .slice none 0 0] 27)) rb tb cap toks w.heap.size w1.heap.size (.string nm) (.slice A0 n0 cp0) (.slice none 0 0) p e) := by
      obtain ⟨⟨ts1, i1, hr1⟩, hx, hg1⟩ := he
      have hb : Below w1.heap.size w1 (w1.alloc (.cells #[.string nm, .slice A0 n0 cp0, .slice none 0 0] 27)) := (Below.refl _ _).alloc (Nat.le_refl _) _
      exact ⟨⟨ts1, i1, hr1.below hb⟩, hx, Nat.le_refl _, hsz, hrw, htw, heap_alloc_new _ _, ⟨_, _, _, (hb.block _ hsz).trans ((hg1.block _ hsz0 (by simp; omega)).trans HRES.out)⟩, grown_trans (grown_trans HG.out hg1) (grown_of_below hb _)⟩
    clear he HRES HR1 HG
    go_wp2_with fail
    generalize w1.alloc (.cells #[.string nm, .slice A0 n0 cp0, .slice none 0 0] 27) = w2 at *
    generalize w1.heap.size = bo at *
    clear w1
    obtain ⟨t2, i2, hr2⟩ := HE.out.rd
    have HIS := Lib.hid (ris_any hr2 [105, 102])
    rw [show (e == 0 && isT t2 [105, 102]) = false from by rw [beq_eq_false_iff_ne.2 HE.out.hx]; rfl] at HIS
    clear hr2
    refine HIS.out.mono ?_
    rintro e8 w3 ⟨rfl, hb3⟩
    have HE3 := Lib.hid (HE.out.below hb3)
    clear hb3 HIS HE
    go_wp2_with fail
    go_loopg [4] 1 (fun n u4 wr => u4 = .bool false ∧ Hid (REt w wr rb tb cap toks w.heap.size bo (.string nm) (.slice A0 n0 cp0) (.slice none 0 0) p e))
    case atStart => exact ⟨rfl, HE3.out⟩
    case round =>
      obtain ⟨rfl, HE⟩ := hrel
      clear HE3
      obtain ⟨tc, ic, hrc⟩ := HE.out.rd
      obtain ⟨_, _, _, k3, _, _, _⟩ := hrc.facts
      have hx0 : (e == 0) = false := beq_eq_false_iff_ne.2 HE.out.hx
      clear hrc
      go_wp2_with fail
      obtain ⟨tz, iz, hrz⟩ := HE.out.rd
      have HSK := Lib.hid (rskip_no hrz HE.out.hx [46])
      clear hrz
      go_wp2_with fail
      refine HSK.out.mono ?_
      rintro e w9 ⟨rfl, hb9⟩
      have HE9 := Lib.hid (HE.out.below hb9)
      clear hb9 HSK
      obtain ⟨z0, z1, z2, zf, zl, zr, zn⟩ := HE9.out.facts
      obtain ⟨d0, d1, d2, e0, e1, e2, g0, g1, g2⟩ := HE9.out.facts2
      go_wp2_with fail
      refine bodyPost_ret (v := .agg #[.string nm, .slice A0 n0 cp0, .slice none 0 0]) (by simp [results, Tryd.results59, go_sem, e0, e1, e2]) rfl ?_
      unfold RRPost
      rw [HT.out]
      exact ⟨_, _, _, _, _, _, _, rfl, HE9.out.fin _ _ _⟩

  | ok t r =>
    have HT := Lib.hid (ruleF_ok hat)
    clear hat
    rintro e' w1 ⟨x, rfl, htm, hmv⟩
    obtain ⟨nmL, A0, cp0, l0, rfl, rfl⟩ := htm.form
    have hsz0 := heap_lt HRES.out
    have hsz : w.heap.size < w1.heap.size := by have := hmv.2.size; omega
    generalize hnm : bs nmL = nm at *
    generalize hn0 : l0.length = n0 at *
    generalize hhd : Tm.mk nmL l0 = hd0 at *
    have HST : Hid (RRt w (w1.alloc (.cells #[.string nm, .slice A0 n0 cp0, .slice none 0 0] 27)) rb tb cap toks w.heap.size w1.heap.size (.string nm) (.slice A0 n0 cp0) hd0 (.slice none 0 0) [] r) := by
      obtain ⟨⟨i1, hr1⟩, hg1⟩ := hmv
      have hb : Below w1.heap.size w1 (w1.alloc (.cells #[.string nm, .slice A0 n0 cp0, .slice none 0 0] 27)) := (Below.refl _ _).alloc (Nat.le_refl _) _
      refine ⟨⟨i1, hr1.below hb⟩, Nat.le_refl _, hsz, hrw, htw, heap_alloc_new _ _, ⟨_, _, _, (hb.block _ hsz).trans ((hg1.block _ hsz0 (by simp; omega)).trans HRES.out)⟩, ?_, OwnL.nil _ _ _ _ _, grown_trans (grown_trans HG.out hg1) (grown_of_below hb _)⟩
      exact htm.keep (fun b hb' hlt => ⟨⟨by omega, hlt, by omega⟩, hb.block b hlt⟩) hb.size
    have HHD := Lib.hid hhd
    clear htm hmv HRES HR1 HG hnm hn0 hhd
    go_wp2_with fail
    generalize w1.alloc (.cells #[.string nm, .slice A0 n0 cp0, .slice none 0 0] 27) = w2 at *
    generalize w1.heap.size = bo at *
    clear w1
    obtain ⟨i2, hr2⟩ := HST.out.rd
    have HIS := Lib.hid (ris_any hr2 [105, 102])
    have HR2 := Lib.hid hr2
    clear hr2
    generalize hbi : isT r [105, 102] = bi at HIS HT
    have HBI := Lib.hid hbi
    clear hbi
    simp only [beq_self_eq_true, Bool.true_and] at HIS
    refine HIS.out.mono ?_
    rintro e w3 ⟨rfl, hb3⟩
    have HS := Lib.hid (HST.out.move (ts' := r) ⟨⟨_, HR2.out.below hb3⟩, grown_of_below hb3 _⟩)
    clear hb3 HIS HST HR2
    go_wp2_with fail
    go_loopg [4] 9 (fun n u4 wr => Hid ((∃ (v : Value) (acc : List Li) (cur : List Tok) (m : Bool), acc.length + n = 9 ∧ acc.length ≤ 8 ∧ RRt w wr rb tb cap toks w.heap.size bo (.string nm) (.slice A0 n0 cp0) hd0 v acc cur ∧ (if bi then bodyF 9 [] r.tail else .ok [] r) = (if m then bodyF n acc cur.tail else .ok acc cur) ∧ u4 = .bool m ∧ (m = true → (hd cur).kind ≠ 0)) ∨
        (∃ (A1 : Option Addr) (n1 cp1 : Nat) (p : Nat) (x : Int), REt w wr rb tb cap toks w.heap.size bo (.string nm) (.slice A0 n0 cp0) (.slice A1 n1 cp1) p x ∧ (if bi then bodyF 9 [] r.tail else .ok [] r) = .err p x)) ∧ ∃ m : Bool, u4 = .bool m)
    case atStart => exact ⟨.inl ⟨_, [], r, bi, rfl, by simp, HS.out, rfl, rfl, fun h => isT_kind (HBI.out.trans h)⟩, _, rfl⟩
    case round =>
      clear HS
      obtain ⟨hrel, m, rfl⟩ := hrel
      rcases hrel.out with ⟨v, acc, cur0, m', hi1, hi2, hi3, hi4, hi5, hi6⟩ | ⟨A1, n1, cp1, p, x, he1, he2⟩
      rotate_left
      · -- an error stands
        have HE := Lib.hid he1
        have HQ := Lib.hid he2
        clear hrel he1 he2
        obtain ⟨tc, ic, hrc⟩ := HE.out.rd
        obtain ⟨_, _, _, k3, _, _, _⟩ := hrc.facts
        have hx0 : (x == 0) = false := beq_eq_false_iff_ne.2 HE.out.hx
        clear hrc
        go_wp2_with fail
        obtain ⟨tz, iz, hrz⟩ := HE.out.rd
        have HSK := Lib.hid (rskip_no hrz HE.out.hx [46])
        clear hrz
        go_wp2_with fail
        refine HSK.out.mono ?_
        rintro e w9 ⟨rfl, hb9⟩
        have HE9 := Lib.hid (HE.out.below hb9)
        clear hb9 HSK
        obtain ⟨z0, z1, z2, zf, zl, zr, zn⟩ := HE9.out.facts
        obtain ⟨d0, d1, d2, e0, e1, e2, g0, g1, g2⟩ := HE9.out.facts2
        go_wp2_with fail
        refine bodyPost_ret (v := .agg #[.string nm, .slice A0 n0 cp0, .slice A1 n1 cp1]) (by simp [results, Tryd.results59, go_sem, e0, e1, e2]) rfl ?_
        unfold RRPost
        rw [HT.out, HQ.out]
        exact ⟨_, _, _, _, _, _, _, rfl, HE9.out.fin _ _ _⟩

      have HI := Lib.hid (And.intro hi1 (And.intro hi2 (And.intro hi3 (And.intro hi4 hi6))))
      obtain rfl : m = m' := by injection hi5
      clear hrel hi1 hi2 hi3 hi4 hi5 hi6
      obtain ⟨A, cp, rfl⟩ := HI.out.2.2.1.own.len
      obtain ⟨i3, hrd⟩ := HI.out.2.2.1.rd
      have HRD := Lib.hid hrd
      obtain ⟨k0, c1, k2, k3, f1, f2, f3⟩ := hrd.facts
      clear k0 k2 f2 f3
      have hsm : (i3 : Int) < 20000 := by have := hrd.lt; have := hrd.big; omega
      clear hrd
      cases m with
      | false =>
        have HQ : Hid ((if bi then bodyF 9 [] r.tail else .ok [] r) = .ok acc cur0) := HI.out.2.2.2.1
        have HSK := Lib.hid (rskip_ok HRD.out [46])
        have HZ := Lib.hid HI.out.2.2.1
        clear c1 f1
        go_wp2_with fail
        refine HSK.out.mono ?_
        cases hdot : isT cur0 [46] with
        | true =>
          rintro e w9 ⟨rfl, hm9⟩
          rw [if_pos rfl] at hm9
          have HS9 := Lib.hid (HZ.out.move (ts' := cur0.tail) hm9)
          have HDOT := Lib.hid hdot
          clear hm9 HSK hdot
          obtain ⟨z0, z1, z2, _, lb, lr⟩ := HS9.out.facts
          obtain ⟨d0, d1, d2, e0, e1, e2, g0, g1, g2⟩ := HS9.out.facts2
          have hbr : w.heap.size ≠ bo := by have := HS9.out.ltr; omega
          go_wp2_with fail
          refine bodyPost_ret (v := .agg #[.string nm, .slice A0 n0 cp0, .slice A acc.length cp]) (by simp [results, Tryd.results59, go_sem, e0, e1, e2]) rfl ?_
          unfold RRPost
          rw [HT.out, HQ.out]
          unfold finR
          simp only []
          rw [if_pos HDOT.out]
          exact ⟨[.string nm, .slice A0 n0 cp0, .slice A acc.length cp], rfl, HS9.out.fin _ _ _⟩
        | false =>
          rintro e w9 ⟨rfl, hm9⟩
          rw [if_neg Bool.false_ne_true] at hm9
          have HE9 := Lib.hid (HZ.out.err hm9)
          have HDOT := Lib.hid hdot
          clear hm9 HSK hdot
          obtain ⟨z0, z1, z2, zf, zl, zr, zn⟩ := HE9.out.facts
          obtain ⟨d0, d1, d2, e0, e1, e2, g0, g1, g2⟩ := HE9.out.facts2
          go_wp2_with fail
          refine bodyPost_ret (v := .agg #[.string nm, .slice A0 n0 cp0, .slice A acc.length cp]) (by simp [results, Tryd.results59, go_sem, e0, e1, e2]) rfl ?_
          unfold RRPost
          rw [HT.out, HQ.out]
          unfold finR
          simp only []
          rw [if_neg (by rw [HDOT.out]; exact Bool.false_ne_true)]
          exact ⟨_, _, _, _, _, _, _, rfl, HE9.out.fin _ _ _⟩
      | true =>
        have HKZ : Hid ((hd cur0).kind ≠ 0) := HI.out.2.2.2.2 rfl
        have ha4 : (acc.length : Int) ≤ 8 := by have := HI.out.2.1; omega
        have hn0' : 0 < gk := by have := HI.out.1; have := HI.out.2.1; omega
        go_wp2_with fail
        rw [show ((i3 : Int) + 1) = ((i3 + 1 : Nat) : Int) from by omega]
        have HR4 := Lib.hid (HRD.out.step HKZ.out)
        have HS4 := Lib.hid (HI.out.2.2.1.move (ts' := cur0.tail) (w' := wr.setCell ⟨rb, 1, none⟩ (.int .i64 (i3 + 1 : Nat))) ⟨⟨_, HR4.out⟩, grown_set _ _ _ _⟩)
        clear c1 f1 k3 HRD
        generalize wr.setCell ⟨rb, 1, none⟩ (.int .i64 (i3 + 1 : Nat)) = w4 at *
        generalize i3 + 1 = i4 at *
        have HI4 : Hid (acc.length + gk = 9 ∧ acc.length ≤ 8 ∧ True ∧ (if bi then bodyF 9 [] r.tail else .ok [] r) = bodyF gk acc cur0.tail) := ⟨HI.out.1, HI.out.2.1, trivial, HI.out.2.2.2.1⟩
        clear HI HKZ
        generalize cur0.tail = cur at *
        clear wr
        have hi4l : (i4 : Int) < (toks.length : Int) := by have := HR4.out.lt; omega
        have hi40 : (0 : Int) ≤ (i4 : Int) := by omega
        have h8i : ((acc.length : Int) == 8) = (acc.length == 8) := by
          cases hh : acc.length == 8 with
          | true => rw [beq_iff_eq] at hh ⊢; omega
          | false => rw [beq_eq_false_iff_ne] at hh ⊢; omega
        obtain ⟨_, _, cb2, _, lb, _⟩ := HS4.out.facts
        cases h8 : (acc.length == 8)
        all_goals rw [h8] at h8i
        focus
          have HLZ : Hid (litF acc.length cur = litF 0 cur) := litF_zero (by rw [h8]; rfl)
          go_region
          have HRX := Lib.hid (HR4.out.below (w' := w4.drew) (Below.refl _ _).drew)
          have HSX := Lib.hid (HS4.out.move (w' := w4.drew) (ts' := cur) ⟨⟨_, HRX.out⟩, grown_of_below (Below.refl _ _).drew _⟩)
          clear cb2 lb HR4 HS4
          generalize w4.drew = wx at *
          go_wp2_with fail
        rotate_left
        focus
          have HIS := fun (x : World) (hx : Below w4.heap.size w4 x) => ris_any (HR4.out.below hx) [110, 111, 116]
          have HISH := Lib.hid HIS
          clear HIS
          obtain ⟨c0, c1, _, _, _, _, _⟩ := HR4.out.facts
          obtain ⟨t0, _, _⟩ := HR4.out.tk.2 i4 _ HR4.out.hd
          have HC4 := Lib.hid (And.intro cb2 (And.intro c0 (And.intro c1 (And.intro t0 (And.intro lb (And.intro HR4.out.rlt (And.intro HR4.out.rlt HR4.out.tk.1)))))))
          have HB4 := Lib.hid (Below.refl w4.heap.size w4)
          clear c0 c1 t0 cb2 lb
          generalize hkd : (hd cur).kind = kd at *
          have HKD := Lib.hid hkd
          clear hkd
          generalize hnn : isT cur [110, 111, 116] = bn at HISH
          have HNN := Lib.hid hnn
          clear hnn
          simp only [beq_self_eq_true, Bool.true_and] at HISH
          cases bn
          focus
            cases k1 : (kd == 1)
            all_goals
              go_region_held3 (fun x => x.cell? ⟨bo, 2, none⟩ = some (.slice A acc.length cp) ∧ x.cell? ⟨rb, 0, none⟩ = some (.slice (some ⟨tb, 0, none⟩) toks.length cap) ∧ x.cell? ⟨rb, 1, none⟩ = some (.int .i64 i4) ∧ x.cell? ⟨tb, i4 * 3, none⟩ = some (.int .i64 kd) ∧ Hid (Below w4.heap.size w4 x)) (first | (exact keep5 HC4.out (Below.drew HB4.out)) | (exact keep5 HC4.out (Below.drew (Hid.out (And.right (And.right (And.right (And.right ‹_ ∧ _ ∧ _ ∧ _ ∧ Hid _›))))))) | (exact keep5 HC4.out (trans5 (Hid.out (And.right (And.right (And.right (And.right ‹_ ∧ _ ∧ _ ∧ _ ∧ Hid _›))))) hb9))) (first | (go_at_call 79; refine (HISH.out _ ?_).mono ?_; (exact Hid.out (And.right (And.right (And.right (And.right ‹_ ∧ _ ∧ _ ∧ _ ∧ Hid _›))))); rintro e9 w9 ⟨rfl, hb9⟩))
          rotate_right
          focus
            refine wp_region_held_drew (S := fun x => x.cell? ⟨bo, 2, none⟩ = some (.slice A acc.length cp) ∧ Hid (Below w4.heap.size w4 x)) (by kernel_rfl) ⟨HC4.out.1, Below.drew HB4.out⟩ (fun hHeld => ?_)
            refine held_take (i := 0) (by rfl) (by kernel_rfl) (by kernel_rfl) (by kernel_rfl) (by intro c a w h; exact h) (by rfl) (by intro w' hSw; obtain ⟨hq, _⟩ := hSw; go_simp; try with_reducible rfl) hHeld ?_
            try simp only [Act.put, List.setIfInBounds_toArray, List.set_cons_zero, List.set_cons_succ]
            refine held_take (i := 1) (by rfl) (by kernel_rfl) (by kernel_rfl) (by kernel_rfl) (by intro c a w h; exact h) (by rfl) (by intro w' hSw; obtain ⟨hq, _⟩ := hSw; go_simp; try with_reducible rfl) hHeld ?_
            try simp only [Act.put, List.setIfInBounds_toArray, List.set_cons_zero, List.set_cons_succ]
            refine held_take (i := 2) (by rfl) (by kernel_rfl) (by kernel_rfl) (by kernel_rfl) (by intro c a w h; exact h) (by rfl) (by intro w' hSw; obtain ⟨hq, _⟩ := hSw; go_simp; try with_reducible rfl) hHeld ?_
            try simp only [Act.put, List.setIfInBounds_toArray, List.set_cons_zero, List.set_cons_succ]
            refine held_take (i := 3) (by rfl) (by kernel_rfl) (by kernel_rfl) (by kernel_rfl) (by intro c a w h; exact h) (by rfl) (by intro w' hSw; obtain ⟨hq, _⟩ := hSw; go_simp; try with_reducible rfl) hHeld ?_
            try simp only [Act.put, List.setIfInBounds_toArray, List.set_cons_zero, List.set_cons_succ]
            refine held_take (i := 4) (by rfl) (by kernel_rfl) (by kernel_rfl) (by kernel_rfl) (by intro c a w h; exact h) (by rfl) (by intro w' hSw; obtain ⟨hq, _⟩ := hSw; go_simp; try with_reducible rfl) hHeld ?_
            try simp only [Act.put, List.setIfInBounds_toArray, List.set_cons_zero, List.set_cons_succ]
            refine held_take (i := 5) (by rfl) (by kernel_rfl) (by kernel_rfl) (by kernel_rfl) (by intro c a w h; exact h) (by rfl) (by intro w' hSw; obtain ⟨hq, _⟩ := hSw; go_simp; try with_reducible rfl) hHeld ?_
            try simp only [Act.put, List.setIfInBounds_toArray, List.set_cons_zero, List.set_cons_succ]
            refine wpAnyH_ready (rs := [6]) (by kernel_rfl) (by simp) ?_
            refine held_one (by rfl) (fun K hK => ?_)
            go_simp
            refine (HISH.out _ hHeld.2.out).mono ?_
            rintro e9 w9 ⟨rfl, hb9⟩
            refine hK.out _ _ ⟨((keep5 HC4.out (trans5 hHeld.2.out hb9)).1), trans5 hHeld.2.out hb9⟩ (fun hHeld9 => ?_)
            clear hHeld hK K
            have hHeld := hHeld9
            clear hHeld9
            try simp only [Act.put, List.setIfInBounds_toArray, List.set_cons_zero, List.set_cons_succ]
            refine held_take (i := 7) (by rfl) (by kernel_rfl) (by kernel_rfl) (by kernel_rfl) (by intro c a w h; exact h) (by rfl) (by intro w' hSw; obtain ⟨hq, _⟩ := hSw; go_simp; try with_reducible rfl) hHeld ?_
            try simp only [Act.put, List.setIfInBounds_toArray, List.set_cons_zero, List.set_cons_succ]
            refine held_skip (i := 8) (by rfl) (by kernel_rfl) (by kernel_rfl) (by kernel_rfl) (by intro c a w h; exact h) (by rfl) hHeld ?_
            try simp only [Act.put, List.setIfInBounds_toArray, List.set_cons_zero, List.set_cons_succ]
            refine held_skip (i := 9) (by rfl) (by kernel_rfl) (by kernel_rfl) (by kernel_rfl) (by intro c a w h; exact h) (by rfl) hHeld ?_
            try simp only [Act.put, List.setIfInBounds_toArray, List.set_cons_zero, List.set_cons_succ]
            refine held_skip (i := 10) (by rfl) (by kernel_rfl) (by kernel_rfl) (by kernel_rfl) (by intro c a w h; exact h) (by rfl) hHeld ?_
            try simp only [Act.put, List.setIfInBounds_toArray, List.set_cons_zero, List.set_cons_succ]
            refine held_skip (i := 11) (by rfl) (by kernel_rfl) (by kernel_rfl) (by kernel_rfl) (by intro c a w h; exact h) (by rfl) hHeld ?_
            try simp only [Act.put, List.setIfInBounds_toArray, List.set_cons_zero, List.set_cons_succ]
            refine held_skip (i := 12) (by rfl) (by kernel_rfl) (by kernel_rfl) (by kernel_rfl) (by intro c a w h; exact h) (by rfl) hHeld ?_
            try simp only [Act.put, List.setIfInBounds_toArray, List.set_cons_zero, List.set_cons_succ]
            refine held_skip (i := 13) (by rfl) (by kernel_rfl) (by kernel_rfl) (by kernel_rfl) (by intro c a w h; exact h) (by rfl) hHeld ?_
            try simp only [Act.put, List.setIfInBounds_toArray, List.set_cons_zero, List.set_cons_succ]
            refine held_skip (i := 14) (by rfl) (by kernel_rfl) (by kernel_rfl) (by kernel_rfl) (by intro c a w h; exact h) (by rfl) hHeld ?_
            try simp only [Act.put, List.setIfInBounds_toArray, List.set_cons_zero, List.set_cons_succ]
            refine held_skip (i := 15) (by rfl) (by kernel_rfl) (by kernel_rfl) (by kernel_rfl) (by intro c a w h; exact h) (by rfl) hHeld ?_
            try simp only [Act.put, List.setIfInBounds_toArray, List.set_cons_zero, List.set_cons_succ]
            refine held_skip (i := 16) (by rfl) (by kernel_rfl) (by kernel_rfl) (by kernel_rfl) (by intro c a w h; exact h) (by rfl) hHeld ?_
            try simp only [Act.put, List.setIfInBounds_toArray, List.set_cons_zero, List.set_cons_succ]
            refine held_skip (i := 17) (by rfl) (by kernel_rfl) (by kernel_rfl) (by kernel_rfl) (by intro c a w h; exact h) (by rfl) hHeld ?_
            try simp only [Act.put, List.setIfInBounds_toArray, List.set_cons_zero, List.set_cons_succ]
            refine held_skip (i := 18) (by rfl) (by kernel_rfl) (by kernel_rfl) (by kernel_rfl) (by intro c a w h; exact h) (by rfl) hHeld ?_
            try simp only [Act.put, List.setIfInBounds_toArray, List.set_cons_zero, List.set_cons_succ]
            refine held_skip (i := 19) (by rfl) (by kernel_rfl) (by kernel_rfl) (by kernel_rfl) (by intro c a w h; exact h) (by rfl) hHeld ?_
            try simp only [Act.put, List.setIfInBounds_toArray, List.set_cons_zero, List.set_cons_succ]
            refine held_take (i := 20) (by rfl) (by kernel_rfl) (by kernel_rfl) (by kernel_rfl) (by intro c a w h; exact h) (by rfl) (by intro w' hSw; obtain ⟨hq, _⟩ := hSw; go_simp; try with_reducible rfl) hHeld ?_
            try simp only [Act.put, List.setIfInBounds_toArray, List.set_cons_zero, List.set_cons_succ]
            refine held_take (i := 21) (by rfl) (by kernel_rfl) (by kernel_rfl) (by kernel_rfl) (by intro c a w h; exact h) (by rfl) (by intro w' hSw; obtain ⟨hq, _⟩ := hSw; go_simp; try with_reducible rfl) hHeld ?_
            try simp only [Act.put, List.setIfInBounds_toArray, List.set_cons_zero, List.set_cons_succ]
            refine wpAnyH_done (by kernel_rfl) ?_ _
            clear hHeld
          rotate_left
          all_goals
            have HB9 := Lib.hid (Below.drew (Below.refl w4.heap.size w4) |>.trans (hb9.mono (Nat.le_refl _)))
            have HRX := Lib.hid (HR4.out.below HB9.out)
            have HSX := Lib.hid (HS4.out.move (w' := w9) (ts' := cur) ⟨⟨_, HRX.out⟩, grown_of_below HB9.out _⟩)
            clear hb9 HR4 HS4 HISH HC4 HB4 HB9 hi4l hi40
            generalize w9 = wx at *
            go_wp2_with fail
          rotate_left
          focus
            refine (rfail_ok HRX.out 2 (by decide)).mono ?_
            rintro e wy ⟨rfl, he5⟩
            have HCE : Hid (bodyF gk acc cur = .err (hd cur).pos 2) := bodyF_err hn0' (litF_full (by rw [h8, HNN.out]; first | rfl | (rw [HKD.out, k1]; rfl)))
            have HEX := Lib.hid (HSX.out.err he5)
            have hown := HSX.out.own.keep keeps_li he5.2.2 (fun k hk => by injection hk; have := HSX.out.ltr; have := HSX.out.le0; omega)
            obtain ⟨xs, hx0, _⟩ := hown.row
            have HOW := Lib.hid hx0
            clear he5 hown hx0 HSX HRX
            obtain ⟨_, _, hcb2, _, hlbo, _, _⟩ := HEX.out.facts
            go_wp2_with fail

            have hS : wy.cell? ⟨bo, 2, none⟩ = some (.slice A acc.length cp) := hcb2
            refine region_mix (fun x => x.cell? ⟨bo, 2, none⟩ = some (.slice A acc.length cp)) [0, 1, 2] [3, 4, 5, 6, 7] (by kernel_rfl) (by kernel_rfl) (by intro c a d v w h; cases d <;> exact h) hS ?_
            simp only [picks, List.filterMap_cons, List.filterMap_nil, List.getElem?_toArray, List.getElem?_cons_succ, List.getElem?_cons_zero]
            repeat (refine rd_next _ (by rfl) (by intro w' hS'; go_simp; try with_reducible rfl) ?_; simp only [Act.put, List.setIfInBounds_toArray, List.set_cons_zero, List.set_cons_succ])
            refine rd_done ?_
            refine eff_next (by rfl) (fun K hK => ?_)
            go_simp
            clear hS

            obtain ⟨tx, ix, hrx⟩ := HEX.out.rd
            have HRW := Lib.hid (hrx.below (w' := wy.drew) (Below.refl _ _).drew)
            have HEW := Lib.hid (HEX.out.below (w' := wy.drew) (Below.refl _ _).drew)
            clear HEX hrx
            (with_reducible refine (rlit_no wy.drew rb tb cap toks tx ix _ _ HRW.out HEW.out.hx).mono ?_)
            rintro e' w5 ⟨rfl, hb5⟩
            have HEE := Lib.hid (HEW.out.below hb5)
            have HX1 := Lib.hid (own_grown HOW.out (grown_trans (grown_of_below (Below.refl wy.heap.size wy).drew none) (grown_of_below hb5 none)))
            clear hb5
            obtain ⟨_, _, cb2', _, lb', _, _⟩ := HEE.out.facts
            refine hK _ _ (fun _ => cb2') ?_

            clear hK K
            try simp only [Act.put, List.setIfInBounds_toArray, List.set_cons_zero, List.set_cons_succ]
            refine eff_next (by rfl) (fun K hK => ?_)
            go_simp
            refine hK _ _ (fun _ => (World.cell?_alloc_lt w5 _ ⟨bo, 2, none⟩ lb').trans cb2') ?_
            clear hK K
            try simp only [Act.put, List.setIfInBounds_toArray, List.set_cons_zero, List.set_cons_succ]
            refine eff_next (by rfl) (fun K hK => ?_)
            have hrow : bo + 1 ≤ w5.heap.size := lb'
            (with_reducible refine wp_append_lies _ (.tmp 51) (.tmp 54) _ rfl (bo + 1) 32 i0 _ 3 48 Tryd.underlying25 HI0.out HZ0.out HZ1.out HZ2.out rfl (by omega) (.slice A acc.length cp) acc.length xs rfl (HX1.out.alloc _) ⟨w5.heap.size, 0, none⟩ 1 1 [.bool false, .string ⟨#[]⟩, .slice none 0 0] rfl rfl (World.news_of_block (cs := #[.bool false, .string ⟨#[]⟩, .slice none 0 0]) (t := 32) (fr := (0, 0)) (heap_alloc_new w5 _)) (by simp [Value.oneCell']) (by omega) (by unfold maxLen; omega) (by omega) (by simp; omega) (w5.heap.size + 1) (by simp) ?_)
            intro g cp6 w6 hown6 hgrow hat hlt6
            have hC := HEE.out.app HX1.out g cp6 (acc.length + 1) w6 _ hgrow
            have hc6 := hC.2.1
            have hf6 := hC.2.2.1
            have hl6 := hC.2.2.2
            have HC6 := Lib.hid hC.1
            clear hC hown6 hgrow hat hlt6
            refine hK _ _ (fun _ => hc6) ?_
            clear hK K
            try simp only [Act.put, List.setIfInBounds_toArray, List.set_cons_zero, List.set_cons_succ]
            refine eff_next (by rfl) (fun K hK => ?_)
            go_simp
            refine hK _ _ (fun _ => hc6) ?_
            clear hK K
            try simp only [Act.put, List.setIfInBounds_toArray, List.set_cons_zero, List.set_cons_succ]
            refine eff_next (by rfl) (fun K hK => ?_)
            go_simp
            refine hK _ _ (fun h => absurd rfl h) ?_
            clear hK K
            try simp only [Act.put, List.setIfInBounds_toArray, List.set_cons_zero, List.set_cons_succ]
            refine eff_done ?_
            generalize w6.setCell ⟨bo, 2, none⟩ (.slice (some ⟨g, 0, none⟩) (acc.length + 1) cp6) = w7 at HC6
            clear hc6 hf6 hl6 hrow cb2' lb' hcb2

            obtain ⟨t7, i7, hr7⟩ := HC6.out.rd
            have HIS := Lib.hid (ris_any hr7 [97, 110, 100])
            rw [show ((2 : Int) == 0 && isT t7 [97, 110, 100]) = false from by rw [beq_eq_false_iff_ne.2 HC6.out.hx]; rfl] at HIS
            clear hr7
            go_wp2_with fail
            refine HIS.out.mono ?_
            rintro e8 w8 ⟨rfl, hb8⟩
            have HC8 := Lib.hid (HC6.out.below hb8)
            clear hb8 HIS HC6
            go_wp2_with fail
            go_roundg (gk - 1)
            case measure => omega
            case rel => exact ⟨.inr ⟨_, _, _, _, _, HC8.out, by rw [HI4.out.2.2.2, HCE.out]⟩, _, rfl⟩
          focus
            refine (rfail_ok HRX.out 2 (by decide)).mono ?_
            rintro e wy ⟨rfl, he5⟩
            have HCE : Hid (bodyF gk acc cur = .err (hd cur).pos 2) := bodyF_err hn0' (litF_full (by rw [h8, HNN.out]; first | rfl | (rw [HKD.out, k1]; rfl)))
            have HEX := Lib.hid (HSX.out.err he5)
            have hown := HSX.out.own.keep keeps_li he5.2.2 (fun k hk => by injection hk; have := HSX.out.ltr; have := HSX.out.le0; omega)
            obtain ⟨xs, hx0, _⟩ := hown.row
            have HOW := Lib.hid hx0
            clear he5 hown hx0 HSX HRX
            obtain ⟨_, _, hcb2, _, hlbo, _, _⟩ := HEX.out.facts
            go_wp2_with fail

            have hS : wy.cell? ⟨bo, 2, none⟩ = some (.slice A acc.length cp) := hcb2
            refine region_mix (fun x => x.cell? ⟨bo, 2, none⟩ = some (.slice A acc.length cp)) [0, 1, 2] [3, 4, 5, 6, 7] (by kernel_rfl) (by kernel_rfl) (by intro c a d v w h; cases d <;> exact h) hS ?_
            simp only [picks, List.filterMap_cons, List.filterMap_nil, List.getElem?_toArray, List.getElem?_cons_succ, List.getElem?_cons_zero]
            repeat (refine rd_next _ (by rfl) (by intro w' hS'; go_simp; try with_reducible rfl) ?_; simp only [Act.put, List.setIfInBounds_toArray, List.set_cons_zero, List.set_cons_succ])
            refine rd_done ?_
            refine eff_next (by rfl) (fun K hK => ?_)
            go_simp
            clear hS

            obtain ⟨tx, ix, hrx⟩ := HEX.out.rd
            have HRW := Lib.hid (hrx.below (w' := wy.drew) (Below.refl _ _).drew)
            have HEW := Lib.hid (HEX.out.below (w' := wy.drew) (Below.refl _ _).drew)
            clear HEX hrx
            (with_reducible refine (rlit_no wy.drew rb tb cap toks tx ix _ _ HRW.out HEW.out.hx).mono ?_)
            rintro e' w5 ⟨rfl, hb5⟩
            have HEE := Lib.hid (HEW.out.below hb5)
            have HX1 := Lib.hid (own_grown HOW.out (grown_trans (grown_of_below (Below.refl wy.heap.size wy).drew none) (grown_of_below hb5 none)))
            clear hb5
            obtain ⟨_, _, cb2', _, lb', _, _⟩ := HEE.out.facts
            refine hK _ _ (fun _ => cb2') ?_

            clear hK K
            try simp only [Act.put, List.setIfInBounds_toArray, List.set_cons_zero, List.set_cons_succ]
            refine eff_next (by rfl) (fun K hK => ?_)
            go_simp
            refine hK _ _ (fun _ => (World.cell?_alloc_lt w5 _ ⟨bo, 2, none⟩ lb').trans cb2') ?_
            clear hK K
            try simp only [Act.put, List.setIfInBounds_toArray, List.set_cons_zero, List.set_cons_succ]
            refine eff_next (by rfl) (fun K hK => ?_)
            have hrow : bo + 1 ≤ w5.heap.size := lb'
            (with_reducible refine wp_append_lies _ (.tmp 51) (.tmp 54) _ rfl (bo + 1) 32 i0 _ 3 48 Tryd.underlying25 HI0.out HZ0.out HZ1.out HZ2.out rfl (by omega) (.slice A acc.length cp) acc.length xs rfl (HX1.out.alloc _) ⟨w5.heap.size, 0, none⟩ 1 1 [.bool false, .string ⟨#[]⟩, .slice none 0 0] rfl rfl (World.news_of_block (cs := #[.bool false, .string ⟨#[]⟩, .slice none 0 0]) (t := 32) (fr := (0, 0)) (heap_alloc_new w5 _)) (by simp [Value.oneCell']) (by omega) (by unfold maxLen; omega) (by omega) (by simp; omega) (w5.heap.size + 1) (by simp) ?_)
            intro g cp6 w6 hown6 hgrow hat hlt6
            have hC := HEE.out.app HX1.out g cp6 (acc.length + 1) w6 _ hgrow
            have hc6 := hC.2.1
            have hf6 := hC.2.2.1
            have hl6 := hC.2.2.2
            have HC6 := Lib.hid hC.1
            clear hC hown6 hgrow hat hlt6
            refine hK _ _ (fun _ => hc6) ?_
            clear hK K
            try simp only [Act.put, List.setIfInBounds_toArray, List.set_cons_zero, List.set_cons_succ]
            refine eff_next (by rfl) (fun K hK => ?_)
            go_simp
            refine hK _ _ (fun _ => hc6) ?_
            clear hK K
            try simp only [Act.put, List.setIfInBounds_toArray, List.set_cons_zero, List.set_cons_succ]
            refine eff_next (by rfl) (fun K hK => ?_)
            go_simp
            refine hK _ _ (fun h => absurd rfl h) ?_
            clear hK K
            try simp only [Act.put, List.setIfInBounds_toArray, List.set_cons_zero, List.set_cons_succ]
            refine eff_done ?_
            generalize w6.setCell ⟨bo, 2, none⟩ (.slice (some ⟨g, 0, none⟩) (acc.length + 1) cp6) = w7 at HC6
            clear hc6 hf6 hl6 hrow cb2' lb' hcb2

            obtain ⟨t7, i7, hr7⟩ := HC6.out.rd
            have HIS := Lib.hid (ris_any hr7 [97, 110, 100])
            rw [show ((2 : Int) == 0 && isT t7 [97, 110, 100]) = false from by rw [beq_eq_false_iff_ne.2 HC6.out.hx]; rfl] at HIS
            clear hr7
            go_wp2_with fail
            refine HIS.out.mono ?_
            rintro e8 w8 ⟨rfl, hb8⟩
            have HC8 := Lib.hid (HC6.out.below hb8)
            clear hb8 HIS HC6
            go_wp2_with fail
            go_roundg (gk - 1)
            case measure => omega
            case rel => exact ⟨.inr ⟨_, _, _, _, _, HC8.out, by rw [HI4.out.2.2.2, HCE.out]⟩, _, rfl⟩
          have HLZ : Hid (litF acc.length cur = litF 0 cur) := litF_zero (by rw [h8, HNN.out, HKD.out, k1]; rfl)
        all_goals
          obtain ⟨_, _, hcb2, _, hlbo, _⟩ := HSX.out.facts
          have hS : wx.cell? ⟨bo, 2, none⟩ = some (.slice A acc.length cp) := hcb2
          refine region_mix (fun x => x.cell? ⟨bo, 2, none⟩ = some (.slice A acc.length cp)) [0, 1, 2] [3, 4, 5, 6, 7] (by kernel_rfl) (by kernel_rfl) (by intro c a d v w h; cases d <;> exact h) hS ?_
          simp only [picks, List.filterMap_cons, List.filterMap_nil, List.getElem?_toArray, List.getElem?_cons_succ, List.getElem?_cons_zero]
          repeat (refine rd_next _ (by rfl) (by intro w' hS'; go_simp; try with_reducible rfl) ?_; simp only [Act.put, List.setIfInBounds_toArray, List.set_cons_zero, List.set_cons_succ])
          refine rd_done ?_
          refine eff_next (by rfl) (fun K hK => ?_)
          go_simp
          clear hS

          have HRW := Lib.hid (HRX.out.below (w' := wx.drew) (Below.refl _ _).drew)
          have HSW : Hid (RRt w wx.drew rb tb cap toks w.heap.size bo (.string nm) (.slice A0 n0 cp0) hd0 (.slice A acc.length cp) acc cur) := HSX.out.move ⟨⟨_, HRW.out⟩, grown_of_below (Below.refl _ _).drew _⟩
          clear HSX HRX
          (with_reducible refine (rlit_ok wx.drew rb tb cap toks cur i4 HRW.out).mono ?_)
          cases ht : litF 0 cur with
          | err p e =>
            have HCE : Hid (bodyF gk acc cur = .err p e) := bodyF_err hn0' (by rw [HLZ.out]; exact ht)
            clear ht
            rintro e' w5 ⟨bb, nm', A', n', cp', rfl, he5⟩
            have HEE := Lib.hid (HSW.out.err he5)
            have hown := HSW.out.own.keep keeps_li he5.2.2 (fun k hk => by injection hk; have := HSW.out.ltr; have := HSW.out.le0; omega)
            obtain ⟨xs, hx1, _⟩ := hown.row
            have HX1 := Lib.hid hx1
            clear he5 hown hx1
            obtain ⟨_, _, cb2', _, lb', _, _⟩ := HEE.out.facts
            refine hK _ _ (fun _ => cb2') ?_
            clear hK K
            try simp only [Act.put, List.setIfInBounds_toArray, List.set_cons_zero, List.set_cons_succ]
            refine eff_next (by rfl) (fun K hK => ?_)
            go_simp
            refine hK _ _ (fun _ => (World.cell?_alloc_lt w5 _ ⟨bo, 2, none⟩ lb').trans cb2') ?_
            clear hK K
            try simp only [Act.put, List.setIfInBounds_toArray, List.set_cons_zero, List.set_cons_succ]
            refine eff_next (by rfl) (fun K hK => ?_)
            have hrow : bo + 1 ≤ w5.heap.size := lb'
            (with_reducible refine wp_append_lies _ (.tmp 51) (.tmp 54) _ rfl (bo + 1) 32 i0 _ 3 48 Tryd.underlying25 HI0.out HZ0.out HZ1.out HZ2.out rfl (by omega) (.slice A acc.length cp) acc.length xs rfl (HX1.out.alloc _) ⟨w5.heap.size, 0, none⟩ 1 1 [.bool bb, .string nm', .slice A' n' cp'] rfl rfl (World.news_of_block (cs := #[.bool bb, .string nm', .slice A' n' cp']) (t := 32) (fr := (0, 0)) (heap_alloc_new w5 _)) (by simp [Value.oneCell']) (by omega) (by unfold maxLen; omega) (by omega) (by simp; omega) (w5.heap.size + 1) (by simp) ?_)
            intro g cp6 w6 hown6 hgrow hat hlt6
            have hC := HEE.out.app HX1.out g cp6 (acc.length + 1) w6 _ hgrow
            have hc6 := hC.2.1
            have hf6 := hC.2.2.1
            have hl6 := hC.2.2.2
            have HC6 := Lib.hid hC.1
            clear hC hown6 hgrow hat hlt6
            refine hK _ _ (fun _ => hc6) ?_
            clear hK K
            try simp only [Act.put, List.setIfInBounds_toArray, List.set_cons_zero, List.set_cons_succ]
            refine eff_next (by rfl) (fun K hK => ?_)
            go_simp
            refine hK _ _ (fun _ => hc6) ?_
            clear hK K
            try simp only [Act.put, List.setIfInBounds_toArray, List.set_cons_zero, List.set_cons_succ]
            refine eff_next (by rfl) (fun K hK => ?_)
            go_simp
            refine hK _ _ (fun h => absurd rfl h) ?_
            clear hK K
            try simp only [Act.put, List.setIfInBounds_toArray, List.set_cons_zero, List.set_cons_succ]
            refine eff_done ?_
            generalize w6.setCell ⟨bo, 2, none⟩ (.slice (some ⟨g, 0, none⟩) (acc.length + 1) cp6) = w7 at HC6
            clear hc6 hf6 hl6 hrow cb2' lb' hcb2
            obtain ⟨t7, i7, hr7⟩ := HC6.out.rd
            have HIS := Lib.hid (ris_any hr7 [97, 110, 100])
            rw [show (e == 0 && isT t7 [97, 110, 100]) = false from by rw [beq_eq_false_iff_ne.2 HC6.out.hx]; rfl] at HIS
            clear hr7
            go_wp2_with fail
            refine HIS.out.mono ?_
            rintro e8 w8 ⟨rfl, hb8⟩
            have HC8 := Lib.hid (HC6.out.below hb8)
            clear hb8 HIS HC6
            go_wp2_with fail
            go_roundg (gk - 1)
            case measure => omega
            case rel => exact ⟨.inr ⟨_, _, _, _, _, HC8.out, by rw [HI4.out.2.2.2, HCE.out]⟩, _, rfl⟩

          | ok t rest =>
            have HL8 : Hid (acc.length ≠ 8) := fun e8 => by
              obtain ⟨p, e, h8⟩ := litF_8 cur
              have h := HLZ.out
              rw [ht, e8, h8] at h
              cases h
            have HCE : Hid (bodyF gk acc cur = bodyK (gk - 1) (acc ++ [t]) rest) := bodyF_ok hn0' (by rw [HLZ.out]; exact ht)
            clear ht
            rintro e' w5 ⟨x, rfl, htm, hmv⟩
            have hS4 := HSW.out.move hmv
            obtain ⟨xs, hx1, hx2⟩ := hS4.app htm hlbo (fun k hk => by have h3 := HSW.out.own; obtain ⟨_, _, _, h3, _⟩ := h3; exact (h3.lt k hk).2)
            obtain ⟨_, _, cb2', _, lb', _⟩ := hS4.facts
            obtain ⟨bb, nm', A', cp', l', rfl, rfl⟩ := htm.form
            have HX1 := Lib.hid hx1
            have HX2 := Lib.hid hx2
            clear hx1 hx2 hS4 htm hmv
            refine hK _ _ (fun _ => cb2') ?_
            clear hK K
            try simp only [Act.put, List.setIfInBounds_toArray, List.set_cons_zero, List.set_cons_succ]
            refine eff_next (by rfl) (fun K hK => ?_)
            go_simp
            refine hK _ _ (fun _ => (World.cell?_alloc_lt w5 _ ⟨bo, 2, none⟩ lb').trans cb2') ?_
            clear hK K
            try simp only [Act.put, List.setIfInBounds_toArray, List.set_cons_zero, List.set_cons_succ]
            refine eff_next (by rfl) (fun K hK => ?_)
            have hrow : bo + 1 ≤ w5.heap.size := lb'
            (with_reducible refine wp_append_lies _ (.tmp 51) (.tmp 54) _ rfl (bo + 1) 32 i0 _ 3 48 Tryd.underlying25 HI0.out HZ0.out HZ1.out HZ2.out rfl (by omega) (.slice A acc.length cp) acc.length xs rfl (HX1.out.alloc _) ⟨w5.heap.size, 0, none⟩ 1 1 [.bool bb, .string (bs nm'), .slice A' l'.length cp'] rfl rfl (World.news_of_block (cs := #[.bool bb, .string (bs nm'), .slice A' l'.length cp']) (t := 32) (fr := (0, 0)) (heap_alloc_new w5 _)) (by simp [Value.oneCell']) (by omega) (by unfold maxLen; omega) (by omega) (by simp; omega) (w5.heap.size + 1) (by simp) ?_)
            intro g cp6 w6 hown6 hgrow hat hlt6
            have hC := HX2.out g cp6 w6 _ hown6 hgrow hat
            have hc6 := hC.2.1
            have hf6 := hC.2.2.1
            have hl6 := hC.2.2.2
            have HC6 := Lib.hid hC.1
            clear hC hown6 hgrow hat hlt6
            refine hK _ _ (fun _ => hc6) ?_
            clear hK K
            try simp only [Act.put, List.setIfInBounds_toArray, List.set_cons_zero, List.set_cons_succ]
            refine eff_next (by rfl) (fun K hK => ?_)
            go_simp
            refine hK _ _ (fun _ => hc6) ?_
            clear hK K
            try simp only [Act.put, List.setIfInBounds_toArray, List.set_cons_zero, List.set_cons_succ]
            refine eff_next (by rfl) (fun K hK => ?_)
            go_simp
            refine hK _ _ (fun h => absurd rfl h) ?_
            clear hK K
            try simp only [Act.put, List.setIfInBounds_toArray, List.set_cons_zero, List.set_cons_succ]
            refine eff_done ?_
            generalize w6.setCell ⟨bo, 2, none⟩ (.slice (some ⟨g, 0, none⟩) (acc.length + 1) cp6) = w7 at HC6
            clear hc6 hf6 hl6 hrow cb2' lb' hcb2

            obtain ⟨i7, hr7⟩ := HC6.out.rd
            have HIS := Lib.hid (ris_any hr7 [97, 110, 100])
            have HR7 := Lib.hid hr7
            clear hr7
            generalize hbb7 : isT rest [97, 110, 100] = b7 at HIS
            have HB7 := Lib.hid hbb7
            clear hbb7
            simp only [beq_self_eq_true, Bool.true_and] at HIS
            go_wp2_with fail
            refine HIS.out.mono ?_
            rintro e8 w8 ⟨rfl, hb8⟩
            have HC8 := Lib.hid (HC6.out.move (ts' := rest) ⟨⟨_, HR7.out.below hb8⟩, grown_of_below hb8 _⟩)
            clear hb8 HIS HC6 HR7
            go_wp2_with fail
            go_roundg (gk - 1)
            case measure => omega
            case rel =>
              refine ⟨.inl ⟨_, acc ++ [⟨bb, .mk nm' l'⟩], rest, b7, ?_, ?_, HC8.out, ?_, rfl, ?_⟩, _, rfl⟩
              · have := HI4.out.1; rw [List.length_append]; simp; omega
              · have := HI4.out.2.1; have := HL8.out; rw [List.length_append]; simp; omega
              · rw [HI4.out.2.2.2, HCE.out]; unfold bodyK; rw [HB7.out]
              · intro h; exact isT_kind (HB7.out.trans h)

end Go.Proofs.YthkbnjojkeeffaaDoor
