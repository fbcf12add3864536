/- Merged texts: The walk of (*parser.reader).rule: its state. The walk of (*parser.reader).rule. -/
import Derived.Test.YthkbnjojkeeffaaDoorXd
namespace Go.Proofs.YthkbnjojkeeffaaDoor
/- The walk of (*parser.reader).rule: its state. -/
section
open Go Go.RowKit
set_option linter.unusedSimpArgs false

theorem LiV.form {w : World} {P : Nat → Prop} {x : List Value} {l : Li} (h : LiV w P x l) : ∃ b nm A cap a, x = [.bool b, .string (bs nm), .slice A a.length cap] ∧ l = ⟨b, .mk nm a⟩ := by
  obtain ⟨y, rfl, h⟩ := h
  obtain ⟨nm, A, cap, a, rfl, he⟩ := h.form
  refine ⟨l.neg, nm, A, cap, a, rfl, ?_⟩
  rw [← he]

/-- the state inside rule: r2: the result's block, bo: that of 'out' -/
structure RSt (w0 w : World) (rb tb cap : Nat) (toks : List Tok) (r2 bo : Nat) (c0 c1 : Value) (h : Tm) (v : Value) (acc : List Li) (ts : List Tok) : Prop where
  rd : ∃ i, Rd w rb tb cap toks ts i
  le0 : w0.heap.size ≤ r2
  ltr : r2 < bo
  rbl : rb < w0.heap.size
  tbl : tb < w0.heap.size
  out : w.heap[bo]? = some (.cells #[c0, c1, v] 27 (0, 0))
  res : ∃ d0 d1 d2, w.heap[r2]? = some (.cells #[d0, d1, d2] 27 (0, 0))
  hdv : TmV w (fun b => w0.heap.size ≤ b ∧ b < bo ∧ b ≠ r2) [c0, c1] h
  own : OwnL LiV 32 3 w (bo + 1) v acc
  gr : w0.grownBy w (some rb)

section
variable {w0 w w' : World} {rb tb cap : Nat} {toks : List Tok} {r2 bo : Nat} {c0 c1 : Value} {h : Tm} {v : Value} {acc : List Li} {ts ts' : List Tok}
theorem RSt.move (s : RSt w0 w rb tb cap toks r2 bo c0 c1 h v acc ts) (hm : Moved w rb tb cap toks ts' w') :
    RSt w0 w' rb tb cap toks r2 bo c0 c1 h v acc ts' := by
  obtain ⟨h1, h2, h3, h4, h4', h5, ⟨d0, d1, d2, h6⟩, h7, h8, h9⟩ := s
  exact ⟨hm.1, h2, h3, h4, h4', (hm.2.block bo (heap_lt h5) (by simp; omega)).trans h5, ⟨d0, d1, d2, (hm.2.block r2 (heap_lt h6) (by simp; omega)).trans h6⟩,
    h7.keep (fun b hb hlt => ⟨hb, hm.2.block b hlt (by simp; omega)⟩) hm.2.size, h8.keep keeps_li hm.2 (fun k hk => by injection hk; omega), grown_trans h9 hm.2⟩
theorem RSt.facts (s : RSt w0 w rb tb cap toks r2 bo c0 c1 h v acc ts) :
    w.cell? ⟨bo, 0, none⟩ = some c0 ∧ w.cell? ⟨bo, 1, none⟩ = some c1 ∧ w.cell? ⟨bo, 2, none⟩ = some v ∧ w.frozen? ⟨bo, 2, none⟩ = false ∧ bo < w.heap.size ∧ r2 < w.heap.size := by
  obtain ⟨a, b, c, _, _, d⟩ := cells_three s.out
  refine ⟨a, b, c, d, heap_lt s.out, ?_⟩
  obtain ⟨_, _, _, h6⟩ := s.res; exact heap_lt h6
theorem RSt.facts2 (s : RSt w0 w rb tb cap toks r2 bo c0 c1 h v acc ts) :
    ∃ d0 d1 d2, w.cell? ⟨r2, 0, none⟩ = some d0 ∧ w.cell? ⟨r2, 1, none⟩ = some d1 ∧ w.cell? ⟨r2, 2, none⟩ = some d2 ∧ w.frozen? ⟨r2, 0, none⟩ = false ∧ w.frozen? ⟨r2, 1, none⟩ = false ∧ w.frozen? ⟨r2, 2, none⟩ = false := by
  obtain ⟨d0, d1, d2, h6⟩ := s.res
  exact ⟨d0, d1, d2, cells_three h6⟩
/-- the end: the result is written into its block -/
theorem RSt.fin (s : RSt w0 w rb tb cap toks r2 bo c0 c1 h v acc ts) (u0 u1 u2 : Value) :
    RuV (((w.setCell ⟨r2, 0, none⟩ u0).setCell ⟨r2, 1, none⟩ u1).setCell ⟨r2, 2, none⟩ u2) (fun b => w0.heap.size ≤ b) [c0, c1, v] ⟨h, acc⟩ ∧ Moved w0 rb tb cap toks ts (((w.setCell ⟨r2, 0, none⟩ u0).setCell ⟨r2, 1, none⟩ u1).setCell ⟨r2, 2, none⟩ u2) := by
  have hg : w.grownBy (((w.setCell ⟨r2, 0, none⟩ u0).setCell ⟨r2, 1, none⟩ u1).setCell ⟨r2, 2, none⟩ u2) (some r2) := grown_trans (grown_trans (grown_set _ _ _ _) (grown_set _ _ _ _)) (grown_set _ _ _ _)
  have hl := s.ltr
  have h0 := s.le0
  refine ⟨?_, Moved.other ⟨s.rd, s.gr⟩ hg s.le0 s.rbl s.tbl⟩
  obtain ⟨A, cp, rfl⟩ := s.own.len
  refine ⟨[c0, c1], A, cp, rfl, s.hdv.keep (fun b hb hlt => ⟨hb.1, hg.block b hlt (fun e => by injection e; omega)⟩) hg.size, ?_⟩
  exact (s.own.sl keeps_li).keep keeps_li (fun b hb hlt => ⟨by omega, hg.block b hlt (fun e => by injection e; omega)⟩) hg.size

/-- one literal more -/
theorem RSt.app (s : RSt w0 w rb tb cap toks r2 bo c0 c1 h v acc ts)
    {B : Nat} {x : List Value} {t : Li} (hx : LiV w (fun b => B ≤ b) x t) (hB : bo < B) (hv : ∀ k, v.ownBlock = some k → k < B) :
    ∃ xs, w.ownsRow (bo + 1) 32 3 v acc.length xs ∧ ∀ (g cp : Nat) (w6 : World) (o : Obj), w6.ownsRow (bo + 1) 32 3 (.slice (some ⟨g, 0, none⟩) (acc.length + 1) cp) (acc.length + 1) (xs ++ x) →
      (w.alloc o).grownBy w6 v.ownBlock → (v.ownBlock = some g ∨ g = w.heap.size + 1) →
      RSt w0 (w6.setCell ⟨bo, 2, none⟩ (.slice (some ⟨g, 0, none⟩) (acc.length + 1) cp)) rb tb cap toks r2 bo c0 c1 h (.slice (some ⟨g, 0, none⟩) (acc.length + 1) cp) (acc ++ [t]) ts ∧
      w6.cell? ⟨bo, 2, none⟩ = some v ∧ w6.frozen? ⟨bo, 2, none⟩ = false ∧ bo < w6.heap.size := by
  obtain ⟨xs, h1, h2, h3, h4⟩ := s.own
  refine ⟨xs.flatten, h3, fun g cp w6 o hown hgrow hat => ?_⟩
  have hlt := h3.lt
  have hbo := heap_lt s.out
  obtain ⟨nb', nm', A', cap', l', hxe, hte⟩ := hx.form
  have hpush := OwnL.push keeps_li h1 h2 h4 (keeps_li _ _ _ _ _ _ hx (fun b hb _ => ⟨⟨by omega, fun e => by have := hv b e.symm; omega⟩, rfl⟩) (Nat.le_refl _)) (by rw [hxe]; rfl) (wA := w.alloc o) (fun b hb => Below.heap_alloc w o b hb) (by simp) hown hgrow
    (by rcases hat with hat | hat
        · exact .inl hat
        · exact .inr (by omega))
  have hne : ∀ b, b < w.heap.size → v.ownBlock ≠ some b → w6.heap[b]? = w.heap[b]? := fun b hb hn => (hgrow.block b (by simp; omega) (Ne.symm hn)).trans (Below.heap_alloc w o b hb)
  have hnb : v.ownBlock ≠ some bo := fun e => by have := (hlt bo e).1; omega
  have hnr : ∀ b, b < bo → v.ownBlock ≠ some b := fun b hb e => by have := (hlt b e).1; omega
  have hgb : g ≠ bo := by
    rintro rfl
    rcases hat with hat | hat
    · exact hnb hat
    · omega
  have hs6 : w.heap.size ≤ w6.heap.size := by have := hgrow.size; simp at this; omega
  have hout : w6.heap[bo]? = some (.cells #[c0, c1, v] 27 (0, 0)) := (hne bo hbo hnb).trans s.out
  have hset : ∀ b, b ≠ bo → (w6.setCell ⟨bo, 2, none⟩ (.slice (some ⟨g, 0, none⟩) (acc.length + 1) cp)).heap[b]? = w6.heap[b]? := fun b hb => Below.heap_setCell _ _ _ _ (by exact hb)
  have hsz7 : (w6.setCell ⟨bo, 2, none⟩ (.slice (some ⟨g, 0, none⟩) (acc.length + 1) cp)).heap.size = w6.heap.size := by simp
  have h0 := s.le0
  have hl := s.ltr
  refine ⟨⟨?_, s.le0, s.ltr, s.rbl, s.tbl, ?_, ?_, ?_, ?_, ?_⟩, ?_, ?_, heap_lt hout⟩
  · obtain ⟨i, hi⟩ := s.rd
    have hrb := hi.rlt
    have htb := hi.tk.1
    have hb1 := s.rbl
    have htl := s.tbl
    refine ⟨i, hi.lt, hi.ts_, ?_, hi.tk.keep ?_ (by omega), hi.ne, hi.big, hi.fin⟩
    · rw [hset rb (by omega), hne rb hrb (hnr rb (by omega))]; exact hi.blk
    · rw [hset tb (by omega), hne tb htb (hnr tb (by omega))]
  · simp [World.setCell, Array.getElem?_modify, hout]
  · obtain ⟨d0, d1, d2, h6⟩ := s.res
    exact ⟨d0, d1, d2, by rw [hset r2 (by omega), hne r2 (heap_lt h6) (hnr r2 s.ltr)]; exact h6⟩
  · exact s.hdv.keep (fun b hb hlb => ⟨hb, by rw [hset b (by omega), hne b hlb (hnr b (by omega))]⟩) (by omega)
  · exact hpush.keep keeps_li (row := some bo) ⟨rfl, rfl, rfl, by omega, fun k _ hk => hset k (fun e => hk (by rw [e]))⟩ (fun k hk => by injection hk; omega)
  · have hg := s.gr
    refine ⟨hgrow.os.trans hg.os, hgrow.tape.trans hg.tape, hgrow.output.trans hg.output, by have := hg.size; omega, fun k hk hne2 => ?_⟩
    rw [hset k (by omega), hne k (by have := hg.size; omega) (hnr k (by omega))]
    exact hg.block k hk hne2
  · rw [cell_of_row w6 bo 2 _ _ _ hout]; rfl
  · simp [World.frozen?, hout]
end

def bodyK (n : Nat) (acc : List Li) (cur : List Tok) : PR (List Li) := if isT cur [97, 110, 100] then bodyF n acc cur.tail else .ok acc cur
def finR (h : Tm) (r : PR (List Li)) : PR Ru :=
  match r with
  | .err p e => .err p e
  | .ok b ts2 => if isT ts2 [46] then .ok ⟨h, b⟩ ts2.tail else failT ts2 1
theorem litF_8 (ts : List Tok) : ∃ p e, litF 8 ts = .err p e := by
  cases hn : isT ts [110, 111, 116] with
  | true => exact ⟨_, _, litF_full (by rw [hn]; rfl)⟩
  | false =>
    cases hk : (hd ts).kind == 1 with
    | true => exact ⟨_, _, litF_full (by rw [hk]; simp)⟩
    | false => exact ⟨_, _, by rw [litF_go (by rw [hn, hk]; rfl), hn, if_neg Bool.false_ne_true]; unfold atomF; rw [hk]; rfl⟩
theorem bodyF_err {n : Nat} {acc : List Li} {ts : List Tok} {p : Nat} {e : Int} (hn : 0 < n) (h : litF acc.length ts = .err p e) : bodyF n acc ts = .err p e := by
  cases n with
  | zero => omega
  | succ n => rw [bodyF, h]
theorem bodyF_ok {n : Nat} {acc : List Li} {ts r : List Tok} {l : Li} (hn : 0 < n) (h : litF acc.length ts = .ok l r) : bodyF n acc ts = bodyK (n - 1) (acc ++ [l]) r := by
  cases n with
  | zero => omega
  | succ n => rw [bodyF, h]; rfl
theorem ruleF_err {ts : List Tok} {p : Nat} {e : Int} (h : atomF ts = .err p e) : ruleF ts = .err p e := by unfold ruleF; rw [h]
theorem ruleF_ok {ts r : List Tok} {t : Tm} (h : atomF ts = .ok t r) : ruleF ts = finR t (if isT r [105, 102] then bodyF 9 [] r.tail else .ok [] r) := by
  unfold ruleF; rw [h]; rfl
theorem infoRule : (Tryd.prog.info? 27).map (fun i => (i.zero, i.size, i.bytes)) = some (some (.agg #[.string ⟨#[]⟩, .slice none 0 0, .slice none 0 0]), 3, 64) := by kernel_rfl

end
/- The walk of (*parser.reader).rule. -/
section
open Go Go.RowKit
set_option linter.unusedSimpArgs false

theorem infoLit2 : (Tryd.prog.info? 32).map (fun i => (i.zero, i.size, i.bytes)) = some (some (.agg #[.bool false, .string ⟨#[]⟩, .slice none 0 0]), 3, 48) := infoLit

set_option maxHeartbeats 8000000 in
set_option maxRecDepth 100000 in
theorem rule_any (w : World) (rb tb cap : Nat) (toks ts : List Tok) (i : Nat) (h : Rd w rb tb cap toks ts i) :
    Calls Tryd.prog 47 #[.pointer (some ⟨rb, 0, none⟩)] w (RPost RuV w rb tb cap toks (ruleF ts)) := by
  have HR := Lib.hid h
  have hrw := h.rlt
  have htw := h.tk.1
  clear h
  obtain ⟨i0, hi0, hz0, hz1, hz2⟩ := info_parts infoLit2
  have HI0 := Lib.hid hi0; have HZ0 := Lib.hid hz0; have HZ1 := Lib.hid hz1; have HZ2 := Lib.hid hz2
  clear hi0 hz0 hz1 hz2
  have HR1 := Lib.hid (HR.out.below (w' := w.alloc (.cells #[.string ⟨#[]⟩, .slice none 0 0, .slice none 0 0] 27)) ((Below.refl _ _).alloc (Nat.le_refl _) _))
  have HRES := Lib.hid (heap_alloc_new w (.cells #[.string ⟨#[]⟩, .slice none 0 0, .slice none 0 0] 27))
  have HG := Lib.hid (World.grownBy_alloc w (.cells #[.string ⟨#[]⟩, .slice none 0 0, .slice none 0 0] 27) (some rb))
  go_enter Tryd.func47, Tryd.ntmps47
  go_wp2_with fail
  generalize w.alloc (.cells #[.string ⟨#[]⟩, .slice none 0 0, .slice none 0 0] 27) = w0 at *
  (with_reducible refine (atom_any w0 rb tb cap toks ts i HR1.out).mono ?_)
  cases hat : atomF ts with
  | err p e =>
    have HT := Lib.hid (ruleF_err hat)
    clear hat
    rintro e' w3 ⟨rfl, hg⟩
    refine ⟨rfl, ?_⟩
    unfold RPost
    rw [HT.out]
    exact ⟨rfl, grown_trans HG.out hg⟩
  | ok t r =>
    have HT := Lib.hid (ruleF_ok hat)
    clear hat
    rintro e' w1 ⟨x, rfl, htm, hmv⟩
    obtain ⟨nm, A0, cp0, l0, rfl, rfl⟩ := htm.form
    have hsz0 := heap_lt HRES.out
    have hsz : w.heap.size < w1.heap.size := by have := hmv.2.size; omega
    have HST : Hid (RSt w (w1.alloc (.cells #[.string (bs nm), .slice A0 l0.length cp0, .slice none 0 0] 27)) rb tb cap toks w.heap.size w1.heap.size (.string (bs nm)) (.slice A0 l0.length cp0) (.mk nm l0) (.slice none 0 0) [] r) := by
      obtain ⟨⟨i1, hr1⟩, hg1⟩ := hmv
      have hb : Below w1.heap.size w1 (w1.alloc (.cells #[.string (bs nm), .slice A0 l0.length cp0, .slice none 0 0] 27)) := (Below.refl _ _).alloc (Nat.le_refl _) _
      refine ⟨⟨i1, hr1.below hb⟩, Nat.le_refl _, hsz, hrw, htw, heap_alloc_new _ _, ⟨_, _, _, (hb.block _ hsz).trans ((hg1.block _ hsz0 (by simp; omega)).trans HRES.out)⟩, ?_, OwnL.nil _ _ _ _ _, grown_trans (grown_trans HG.out hg1) (grown_of_below hb _)⟩
      exact htm.keep (fun b hb' hlt => ⟨⟨by omega, hlt, by omega⟩, hb.block b hlt⟩) hb.size
    clear htm hmv HRES HR1 HG
    go_wp2_with fail
    generalize w1.alloc (.cells #[.string (bs nm), .slice A0 l0.length cp0, .slice none 0 0] 27) = w2 at *
    generalize w1.heap.size = bo at *
    clear w1
    obtain ⟨i2, hr2⟩ := HST.out.rd
    have HAC := Lib.hid (accept_any hr2 [105, 102])
    clear hr2
    cases hif : isT r [105, 102] with
    | false =>
      rw [hif] at HAC HT
      simp only [Bool.false_eq_true, if_false] at HT
      clear hif
      refine HAC.out.mono ?_
      rintro e w3 ⟨rfl, hm⟩
      have HZ := Lib.hid (HST.out.move (ts' := r) hm)
      clear hm HAC HST
      go_wp2_with fail
      -- the point, and the result
      obtain ⟨iz, hrz⟩ := HZ.out.rd
      have HXP := Lib.hid (expect_any hrz [46])
      clear hrz
      cases hdot : isT r [46] with
      | true =>
        rw [hdot] at HXP
        go_wp2_with fail
        refine HXP.out.mono ?_
        rintro e w9 h9
        obtain ⟨rfl, hm9⟩ := h9
        have HS9 := Lib.hid (HZ.out.move (ts' := r.tail) hm9)
        have HDOT := Lib.hid hdot
        clear hm9 HXP hdot
        obtain ⟨z0, z1, z2, _, lb, lr⟩ := HS9.out.facts
        obtain ⟨d0, d1, d2, e0, e1, e2, g0, g1, g2⟩ := HS9.out.facts2
        have hbr : w.heap.size ≠ bo := by have := HS9.out.ltr; omega
        go_wp2_with fail
        refine bodyPost_ret (v := .agg #[.string (bs nm), .slice A0 l0.length cp0, .slice none 0 0]) (by simp [results, Tryd.results47, go_sem, e0, e1, e2]) rfl ?_
        unfold RPost
        rw [HT.out]
        unfold finR
        simp only []
        rw [if_pos HDOT.out]
        exact ⟨[.string (bs nm), .slice A0 l0.length cp0, .slice none 0 0], rfl, HS9.out.fin _ _ _⟩
      | false =>
        rw [hdot] at HXP
        go_wp2_with fail
        refine HXP.out.mono ?_
        rintro e w9 h9
        obtain ⟨rfl, hg9⟩ := h9
        refine ⟨rfl, ?_⟩
        unfold RPost
        rw [HT.out]
        unfold finR
        simp only []
        rw [if_neg (by rw [hdot]; exact Bool.false_ne_true)]
        exact ⟨rfl, grown_trans HZ.out.gr hg9⟩
    | true =>
      rw [hif] at HAC HT
      simp only [if_true] at HT
      clear hif
      refine HAC.out.mono ?_
      rintro e w3 ⟨rfl, hm⟩
      have HS := Lib.hid (HST.out.move (ts' := r.tail) hm)
      clear hm HAC HST
      obtain ⟨_, _, cb2, fb2, lb, lr⟩ := HS.out.facts
      obtain ⟨i3, hr3⟩ := HS.out.rd
      have HRD := Lib.hid hr3
      clear hr3
      go_wp2_with fail
      have hS : w3.cell? ⟨bo, 2, none⟩ = some (.slice none 0 0) := cb2
      refine region_mix (fun x => x.cell? ⟨bo, 2, none⟩ = some (.slice none 0 0)) [0, 1, 2] [3, 4, 5, 6, 7] (by kernel_rfl) (by kernel_rfl) (by intro c a d v w h; cases d <;> exact h) hS ?_
      simp only [picks, List.filterMap_cons, List.filterMap_nil, List.getElem?_toArray, List.getElem?_cons_succ, List.getElem?_cons_zero]
      repeat (refine rd_next _ (by rfl) (by intro w' hS'; go_simp; try with_reducible rfl) ?_; simp only [Act.put, List.setIfInBounds_toArray, List.set_cons_zero, List.set_cons_succ])
      refine rd_done ?_
      refine eff_next (by rfl) (fun K hK => ?_)
      go_simp
      clear hS
      have HSW := Lib.hid (HS.out.move (w' := w3.drew) (ts' := r.tail) ⟨⟨_, HRD.out.below (Below.refl _ _).drew⟩, grown_of_below (Below.refl _ _).drew _⟩)
      have HRW := Lib.hid (HRD.out.below (w' := w3.drew) (Below.refl _ _).drew)
      cases ht : litF 0 r.tail with
      | err p e =>
        have HCE := Lib.hid ht
        clear ht
        (refine (lit_any w3.drew rb tb cap toks r.tail _ HRW.out 0).mono ?_)
        rw [HCE.out]
        rintro e' w4 ⟨rfl, hg⟩
        refine ⟨rfl, ?_⟩
        unfold RPost
        rw [HT.out, bodyF_err (n := 9) (acc := []) (by omega) HCE.out]
        unfold finR
        exact ⟨rfl, grown_trans HSW.out.gr hg⟩
      | ok t rest =>
        have HCE := Lib.hid ht
        clear ht
        (refine (lit_any w3.drew rb tb cap toks r.tail _ HRW.out 0).mono ?_)
        rw [HCE.out]
        rintro e' w4 ⟨x, rfl, htm, hmv⟩
        have hS4 := HSW.out.move hmv
        obtain ⟨xs, hx1, hx2⟩ := hS4.app htm lb (fun k hk => by have h3 := HSW.out.own; obtain ⟨_, _, _, h3, _⟩ := h3; exact (h3.lt k hk).2)
        obtain ⟨_, _, cb2', fb2', lb', lr'⟩ := hS4.facts
        obtain ⟨bb, nm', A', cp', l', rfl, rfl⟩ := htm.form
        have HX1 := Lib.hid hx1
        have HX2 := Lib.hid hx2
        clear hx1 hx2 hS4 htm hmv
        refine hK _ _ (fun _ => cb2') ?_
        clear hK K
        try simp only [Act.put, List.setIfInBounds_toArray, List.set_cons_zero, List.set_cons_succ]
        refine eff_next (by rfl) (fun K hK => ?_)
        go_simp
        refine hK _ _ (fun _ => (World.cell?_alloc_lt w4 _ ⟨bo, 2, none⟩ lb').trans cb2') ?_
        clear hK K
        try simp only [Act.put, List.setIfInBounds_toArray, List.set_cons_zero, List.set_cons_succ]
        refine eff_next (by rfl) (fun K hK => ?_)
        have hrow : bo + 1 ≤ w4.heap.size := lb'
        (with_reducible refine wp_append_lies _ (.tmp 10) (.tmp 13) _ rfl (bo + 1) 32 i0 _ 3 48 Tryd.underlying25 HI0.out HZ0.out HZ1.out HZ2.out rfl (by omega) (.slice none 0 0) ([] : List Li).length xs rfl (HX1.out.alloc _) ⟨w4.heap.size, 0, none⟩ 1 1 [.bool bb, .string (bs nm'), .slice A' l'.length cp'] rfl rfl (World.news_of_block (cs := #[.bool bb, .string (bs nm'), .slice A' l'.length cp']) (t := 32) (fr := (0, 0)) (heap_alloc_new w4 _)) (by simp [Value.oneCell']) (by omega) (by have hnl : ([] : List Li).length = 0 := rfl; unfold maxLen; omega) (by have hnl : ([] : List Li).length = 0 := rfl; omega) (by simp; omega) (w4.heap.size + 1) (by simp) ?_)
        intro g cp6 w6 hown6 hgrow hat hlt6
        have hC := HX2.out g cp6 w6 _ hown6 hgrow hat
        have hc6 := hC.2.1
        have hf6 := hC.2.2.1
        have hl6 := hC.2.2.2
        have HC6 := Lib.hid hC.1
        clear hC hown6 hgrow hat hlt6
        refine hK _ _ (fun _ => hc6) ?_
        clear hK K
        try simp only [Act.put, List.setIfInBounds_toArray, List.set_cons_zero, List.set_cons_succ]
        refine eff_next (by rfl) (fun K hK => ?_)
        go_simp
        refine hK _ _ (fun _ => hc6) ?_
        clear hK K
        try simp only [Act.put, List.setIfInBounds_toArray, List.set_cons_zero, List.set_cons_succ]
        refine eff_next (by rfl) (fun K hK => ?_)
        go_simp
        refine hK _ _ (fun h => absurd rfl h) ?_
        clear hK K
        try simp only [Act.put, List.setIfInBounds_toArray, List.set_cons_zero, List.set_cons_succ]
        refine eff_done ?_
        generalize w6.setCell ⟨bo, 2, none⟩ (.slice (some ⟨g, 0, none⟩) (([] : List Li).length + 1) cp6) = w7 at HC6
        clear cb2 fb2 lb lr cb2' fb2' lb' lr' hc6 hf6 hl6 hrow HSW HRW HX1 HX2
        clear HS HRD
        have HBK := Lib.hid (bodyF_ok (n := 9) (acc := []) (by omega) HCE.out)
        clear HCE
        go_wp2_with fail
        go_loopg [] 8 (fun n wr => ∃ (v : Value) (acc : List Li) (cur : List Tok), Hid (acc.length + n = 9 ∧ acc.length ≤ 8 ∧ RSt w wr rb tb cap toks w.heap.size bo (.string (bs nm)) (.slice A0 l0.length cp0) (.mk nm l0) v acc cur ∧ bodyF 9 [] r.tail = bodyK n acc cur))
        case atStart => exact ⟨_, [⟨bb, .mk nm' l'⟩], rest, rfl, by simp, HC6.out, HBK.out⟩
        case round =>
          obtain ⟨v, acc, cur, HI⟩ := hrel
          clear HC6 HBK
          obtain ⟨A, cp, rfl⟩ := HI.out.2.2.1.own.len
          obtain ⟨i3, hrd⟩ := HI.out.2.2.1.rd
          have HRD := Lib.hid hrd
          have ha4 : (acc.length : Int) ≤ 8 := by have := HI.out.2.1; omega
          have hn0 : 0 < gk := by have := HI.out.1; have := HI.out.2.1; omega
          have HAC := Lib.hid (accept_any hrd [97, 110, 100])
          clear hrd
          cases hand : isT cur [97, 110, 100] with
          | false =>
            rw [hand] at HAC
            have HB : Hid (finR (.mk nm l0) (bodyF 9 [] r.tail) = finR (.mk nm l0) (.ok acc cur)) := by
              unfold Hid; rw [HI.out.2.2.2]; unfold bodyK; rw [hand]; rfl
            clear hand
            go_wp2_with fail
            refine HAC.out.mono ?_
            rintro e w8 ⟨rfl, hm⟩
            have HZ := Lib.hid (HI.out.2.2.1.move (ts' := cur) hm)
            clear hm HAC HRD
            go_wp2_with fail
            -- the point, and the result
            obtain ⟨iz, hrz⟩ := HZ.out.rd
            have HXP := Lib.hid (expect_any hrz [46])
            clear hrz
            cases hdot : isT cur [46] with
            | true =>
              rw [hdot] at HXP
              go_wp2_with fail
              refine HXP.out.mono ?_
              rintro e w9 h9
              obtain ⟨rfl, hm9⟩ := h9
              have HS9 := Lib.hid (HZ.out.move (ts' := cur.tail) hm9)
              have HDOT := Lib.hid hdot
              clear hm9 HXP hdot
              obtain ⟨z0, z1, z2, _, lb, lr⟩ := HS9.out.facts
              obtain ⟨d0, d1, d2, e0, e1, e2, g0, g1, g2⟩ := HS9.out.facts2
              have hbr : w.heap.size ≠ bo := by have := HS9.out.ltr; omega
              go_wp2_with fail
              refine bodyPost_ret (v := .agg #[.string (bs nm), .slice A0 l0.length cp0, .slice A acc.length cp]) (by simp [results, Tryd.results47, go_sem, e0, e1, e2]) rfl ?_
              unfold RPost
              rw [HT.out, HB.out]
              unfold finR
              simp only []
              rw [if_pos HDOT.out]
              exact ⟨[.string (bs nm), .slice A0 l0.length cp0, .slice A acc.length cp], rfl, HS9.out.fin _ _ _⟩
            | false =>
              rw [hdot] at HXP
              go_wp2_with fail
              refine HXP.out.mono ?_
              rintro e w9 h9
              obtain ⟨rfl, hg9⟩ := h9
              refine ⟨rfl, ?_⟩
              unfold RPost
              rw [HT.out, HB.out]
              unfold finR
              simp only []
              rw [if_neg (by rw [hdot]; exact Bool.false_ne_true)]
              exact ⟨rfl, grown_trans HZ.out.gr hg9⟩
          | true =>
            rw [hand] at HAC
            have HB0 : Hid (bodyF 9 [] r.tail = bodyF gk acc cur.tail) := by
              unfold Hid; rw [HI.out.2.2.2]; unfold bodyK; rw [hand]; rfl
            clear hand
            go_wp2_with fail
            refine HAC.out.mono ?_
            rintro e w8 ⟨rfl, hm⟩
            have HS8 := Lib.hid (HI.out.2.2.1.move (ts' := cur.tail) hm)
            clear hm HAC HRD
            obtain ⟨_, _, cb2, fb2, lb, lr⟩ := HS8.out.facts
            obtain ⟨i8, hr8⟩ := HS8.out.rd
            have HRD := Lib.hid hr8
            clear hr8
            go_wp2_with fail
            have hS : w8.cell? ⟨bo, 2, none⟩ = some (.slice A acc.length cp) := cb2
            refine region_mix (fun x => x.cell? ⟨bo, 2, none⟩ = some (.slice A acc.length cp)) [0, 1, 2, 3, 4, 5] [6, 7, 8, 9, 10] (by kernel_rfl) (by kernel_rfl) (by intro c a d v w h; cases d <;> exact h) hS ?_
            simp only [picks, List.filterMap_cons, List.filterMap_nil, List.getElem?_toArray, List.getElem?_cons_succ, List.getElem?_cons_zero]
            repeat (refine rd_next _ (by rfl) (by intro w' hS'; go_simp; try with_reducible rfl) ?_; simp only [Act.put, List.setIfInBounds_toArray, List.set_cons_zero, List.set_cons_succ])
            refine rd_done ?_
            refine eff_next (by rfl) (fun K hK => ?_)
            go_simp
            clear hS
            have HSW := Lib.hid (HS8.out.move (w' := w8.drew) (ts' := cur.tail) ⟨⟨_, HRD.out.below (Below.refl _ _).drew⟩, grown_of_below (Below.refl _ _).drew _⟩)
            have HRW := Lib.hid (HRD.out.below (w' := w8.drew) (Below.refl _ _).drew)
            cases ht : litF acc.length cur.tail with
            | err p e =>
              have HCE := Lib.hid ht
              clear ht
              (refine (lit_any w8.drew rb tb cap toks cur.tail _ HRW.out acc.length).mono ?_)
              rw [HCE.out]
              rintro e' w4 ⟨rfl, hg⟩
              refine ⟨rfl, ?_⟩
              unfold RPost
              rw [HT.out, HB0.out, bodyF_err hn0 HCE.out]
              unfold finR
              exact ⟨rfl, grown_trans HSW.out.gr hg⟩
            | ok t rest =>
              have HCE := Lib.hid ht
              clear ht
              (refine (lit_any w8.drew rb tb cap toks cur.tail _ HRW.out acc.length).mono ?_)
              rw [HCE.out]
              rintro e' w4 ⟨x, rfl, htm, hmv⟩
              have hS4 := HSW.out.move hmv
              obtain ⟨xs, hx1, hx2⟩ := hS4.app htm lb (fun k hk => by have h3 := HSW.out.own; obtain ⟨_, _, _, h3, _⟩ := h3; exact (h3.lt k hk).2)
              obtain ⟨_, _, cb2', fb2', lb', lr'⟩ := hS4.facts
              obtain ⟨bb, nm', A', cp', l', rfl, rfl⟩ := htm.form
              have HX1 := Lib.hid hx1
              have HX2 := Lib.hid hx2
              clear hx1 hx2 hS4 htm hmv
              refine hK _ _ (fun _ => cb2') ?_
              clear hK K
              try simp only [Act.put, List.setIfInBounds_toArray, List.set_cons_zero, List.set_cons_succ]
              refine eff_next (by rfl) (fun K hK => ?_)
              go_simp
              refine hK _ _ (fun _ => (World.cell?_alloc_lt w4 _ ⟨bo, 2, none⟩ lb').trans cb2') ?_
              clear hK K
              try simp only [Act.put, List.setIfInBounds_toArray, List.set_cons_zero, List.set_cons_succ]
              refine eff_next (by rfl) (fun K hK => ?_)
              have hrow : bo + 1 ≤ w4.heap.size := lb'
              (with_reducible refine wp_append_lies _ (.tmp 19) (.tmp 25) _ rfl (bo + 1) 32 i0 _ 3 48 Tryd.underlying25 HI0.out HZ0.out HZ1.out HZ2.out rfl (by omega) (.slice A acc.length cp) acc.length xs rfl (HX1.out.alloc _) ⟨w4.heap.size, 0, none⟩ 1 1 [.bool bb, .string (bs nm'), .slice A' l'.length cp'] rfl rfl (World.news_of_block (cs := #[.bool bb, .string (bs nm'), .slice A' l'.length cp']) (t := 32) (fr := (0, 0)) (heap_alloc_new w4 _)) (by simp [Value.oneCell']) (by omega) (by have hnl : ([] : List Li).length = 0 := rfl; unfold maxLen; omega) (by have hnl : ([] : List Li).length = 0 := rfl; omega) (by simp; omega) (w4.heap.size + 1) (by simp) ?_)
              intro g cp6 w6 hown6 hgrow hat hlt6
              have hC := HX2.out g cp6 w6 _ hown6 hgrow hat
              have hc6 := hC.2.1
              have hf6 := hC.2.2.1
              have hl6 := hC.2.2.2
              have HC6 := Lib.hid hC.1
              clear hC hown6 hgrow hat hlt6
              refine hK _ _ (fun _ => hc6) ?_
              clear hK K
              try simp only [Act.put, List.setIfInBounds_toArray, List.set_cons_zero, List.set_cons_succ]
              refine eff_next (by rfl) (fun K hK => ?_)
              go_simp
              refine hK _ _ (fun _ => hc6) ?_
              clear hK K
              try simp only [Act.put, List.setIfInBounds_toArray, List.set_cons_zero, List.set_cons_succ]
              refine eff_next (by rfl) (fun K hK => ?_)
              go_simp
              refine hK _ _ (fun h => absurd rfl h) ?_
              clear hK K
              try simp only [Act.put, List.setIfInBounds_toArray, List.set_cons_zero, List.set_cons_succ]
              refine eff_done ?_
              generalize w6.setCell ⟨bo, 2, none⟩ (.slice (some ⟨g, 0, none⟩) (acc.length + 1) cp6) = w7 at HC6
              clear cb2 fb2 lb lr cb2' fb2' lb' lr' hc6 hf6 hl6 hrow HSW HRW HX1 HX2
              have hlen : acc.length ≠ 8 := fun e8 => by
                obtain ⟨p, e, he⟩ := litF_8 cur.tail
                have := HCE.out
                rw [e8, he] at this
                cases this
              have HBK := Lib.hid (bodyF_ok hn0 HCE.out)
              clear HCE
              go_wp2_with fail
              go_roundg (gk - 1)
              case measure => omega
              case rel =>
                refine ⟨_, acc ++ [⟨bb, .mk nm' l'⟩], rest, ?_, ?_, HC6.out, ?_⟩
                · have := HI.out.1; rw [List.length_append]; simp; omega
                · have := HI.out.2.1; rw [List.length_append]; simp; omega
                · rw [HB0.out, HBK.out]

end
end Go.Proofs.YthkbnjojkeeffaaDoor
