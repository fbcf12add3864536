/- The state inside rule of the reference's reader; its literal behind an error. -/
import Derived.Test.YthkbnjojkeeffaaDoorXw
namespace Go.Proofs.YthkbnjojkeeffaaDoor
open Go Go.RowKit
set_option linter.unusedSimpArgs false

/-- the state inside rule: r2: the result's block, bo: that of 'out' -/
structure RRt (w0 w : World) (rb tb cap : Nat) (toks : List Tok) (r2 bo : Nat) (c0 c1 : Value) (h : Tm) (v : Value) (acc : List Li) (ts : List Tok) : Prop where
  rd : ∃ i, RR w rb tb cap toks ts i 0 0
  le0 : w0.heap.size ≤ r2
  ltr : r2 < bo
  rbl : rb < w0.heap.size
  tbl : tb < w0.heap.size
  out : w.heap[bo]? = some (.cells #[c0, c1, v] 27 (0, 0))
  res : ∃ d0 d1 d2, w.heap[r2]? = some (.cells #[d0, d1, d2] 27 (0, 0))
  hdv : TmV w (fun b => w0.heap.size ≤ b ∧ b < bo ∧ b ≠ r2) [c0, c1] h
  own : OwnL LiV 32 3 w (bo + 1) v acc
  gr : w0.grownBy w (some rb)

section
variable {w0 w w' : World} {rb tb cap : Nat} {toks : List Tok} {r2 bo : Nat} {c0 c1 : Value} {h : Tm} {v : Value} {acc : List Li} {ts ts' : List Tok}
theorem RRt.move (s : RRt w0 w rb tb cap toks r2 bo c0 c1 h v acc ts) (hm : RMoved w rb tb cap toks ts' w') :
    RRt w0 w' rb tb cap toks r2 bo c0 c1 h v acc ts' := by
  obtain ⟨h1, h2, h3, h4, h4', h5, ⟨d0, d1, d2, h6⟩, h7, h8, h9⟩ := s
  exact ⟨hm.1, h2, h3, h4, h4', (hm.2.block bo (heap_lt h5) (by simp; omega)).trans h5, ⟨d0, d1, d2, (hm.2.block r2 (heap_lt h6) (by simp; omega)).trans h6⟩,
    h7.keep (fun b hb hlt => ⟨hb, hm.2.block b hlt (by simp; omega)⟩) hm.2.size, h8.keep keeps_li hm.2 (fun k hk => by injection hk; omega), grown_trans h9 hm.2⟩
theorem RRt.facts (s : RRt w0 w rb tb cap toks r2 bo c0 c1 h v acc ts) :
    w.cell? ⟨bo, 0, none⟩ = some c0 ∧ w.cell? ⟨bo, 1, none⟩ = some c1 ∧ w.cell? ⟨bo, 2, none⟩ = some v ∧ w.frozen? ⟨bo, 2, none⟩ = false ∧ bo < w.heap.size ∧ r2 < w.heap.size := by
  obtain ⟨a, b, c, _, _, d⟩ := cells_three s.out
  refine ⟨a, b, c, d, heap_lt s.out, ?_⟩
  obtain ⟨_, _, _, h6⟩ := s.res; exact heap_lt h6
theorem RRt.facts2 (s : RRt w0 w rb tb cap toks r2 bo c0 c1 h v acc ts) :
    ∃ d0 d1 d2, w.cell? ⟨r2, 0, none⟩ = some d0 ∧ w.cell? ⟨r2, 1, none⟩ = some d1 ∧ w.cell? ⟨r2, 2, none⟩ = some d2 ∧ w.frozen? ⟨r2, 0, none⟩ = false ∧ w.frozen? ⟨r2, 1, none⟩ = false ∧ w.frozen? ⟨r2, 2, none⟩ = false := by
  obtain ⟨d0, d1, d2, h6⟩ := s.res
  exact ⟨d0, d1, d2, cells_three h6⟩
/-- the end: the result is written into its block -/
theorem RRt.fin (s : RRt w0 w rb tb cap toks r2 bo c0 c1 h v acc ts) (u0 u1 u2 : Value) :
    RuV (((w.setCell ⟨r2, 0, none⟩ u0).setCell ⟨r2, 1, none⟩ u1).setCell ⟨r2, 2, none⟩ u2) (fun b => w0.heap.size ≤ b) [c0, c1, v] ⟨h, acc⟩ ∧ RMoved w0 rb tb cap toks ts (((w.setCell ⟨r2, 0, none⟩ u0).setCell ⟨r2, 1, none⟩ u1).setCell ⟨r2, 2, none⟩ u2) := by
  have hg : w.grownBy (((w.setCell ⟨r2, 0, none⟩ u0).setCell ⟨r2, 1, none⟩ u1).setCell ⟨r2, 2, none⟩ u2) (some r2) := grown_trans (grown_trans (grown_set _ _ _ _) (grown_set _ _ _ _)) (grown_set _ _ _ _)
  have hl := s.ltr
  have h0 := s.le0
  refine ⟨?_, RMoved.other ⟨s.rd, s.gr⟩ hg s.le0 s.rbl s.tbl⟩
  obtain ⟨A, cp, rfl⟩ := s.own.len
  refine ⟨[c0, c1], A, cp, rfl, s.hdv.keep (fun b hb hlt => ⟨hb.1, hg.block b hlt (fun e => by injection e; omega)⟩) hg.size, ?_⟩
  exact (s.own.sl keeps_li).keep keeps_li (fun b hb hlt => ⟨by omega, hg.block b hlt (fun e => by injection e; omega)⟩) hg.size

/-- one literal more -/
theorem RRt.app (s : RRt w0 w rb tb cap toks r2 bo c0 c1 h v acc ts)
    {B : Nat} {x : List Value} {t : Li} (hx : LiV w (fun b => B ≤ b) x t) (hB : bo < B) (hv : ∀ k, v.ownBlock = some k → k < B) :
    ∃ xs, w.ownsRow (bo + 1) 32 3 v acc.length xs ∧ ∀ (g cp : Nat) (w6 : World) (o : Obj), w6.ownsRow (bo + 1) 32 3 (.slice (some ⟨g, 0, none⟩) (acc.length + 1) cp) (acc.length + 1) (xs ++ x) →
      (w.alloc o).grownBy w6 v.ownBlock → (v.ownBlock = some g ∨ g = w.heap.size + 1) →
      RRt w0 (w6.setCell ⟨bo, 2, none⟩ (.slice (some ⟨g, 0, none⟩) (acc.length + 1) cp)) rb tb cap toks r2 bo c0 c1 h (.slice (some ⟨g, 0, none⟩) (acc.length + 1) cp) (acc ++ [t]) ts ∧
      w6.cell? ⟨bo, 2, none⟩ = some v ∧ w6.frozen? ⟨bo, 2, none⟩ = false ∧ bo < w6.heap.size := by
  obtain ⟨xs, h1, h2, h3, h4⟩ := s.own
  refine ⟨xs.flatten, h3, fun g cp w6 o hown hgrow hat => ?_⟩
  have hlt := h3.lt
  have hbo := heap_lt s.out
  obtain ⟨nb', nm', A', cap', l', hxe, hte⟩ := hx.form
  have hpush := OwnL.push keeps_li h1 h2 h4 (keeps_li _ _ _ _ _ _ hx (fun b hb _ => ⟨⟨by omega, fun e => by have := hv b e.symm; omega⟩, rfl⟩) (Nat.le_refl _)) (by rw [hxe]; rfl) (wA := w.alloc o) (fun b hb => Below.heap_alloc w o b hb) (by simp) hown hgrow
    (by rcases hat with hat | hat
        · exact .inl hat
        · exact .inr (by omega))
  have hne : ∀ b, b < w.heap.size → v.ownBlock ≠ some b → w6.heap[b]? = w.heap[b]? := fun b hb hn => (hgrow.block b (by simp; omega) (Ne.symm hn)).trans (Below.heap_alloc w o b hb)
  have hnb : v.ownBlock ≠ some bo := fun e => by have := (hlt bo e).1; omega
  have hnr : ∀ b, b < bo → v.ownBlock ≠ some b := fun b hb e => by have := (hlt b e).1; omega
  have hgb : g ≠ bo := by
    rintro rfl
    rcases hat with hat | hat
    · exact hnb hat
    · omega
  have hs6 : w.heap.size ≤ w6.heap.size := by have := hgrow.size; simp at this; omega
  have hout : w6.heap[bo]? = some (.cells #[c0, c1, v] 27 (0, 0)) := (hne bo hbo hnb).trans s.out
  have hset : ∀ b, b ≠ bo → (w6.setCell ⟨bo, 2, none⟩ (.slice (some ⟨g, 0, none⟩) (acc.length + 1) cp)).heap[b]? = w6.heap[b]? := fun b hb => Below.heap_setCell _ _ _ _ (by exact hb)
  have hsz7 : (w6.setCell ⟨bo, 2, none⟩ (.slice (some ⟨g, 0, none⟩) (acc.length + 1) cp)).heap.size = w6.heap.size := by simp
  have h0 := s.le0
  have hl := s.ltr
  refine ⟨⟨?_, s.le0, s.ltr, s.rbl, s.tbl, ?_, ?_, ?_, ?_, ?_⟩, ?_, ?_, heap_lt hout⟩
  · obtain ⟨i, hi⟩ := s.rd
    have hrb := hi.rlt
    have htb := hi.tk.1
    have hb1 := s.rbl
    have htl := s.tbl
    refine ⟨i, hi.lt, hi.ts_, ?_, hi.tk.keep ?_ (by omega), hi.ne, hi.big, hi.fin⟩
    · rw [hset rb (by omega), hne rb hrb (hnr rb (by omega))]; exact hi.blk
    · rw [hset tb (by omega), hne tb htb (hnr tb (by omega))]
  · simp [World.setCell, Array.getElem?_modify, hout]
  · obtain ⟨d0, d1, d2, h6⟩ := s.res
    exact ⟨d0, d1, d2, by rw [hset r2 (by omega), hne r2 (heap_lt h6) (hnr r2 s.ltr)]; exact h6⟩
  · exact s.hdv.keep (fun b hb hlb => ⟨hb, by rw [hset b (by omega), hne b hlb (hnr b (by omega))]⟩) (by omega)
  · exact hpush.keep keeps_li (row := some bo) ⟨rfl, rfl, rfl, by omega, fun k _ hk => hset k (fun e => hk (by rw [e]))⟩ (fun k hk => by injection hk; omega)
  · have hg := s.gr
    refine ⟨hgrow.os.trans hg.os, hgrow.tape.trans hg.tape, hgrow.output.trans hg.output, by have := hg.size; omega, fun k hk hne2 => ?_⟩
    rw [hset k (by omega), hne k (by have := hg.size; omega) (hnr k (by omega))]
    exact hg.block k hk hne2
  · rw [cell_of_row w6 bo 2 _ _ _ hout]; rfl
  · simp [World.frozen?, hout]
end


/-- the same, with an error -/
structure REt (w0 w : World) (rb tb cap : Nat) (toks : List Tok) (r2 bo : Nat) (c0 c1 c2 : Value) (p : Nat) (x : Int) : Prop where
  rd : ∃ ts i, RR w rb tb cap toks ts i p x
  hx : x ≠ 0
  le0 : w0.heap.size ≤ r2
  ltr : r2 < bo
  rbl : rb < w0.heap.size
  tbl : tb < w0.heap.size
  out : w.heap[bo]? = some (.cells #[c0, c1, c2] 27 (0, 0))
  res : ∃ d0 d1 d2, w.heap[r2]? = some (.cells #[d0, d1, d2] 27 (0, 0))
  gr : w0.grownBy w (some rb)
section
variable {w0 w w' : World} {rb tb cap : Nat} {toks : List Tok} {r2 bo : Nat} {c0 c1 c2 : Value} {p : Nat} {x : Int}
theorem REt.below (h : REt w0 w rb tb cap toks r2 bo c0 c1 c2 p x) (hb : Below w.heap.size w w') : REt w0 w' rb tb cap toks r2 bo c0 c1 c2 p x := by
  obtain ⟨ts, i, hi⟩ := h.rd
  obtain ⟨d0, d1, d2, h6⟩ := h.res
  exact ⟨⟨ts, i, hi.below hb⟩, h.hx, h.le0, h.ltr, h.rbl, h.tbl, (hb.block bo (heap_lt h.out)).trans h.out, ⟨d0, d1, d2, (hb.block r2 (heap_lt h6)).trans h6⟩, grown_trans h.gr (grown_of_below hb _)⟩
theorem RRt.err {t : Tm} {v : Value} {acc : List Li} {ts : List Tok} (h : RRt w0 w rb tb cap toks r2 bo c0 c1 t v acc ts) (he : RErr w rb tb cap toks p x w') : REt w0 w' rb tb cap toks r2 bo c0 c1 v p x := by
  obtain ⟨⟨ts', i, hi⟩, hx, hg⟩ := he
  obtain ⟨d0, d1, d2, h6⟩ := h.res
  have h1 := h.rbl
  have h2 := h.le0
  have h3 := h.ltr
  exact ⟨⟨ts', i, hi⟩, hx, h.le0, h.ltr, h.rbl, h.tbl, (hg.block bo (heap_lt h.out) (by simp; omega)).trans h.out, ⟨d0, d1, d2, (hg.block r2 (heap_lt h6) (by simp; omega)).trans h6⟩, grown_trans h.gr hg⟩
theorem REt.facts (h : REt w0 w rb tb cap toks r2 bo c0 c1 c2 p x) :
    w.cell? ⟨bo, 0, none⟩ = some c0 ∧ w.cell? ⟨bo, 1, none⟩ = some c1 ∧ w.cell? ⟨bo, 2, none⟩ = some c2 ∧ w.frozen? ⟨bo, 2, none⟩ = false ∧ bo < w.heap.size ∧ r2 < w.heap.size ∧ r2 ≠ bo := by
  obtain ⟨a, b, c, _, _, d⟩ := cells_three h.out
  obtain ⟨_, _, _, h6⟩ := h.res
  exact ⟨a, b, c, d, heap_lt h.out, heap_lt h6, Nat.ne_of_lt h.ltr⟩
theorem REt.facts2 (h : REt w0 w rb tb cap toks r2 bo c0 c1 c2 p x) :
    ∃ d0 d1 d2, w.cell? ⟨r2, 0, none⟩ = some d0 ∧ w.cell? ⟨r2, 1, none⟩ = some d1 ∧ w.cell? ⟨r2, 2, none⟩ = some d2 ∧ w.frozen? ⟨r2, 0, none⟩ = false ∧ w.frozen? ⟨r2, 1, none⟩ = false ∧ w.frozen? ⟨r2, 2, none⟩ = false := by
  obtain ⟨d0, d1, d2, h6⟩ := h.res
  exact ⟨d0, d1, d2, cells_three h6⟩
theorem REt.fin (h : REt w0 w rb tb cap toks r2 bo c0 c1 c2 p x) (u0 u1 u2 : Value) : RErr w0 rb tb cap toks p x (((w.setCell ⟨r2, 0, none⟩ u0).setCell ⟨r2, 1, none⟩ u1).setCell ⟨r2, 2, none⟩ u2) := by
  have hg : w.grownBy (((w.setCell ⟨r2, 0, none⟩ u0).setCell ⟨r2, 1, none⟩ u1).setCell ⟨r2, 2, none⟩ u2) (some r2) := grown_trans (grown_trans (grown_set _ _ _ _) (grown_set _ _ _ _)) (grown_set _ _ _ _)
  exact RErr.other ⟨h.rd, h.hx, h.gr⟩ hg h.le0 h.rbl h.tbl
/-- something is appended all the same -/
theorem REt.app {n : Nat} {v : Value} {ys : List Value} (h : REt w0 w rb tb cap toks r2 bo c0 c1 v p x) (hrow : w.ownsRow (bo + 1) 32 3 v n ys) (g cp m : Nat) (w6 : World) (o : Obj)
    (hgrow : (w.alloc o).grownBy w6 v.ownBlock) : REt w0 (w6.setCell ⟨bo, 2, none⟩ (.slice (some ⟨g, 0, none⟩) m cp)) rb tb cap toks r2 bo c0 c1 (.slice (some ⟨g, 0, none⟩) m cp) p x ∧
      w6.cell? ⟨bo, 2, none⟩ = some v ∧ w6.frozen? ⟨bo, 2, none⟩ = false ∧ bo < w6.heap.size := by
  have hlt := hrow.lt
  have h0 := h.le0
  have hl := h.ltr
  have hrb := h.rbl
  have htb := h.tbl
  have hbo := heap_lt h.out
  have hne : ∀ b, b < w.heap.size → v.ownBlock ≠ some b → w6.heap[b]? = w.heap[b]? := fun b hb hn => (hgrow.block b (by simp; omega) (Ne.symm hn)).trans (Below.heap_alloc w o b hb)
  have hnr : ∀ b, b ≤ bo → v.ownBlock ≠ some b := fun b hb e => by have := (hlt b e).1; omega
  have hs6 : w.heap.size ≤ w6.heap.size := by have := hgrow.size; simp at this; omega
  have hout : w6.heap[bo]? = some (.cells #[c0, c1, v] 27 (0, 0)) := (hne bo hbo (hnr bo (Nat.le_refl _))).trans h.out
  have hset : ∀ b, b ≠ bo → (w6.setCell ⟨bo, 2, none⟩ (.slice (some ⟨g, 0, none⟩) m cp)).heap[b]? = w6.heap[b]? := fun b hb => Below.heap_setCell _ _ _ _ (by exact hb)
  have hsz7 : (w6.setCell ⟨bo, 2, none⟩ (.slice (some ⟨g, 0, none⟩) m cp)).heap.size = w6.heap.size := by simp
  obtain ⟨ts, i, hi⟩ := h.rd
  obtain ⟨d0, d1, d2, h6⟩ := h.res
  obtain ⟨_, _, q1, _, _, q3⟩ := cells_three hout
  refine ⟨⟨⟨ts, i, hi.lt, hi.ts_, ?_, hi.tk.keep ?_ (by omega), hi.ne, hi.big, hi.fin⟩, h.hx, h.le0, h.ltr, h.rbl, h.tbl, ?_, ⟨d0, d1, d2, ?_⟩, ?_⟩, q1, q3, heap_lt hout⟩
  · rw [hset rb (by omega), hne rb hi.rlt (hnr rb (by omega))]; exact hi.blk
  · rw [hset tb (by omega), hne tb hi.tk.1 (hnr tb (by omega))]
  · simp [World.setCell, Array.getElem?_modify, hout]
  · rw [hset r2 (by omega), hne r2 (heap_lt h6) (hnr r2 (by omega))]; exact h6
  · have hg := h.gr
    refine ⟨hgrow.os.trans hg.os, hgrow.tape.trans hg.tape, hgrow.output.trans hg.output, by have := hg.size; omega, fun k hk hne2 => ?_⟩
    rw [hset k (by omega), hne k (by have := hg.size; omega) (hnr k (by omega))]
    exact hg.block k hk hne2
end

/-- what reading a rule leaves -/
def RRPost (w : World) (rb tb cap : Nat) (toks : List Tok) (r : PR Ru) (e : Ending) (w' : World) : Prop :=
  match r with
  | .ok t rest => ∃ x : List Value, e = .returned (.agg x.toArray) ∧ RuV w' (fun b => w.heap.size ≤ b) x t ∧ RMoved w rb tb cap toks rest w'
  | .err p k => ∃ (nm : ByteArray) (A : Option Addr) (n cp : Nat) (A2 : Option Addr) (n2 cp2 : Nat), e = .returned (.agg #[.string nm, .slice A n cp, .slice A2 n2 cp2]) ∧ RErr w rb tb cap toks p k w'

set_option maxHeartbeats 4000000 in
set_option maxRecDepth 100000 in
theorem rlit_no (w : World) (rb tb cap : Nat) (toks ts : List Tok) (i : Nat) (a k : Int) (h : RR w rb tb cap toks ts i a k) (hk : k ≠ 0) :
    Calls Tryd.prog 80 #[.pointer (some ⟨rb, 0, none⟩)] w fun e w' => e = .returned (.agg #[.bool false, .string ⟨#[]⟩, .slice none 0 0]) ∧ Below w.heap.size w w' := by
  have HR := Lib.hid h
  have hb0 : Below w.heap.size w (w.alloc (.cells #[.bool false, .string ⟨#[]⟩, .slice none 0 0] 32)) := (Below.refl _ _).alloc (Nat.le_refl _) _
  have HB0 := Lib.hid hb0
  have HR0 := Lib.hid (HR.out.below hb0)
  have HRES := Lib.hid (heap_alloc_new w (.cells #[.bool false, .string ⟨#[]⟩, .slice none 0 0] 32))
  have HK := Lib.hid hk
  clear h hk hb0
  go_enter Tryd.func80, Tryd.ntmps80
  go_wp2_with fail
  generalize w.alloc (.cells #[.bool false, .string ⟨#[]⟩, .slice none 0 0] 32) = w0 at *
  have HIS := Lib.hid (ris_any HR0.out [110, 111, 116])
  rw [show (k == 0 && isT ts [110, 111, 116]) = false from by rw [beq_eq_false_iff_ne.2 HK.out]; rfl] at HIS
  refine HIS.out.mono ?_
  rintro e w1 ⟨rfl, hb1⟩
  have HR1 := Lib.hid (HR0.out.below hb1)
  have HB1 := Lib.hid (HB0.out.trans (hb1.mono HB0.out.size))
  have HRES1 := Lib.hid ((hb1.block _ (heap_lt HRES.out)).trans HRES.out)
  clear hb1 HIS HR0 HB0 HRES
  go_wp2_with fail
  refine (ratom_no w1 rb tb cap toks ts i a k HR1.out HK.out).mono ?_
  rintro e w2 ⟨rfl, hb2⟩
  have HB2 := Lib.hid (HB1.out.trans (hb2.mono HB1.out.size))
  obtain ⟨v0, v1, v2, g0, g1, g2⟩ := cells_three ((hb2.block _ (heap_lt HRES1.out)).trans HRES1.out)
  clear hb2
  go_wp2_with fail
  exact bodyPost_ret (v := .agg #[.bool false, .string ⟨#[]⟩, .slice none 0 0]) (by simp [results, Tryd.results80, go_sem, v0, v1, v2]) rfl ⟨rfl, below_set (below_set (below_set HB2.out _ _ _ (Nat.le_refl _)) _ _ _ (Nat.le_refl _)) _ _ _ (Nat.le_refl _)⟩
end Go.Proofs.YthkbnjojkeeffaaDoor
