/- The walk of (*parser.reader).rule: its state. -/
import Derived.Test.YtnlphgpcpdfjhaaDoorAt
namespace Go.Proofs.YtnlphgpcpdfjhaaDoor
open Go Go.RowKit
set_option linter.unusedSimpArgs false

theorem LiV.form {w : World} {P : Nat → Prop} {x : List Value} {l : Li} (h : LiV w P x l) : ∃ b nm A cap a, x = [.bool b, .string (bs nm), .slice A a.length cap] ∧ l = ⟨b, .mk nm a⟩ := by
  obtain ⟨y, rfl, h⟩ := h
  obtain ⟨nm, A, cap, a, rfl, he⟩ := h.form
  refine ⟨l.neg, nm, A, cap, a, rfl, ?_⟩
  rw [← he]

/-- the state inside rule: r2: the result's block, bo: that of 'out' -/
structure RSt (w0 w : World) (rb tb cap : Nat) (toks : List Tok) (r2 bo : Nat) (c0 c1 : Value) (h : Tm) (v : Value) (acc : List Li) (ts : List Tok) : Prop where
  rd : ∃ i, Rd w rb tb cap toks ts i
  le0 : w0.heap.size ≤ r2
  ltr : r2 < bo
  rbl : rb < w0.heap.size
  tbl : tb < w0.heap.size
  out : w.heap[bo]? = some (.cells #[c0, c1, v] 34 (0, 0))
  res : ∃ d0 d1 d2, w.heap[r2]? = some (.cells #[d0, d1, d2] 34 (0, 0))
  hdv : TmV w (fun b => w0.heap.size ≤ b ∧ b < bo ∧ b ≠ r2) [c0, c1] h
  own : OwnL LiV 46 3 w (bo + 1) v acc
  gr : w0.grownBy w (some rb)

section
variable {w0 w w' : World} {rb tb cap : Nat} {toks : List Tok} {r2 bo : Nat} {c0 c1 : Value} {h : Tm} {v : Value} {acc : List Li} {ts ts' : List Tok}
theorem RSt.move (s : RSt w0 w rb tb cap toks r2 bo c0 c1 h v acc ts) (hm : Moved w rb tb cap toks ts' w') :
    RSt w0 w' rb tb cap toks r2 bo c0 c1 h v acc ts' := by
  obtain ⟨h1, h2, h3, h4, h4', h5, ⟨d0, d1, d2, h6⟩, h7, h8, h9⟩ := s
  exact ⟨hm.1, h2, h3, h4, h4', (hm.2.block bo (heap_lt h5) (by simp; omega)).trans h5, ⟨d0, d1, d2, (hm.2.block r2 (heap_lt h6) (by simp; omega)).trans h6⟩,
    h7.keep (fun b hb hlt => ⟨hb, hm.2.block b hlt (by simp; omega)⟩) hm.2.size, h8.keep keeps_li hm.2 (fun k hk => by injection hk; omega), grown_trans h9 hm.2⟩
theorem RSt.facts (s : RSt w0 w rb tb cap toks r2 bo c0 c1 h v acc ts) :
    w.cell? ⟨bo, 0, none⟩ = some c0 ∧ w.cell? ⟨bo, 1, none⟩ = some c1 ∧ w.cell? ⟨bo, 2, none⟩ = some v ∧ w.frozen? ⟨bo, 2, none⟩ = false ∧ bo < w.heap.size ∧ r2 < w.heap.size := by
  obtain ⟨a, b, c, _, _, d⟩ := cells_three s.out
  refine ⟨a, b, c, d, heap_lt s.out, ?_⟩
  obtain ⟨_, _, _, h6⟩ := s.res; exact heap_lt h6
theorem RSt.facts2 (s : RSt w0 w rb tb cap toks r2 bo c0 c1 h v acc ts) :
    ∃ d0 d1 d2, w.cell? ⟨r2, 0, none⟩ = some d0 ∧ w.cell? ⟨r2, 1, none⟩ = some d1 ∧ w.cell? ⟨r2, 2, none⟩ = some d2 ∧ w.frozen? ⟨r2, 0, none⟩ = false ∧ w.frozen? ⟨r2, 1, none⟩ = false ∧ w.frozen? ⟨r2, 2, none⟩ = false := by
  obtain ⟨d0, d1, d2, h6⟩ := s.res
  exact ⟨d0, d1, d2, cells_three h6⟩
/-- the end: the result is written into its block -/
theorem RSt.fin (s : RSt w0 w rb tb cap toks r2 bo c0 c1 h v acc ts) (u0 u1 u2 : Value) :
    RuV (((w.setCell ⟨r2, 0, none⟩ u0).setCell ⟨r2, 1, none⟩ u1).setCell ⟨r2, 2, none⟩ u2) (fun b => w0.heap.size ≤ b) [c0, c1, v] ⟨h, acc⟩ ∧ Moved w0 rb tb cap toks ts (((w.setCell ⟨r2, 0, none⟩ u0).setCell ⟨r2, 1, none⟩ u1).setCell ⟨r2, 2, none⟩ u2) := by
  have hg : w.grownBy (((w.setCell ⟨r2, 0, none⟩ u0).setCell ⟨r2, 1, none⟩ u1).setCell ⟨r2, 2, none⟩ u2) (some r2) := grown_trans (grown_trans (grown_set _ _ _ _) (grown_set _ _ _ _)) (grown_set _ _ _ _)
  have hl := s.ltr
  have h0 := s.le0
  refine ⟨?_, Moved.other ⟨s.rd, s.gr⟩ hg s.le0 s.rbl s.tbl⟩
  obtain ⟨A, cp, rfl⟩ := s.own.len
  refine ⟨[c0, c1], A, cp, rfl, s.hdv.keep (fun b hb hlt => ⟨hb.1, hg.block b hlt (fun e => by injection e; omega)⟩) hg.size, ?_⟩
  exact (s.own.sl keeps_li).keep keeps_li (fun b hb hlt => ⟨by omega, hg.block b hlt (fun e => by injection e; omega)⟩) hg.size

/-- one literal more -/
theorem RSt.app (s : RSt w0 w rb tb cap toks r2 bo c0 c1 h v acc ts)
    {B : Nat} {x : List Value} {t : Li} (hx : LiV w (fun b => B ≤ b) x t) (hB : bo < B) (hv : ∀ k, v.ownBlock = some k → k < B) :
    ∃ xs, w.ownsRow (bo + 1) 46 3 v acc.length xs ∧ ∀ (g cp : Nat) (w6 : World) (o : Obj), w6.ownsRow (bo + 1) 46 3 (.slice (some ⟨g, 0, none⟩) (acc.length + 1) cp) (acc.length + 1) (xs ++ x) →
      (w.alloc o).grownBy w6 v.ownBlock → (v.ownBlock = some g ∨ g = w.heap.size + 1) →
      RSt w0 (w6.setCell ⟨bo, 2, none⟩ (.slice (some ⟨g, 0, none⟩) (acc.length + 1) cp)) rb tb cap toks r2 bo c0 c1 h (.slice (some ⟨g, 0, none⟩) (acc.length + 1) cp) (acc ++ [t]) ts ∧
      w6.cell? ⟨bo, 2, none⟩ = some v ∧ w6.frozen? ⟨bo, 2, none⟩ = false ∧ bo < w6.heap.size := by
  obtain ⟨xs, h1, h2, h3, h4⟩ := s.own
  refine ⟨xs.flatten, h3, fun g cp w6 o hown hgrow hat => ?_⟩
  have hlt := h3.lt
  have hbo := heap_lt s.out
  obtain ⟨nb', nm', A', cap', l', hxe, hte⟩ := hx.form
  have hpush := OwnL.push keeps_li h1 h2 h4 (keeps_li _ _ _ _ _ _ hx (fun b hb _ => ⟨⟨by omega, fun e => by have := hv b e.symm; omega⟩, rfl⟩) (Nat.le_refl _)) (by rw [hxe]; rfl) (wA := w.alloc o) (fun b hb => Below.heap_alloc w o b hb) (by simp) hown hgrow
    (by rcases hat with hat | hat
        · exact .inl hat
        · exact .inr (by omega))
  have hne : ∀ b, b < w.heap.size → v.ownBlock ≠ some b → w6.heap[b]? = w.heap[b]? := fun b hb hn => (hgrow.block b (by simp; omega) (Ne.symm hn)).trans (Below.heap_alloc w o b hb)
  have hnb : v.ownBlock ≠ some bo := fun e => by have := (hlt bo e).1; omega
  have hnr : ∀ b, b < bo → v.ownBlock ≠ some b := fun b hb e => by have := (hlt b e).1; omega
  have hgb : g ≠ bo := by
    rintro rfl
    rcases hat with hat | hat
    · exact hnb hat
    · omega
  have hs6 : w.heap.size ≤ w6.heap.size := by have := hgrow.size; simp at this; omega
  have hout : w6.heap[bo]? = some (.cells #[c0, c1, v] 34 (0, 0)) := (hne bo hbo hnb).trans s.out
  have hset : ∀ b, b ≠ bo → (w6.setCell ⟨bo, 2, none⟩ (.slice (some ⟨g, 0, none⟩) (acc.length + 1) cp)).heap[b]? = w6.heap[b]? := fun b hb => Below.heap_setCell _ _ _ _ (by exact hb)
  have hsz7 : (w6.setCell ⟨bo, 2, none⟩ (.slice (some ⟨g, 0, none⟩) (acc.length + 1) cp)).heap.size = w6.heap.size := by simp
  have h0 := s.le0
  have hl := s.ltr
  refine ⟨⟨?_, s.le0, s.ltr, s.rbl, s.tbl, ?_, ?_, ?_, ?_, ?_⟩, ?_, ?_, heap_lt hout⟩
  · obtain ⟨i, hi⟩ := s.rd
    have hrb := hi.rlt
    have htb := hi.tk.1
    have hb1 := s.rbl
    have htl := s.tbl
    refine ⟨i, hi.lt, hi.ts_, ?_, hi.tk.keep ?_ (by omega), hi.ne, hi.big, hi.fin⟩
    · rw [hset rb (by omega), hne rb hrb (hnr rb (by omega))]; exact hi.blk
    · rw [hset tb (by omega), hne tb htb (hnr tb (by omega))]
  · simp [World.setCell, Array.getElem?_modify, hout]
  · obtain ⟨d0, d1, d2, h6⟩ := s.res
    exact ⟨d0, d1, d2, by rw [hset r2 (by omega), hne r2 (heap_lt h6) (hnr r2 s.ltr)]; exact h6⟩
  · exact s.hdv.keep (fun b hb hlb => ⟨hb, by rw [hset b (by omega), hne b hlb (hnr b (by omega))]⟩) (by omega)
  · exact hpush.keep keeps_li (row := some bo) ⟨rfl, rfl, rfl, by omega, fun k _ hk => hset k (fun e => hk (by rw [e]))⟩ (fun k hk => by injection hk; omega)
  · have hg := s.gr
    refine ⟨hgrow.os.trans hg.os, hgrow.tape.trans hg.tape, hgrow.output.trans hg.output, by have := hg.size; omega, fun k hk hne2 => ?_⟩
    rw [hset k (by omega), hne k (by have := hg.size; omega) (hnr k (by omega))]
    exact hg.block k hk hne2
  · rw [cell_of_row w6 bo 2 _ _ _ hout]; rfl
  · simp [World.frozen?, hout]
end

def bodyK (n : Nat) (acc : List Li) (cur : List Tok) : PR (List Li) := if isT cur [97, 110, 100] then bodyF n acc cur.tail else .ok acc cur
def finR (h : Tm) (r : PR (List Li)) : PR Ru :=
  match r with
  | .err p e => .err p e
  | .ok b ts2 => if isT ts2 [46] then .ok ⟨h, b⟩ ts2.tail else failT ts2 1
theorem litF_8 (ts : List Tok) : ∃ p e, litF 8 ts = .err p e := by
  cases hn : isT ts [110, 111, 116] with
  | true => exact ⟨_, _, litF_full (by rw [hn]; rfl)⟩
  | false =>
    cases hk : (hd ts).kind == 1 with
    | true => exact ⟨_, _, litF_full (by rw [hk]; simp)⟩
    | false => exact ⟨_, _, by rw [litF_go (by rw [hn, hk]; rfl), hn, if_neg Bool.false_ne_true]; unfold atomF; rw [hk]; rfl⟩
theorem bodyF_err {n : Nat} {acc : List Li} {ts : List Tok} {p : Nat} {e : Int} (hn : 0 < n) (h : litF acc.length ts = .err p e) : bodyF n acc ts = .err p e := by
  cases n with
  | zero => omega
  | succ n => rw [bodyF, h]
theorem bodyF_ok {n : Nat} {acc : List Li} {ts r : List Tok} {l : Li} (hn : 0 < n) (h : litF acc.length ts = .ok l r) : bodyF n acc ts = bodyK (n - 1) (acc ++ [l]) r := by
  cases n with
  | zero => omega
  | succ n => rw [bodyF, h]; rfl
theorem ruleF_err {ts : List Tok} {p : Nat} {e : Int} (h : atomF ts = .err p e) : ruleF ts = .err p e := by unfold ruleF; rw [h]
theorem ruleF_ok {ts r : List Tok} {t : Tm} (h : atomF ts = .ok t r) : ruleF ts = finR t (if isT r [105, 102] then bodyF 9 [] r.tail else .ok [] r) := by
  unfold ruleF; rw [h]; rfl
theorem infoRule : (Tryd.prog.info? 34).map (fun i => (i.zero, i.size, i.bytes)) = some (some (.agg #[.string ⟨#[]⟩, .slice none 0 0, .slice none 0 0]), 3, 64) := by kernel_rfl
end Go.Proofs.YtnlphgpcpdfjhaaDoor
