/- Merged texts: The walks of (*parser.reader).compound and .term. The walk of (*parser.reader).term. -/
import Derived.Test.YtmplpbdldcokjaaGreatDoorXc
import Derived.Deep.LoopGhost
namespace Go.Proofs.YtmplpbdldcokjaaGreatDoor
/- The walks of (*parser.reader).compound and .term. -/
section
open Go Go.RowKit

/-- what reading a term leaves -/
def TPost (w : World) (rb tb cap : Nat) (toks : List Tok) (r : PR Tm) (e : Ending) (w' : World) : Prop :=
  match r with
  | .ok t rest => ∃ x : List Value, e = .returned (.agg x.toArray) ∧ TmV w' (fun b => w.heap.size ≤ b) x t ∧ Moved w rb tb cap toks rest w'
  | .err p k => e = Viol p k ∧ w.grownBy w' (some rb)

/-- the state at the head of compound's loop: r4: the result's block, bo: that of 'out' -/
structure CSt (w0 w : World) (rb tb cap : Nat) (toks : List Tok) (r4 bo : Nat) (nm : List UInt8) (v : Value) (acc : List Tm) (ts : List Tok) : Prop where
  rd : ∃ i, Rd w rb tb cap toks ts i
  le0 : w0.heap.size ≤ r4
  ltr : r4 < bo
  rbl : rb < w0.heap.size
  tbl : tb < w0.heap.size
  out : w.heap[bo]? = some (.cells #[.string (bs nm), v] 25 (0, 0))
  res : ∃ c0 c1, w.heap[r4]? = some (.cells #[c0, c1] 25 (0, 0))
  own : OwnL TmV 25 2 w (bo + 1) v acc
  gr : w0.grownBy w (some rb)

theorem CSt.move {w0 w w' : World} {rb tb cap : Nat} {toks : List Tok} {r4 bo : Nat} {nm : List UInt8} {v : Value} {acc : List Tm} {ts ts' : List Tok} (h : CSt w0 w rb tb cap toks r4 bo nm v acc ts) (hm : Moved w rb tb cap toks ts' w') :
    CSt w0 w' rb tb cap toks r4 bo nm v acc ts' := by
  obtain ⟨h1, h2, h3, h4, h4', h5, ⟨c0, c1, h6⟩, h7, h8⟩ := h
  exact ⟨hm.1, h2, h3, h4, h4', (hm.2.block bo (heap_lt h5) (by simp; omega)).trans h5, ⟨c0, c1, (hm.2.block r4 (heap_lt h6) (by simp; omega)).trans h6⟩, h7.keep keeps_tm hm.2 (fun k hk => by injection hk; omega), grown_trans h8 hm.2⟩
theorem CSt.facts {w0 w : World} {rb tb cap : Nat} {toks : List Tok} {r4 bo : Nat} {nm : List UInt8} {v : Value} {acc : List Tm} {ts : List Tok} (h : CSt w0 w rb tb cap toks r4 bo nm v acc ts) :
    w.cell? ⟨bo, 0, none⟩ = some (.string (bs nm)) ∧ w.cell? ⟨bo, 1, none⟩ = some v ∧ w.frozen? ⟨bo, 1, none⟩ = false ∧ bo < w.heap.size ∧ r4 < w.heap.size := by
  refine ⟨?_, ?_, ?_, heap_lt h.out, ?_⟩
  · rw [cell_of_row w bo 0 _ _ _ h.out]; rfl
  · rw [cell_of_row w bo 1 _ _ _ h.out]; rfl
  · simp [World.frozen?, h.out]
  · obtain ⟨_, _, h6⟩ := h.res; exact heap_lt h6
theorem CSt.facts4 {w0 w : World} {rb tb cap : Nat} {toks : List Tok} {r4 bo : Nat} {nm : List UInt8} {v : Value} {acc : List Tm} {ts : List Tok} (h : CSt w0 w rb tb cap toks r4 bo nm v acc ts) :
    ∃ c0 c1, w.cell? ⟨r4, 0, none⟩ = some c0 ∧ w.cell? ⟨r4, 1, none⟩ = some c1 ∧ w.frozen? ⟨r4, 0, none⟩ = false ∧ w.frozen? ⟨r4, 1, none⟩ = false := by
  obtain ⟨c0, c1, h6⟩ := h.res
  refine ⟨c0, c1, ?_, ?_, ?_, ?_⟩
  · rw [cell_of_row w r4 0 _ _ _ h6]; rfl
  · rw [cell_of_row w r4 1 _ _ _ h6]; rfl
  · simp [World.frozen?, h6]
  · simp [World.frozen?, h6]
/-- the end: the result is written into its block -/
theorem CSt.fin {w0 w : World} {rb tb cap : Nat} {toks : List Tok} {r4 bo : Nat} {nm : List UInt8} {v : Value} {acc : List Tm} {ts : List Tok} (h : CSt w0 w rb tb cap toks r4 bo nm v acc ts) (u0 u1 : Value) :
    TmV ((w.setCell ⟨r4, 0, none⟩ u0).setCell ⟨r4, 1, none⟩ u1) (fun b => w0.heap.size ≤ b) [.string (bs nm), v] (.mk nm acc) ∧ Moved w0 rb tb cap toks ts ((w.setCell ⟨r4, 0, none⟩ u0).setCell ⟨r4, 1, none⟩ u1) := by
  have hne : ∀ b, b ≠ r4 → ((w.setCell ⟨r4, 0, none⟩ u0).setCell ⟨r4, 1, none⟩ u1).heap[b]? = w.heap[b]? := fun b hb => by
    rw [Below.heap_setCell _ _ _ _ (by exact hb), Below.heap_setCell _ _ _ _ (by exact hb)]
  have hsz : ((w.setCell ⟨r4, 0, none⟩ u0).setCell ⟨r4, 1, none⟩ u1).heap.size = w.heap.size := by simp
  constructor
  · obtain ⟨A, cp, rfl⟩ := h.own.len
    obtain ⟨xs, h1, h2, h3⟩ := h.own.sl keeps_tm
    exact (TmV.mk nm A cp acc xs h1 h2 h3).keep (fun b hb _ => ⟨by have := h.ltr; have := h.le0; omega, hne b (by have := h.ltr; omega)⟩) (by omega)
  · obtain ⟨i, hi⟩ := h.rd
    have hr4 : rb ≠ r4 := by have := h.rbl; have := h.le0; omega
    have htb : tb ≠ r4 := by have := h.tbl; have := h.le0; omega
    refine ⟨⟨i, hi.lt, hi.ts_, (hne rb hr4).trans hi.blk, hi.tk.keep (hne tb htb) (by omega), hi.ne, hi.big, hi.fin⟩, ⟨?_, ?_, ?_, ?_, ?_⟩⟩
    · exact h.gr.os
    · exact h.gr.tape
    · exact h.gr.output
    · rw [hsz]; exact h.gr.size
    · intro k hk hne2
      rw [hne k (by have := h.le0; omega)]
      exact h.gr.block k hk hne2

/-- one argument more -/
theorem CSt.app {w0 w : World} {rb tb cap : Nat} {toks : List Tok} {r4 bo : Nat} {nm : List UInt8} {v : Value} {acc : List Tm} {ts : List Tok} (h : CSt w0 w rb tb cap toks r4 bo nm v acc ts)
    {B : Nat} {x : List Value} {t : Tm} (hx : TmV w (fun b => B ≤ b) x t) (hB : bo < B) (hv : ∀ k, v.ownBlock = some k → k < B) :
    ∃ xs, w.ownsRow (bo + 1) 25 2 v acc.length xs ∧ ∀ (g cp : Nat) (w6 : World) (o : Obj), w6.ownsRow (bo + 1) 25 2 (.slice (some ⟨g, 0, none⟩) (acc.length + 1) cp) (acc.length + 1) (xs ++ x) →
      (w.alloc o).grownBy w6 v.ownBlock → (v.ownBlock = some g ∨ g = w.heap.size + 1) →
      CSt w0 (w6.setCell ⟨bo, 1, none⟩ (.slice (some ⟨g, 0, none⟩) (acc.length + 1) cp)) rb tb cap toks r4 bo nm (.slice (some ⟨g, 0, none⟩) (acc.length + 1) cp) (acc ++ [t]) ts ∧
      w6.cell? ⟨bo, 1, none⟩ = some v ∧ w6.frozen? ⟨bo, 1, none⟩ = false ∧ bo < w6.heap.size := by
  obtain ⟨xs, h1, h2, h3, h4⟩ := h.own
  refine ⟨xs.flatten, h3, fun g cp w6 o hown hgrow hat => ?_⟩
  have hlt := h3.lt
  have hbo := heap_lt h.out
  obtain ⟨nm', A', cap', l', hxe, hte⟩ := hx.form
  have hpush := OwnL.push keeps_tm h1 h2 h4 (hx.keep (fun b hb _ => ⟨⟨by omega, fun e => by have := hv b e.symm; omega⟩, rfl⟩) (Nat.le_refl _)) (by rw [hxe]; rfl) (wA := w.alloc o) (fun b hb => Below.heap_alloc w o b hb) (by simp) hown hgrow
    (by rcases hat with hat | hat
        · exact .inl hat
        · exact .inr (by omega))
  have hne : ∀ b, b < w.heap.size → v.ownBlock ≠ some b → w6.heap[b]? = w.heap[b]? := fun b hb hn => (hgrow.block b (by simp; omega) (Ne.symm hn)).trans (Below.heap_alloc w o b hb)
  have hnb : v.ownBlock ≠ some bo := fun e => by have := (hlt bo e).1; omega
  have hnr : ∀ b, b < bo → v.ownBlock ≠ some b := fun b hb e => by have := (hlt b e).1; omega
  have hgb : g ≠ bo := by
    rintro rfl
    rcases hat with hat | hat
    · exact hnb hat
    · omega
  have hs6 : w.heap.size ≤ w6.heap.size := by have := hgrow.size; simp at this; omega
  have hout : w6.heap[bo]? = some (.cells #[.string (bs nm), v] 25 (0, 0)) := (hne bo hbo hnb).trans h.out
  have hset : ∀ b, b ≠ bo → (w6.setCell ⟨bo, 1, none⟩ (.slice (some ⟨g, 0, none⟩) (acc.length + 1) cp)).heap[b]? = w6.heap[b]? := fun b hb => Below.heap_setCell _ _ _ _ (by exact hb)
  have hsz7 : (w6.setCell ⟨bo, 1, none⟩ (.slice (some ⟨g, 0, none⟩) (acc.length + 1) cp)).heap.size = w6.heap.size := by simp
  refine ⟨⟨?_, h.le0, h.ltr, h.rbl, h.tbl, ?_, ?_, ?_, ?_⟩, ?_, ?_, heap_lt hout⟩
  · obtain ⟨i, hi⟩ := h.rd
    have hrb := hi.rlt
    have htb := hi.tk.1
    have hb1 := h.rbl
    have hb2 := h.le0
    have hb3 := h.ltr
    have htl := h.tbl
    refine ⟨i, hi.lt, hi.ts_, ?_, hi.tk.keep ?_ (by omega), hi.ne, hi.big, hi.fin⟩
    · rw [hset rb (by omega), hne rb hrb (hnr rb (by omega))]; exact hi.blk
    · rw [hset tb (by omega), hne tb htb (hnr tb (by omega))]
  · simp [World.setCell, Array.getElem?_modify, hout]
  · obtain ⟨c0, c1, h6⟩ := h.res
    exact ⟨c0, c1, by rw [hset r4 (by have := h.ltr; omega), hne r4 (heap_lt h6) (hnr r4 h.ltr)]; exact h6⟩
  · exact hpush.keep keeps_tm (row := some bo) ⟨rfl, rfl, rfl, by omega, fun k _ hk => hset k (fun e => hk (by rw [e]))⟩ (fun k hk => by injection hk; omega)
  · have hg := h.gr
    refine ⟨hgrow.os.trans hg.os, hgrow.tape.trans hg.tape, hgrow.output.trans hg.output, by have := hg.size; omega, fun k hk hne2 => ?_⟩
    have h0 := h.le0
    have h1 := h.ltr
    rw [hset k (by omega), hne k (by have := hg.size; omega) (hnr k (by omega))]
    exact hg.block k hk hne2
  · rw [cell_of_row w6 bo 1 _ _ _ hout]; rfl
  · simp [World.frozen?, hout]

theorem infoTerm : (Tryz.prog.info? 25).map (fun i => (i.zero, i.size, i.bytes)) = some (some (.agg #[.string ⟨#[]⟩, .slice none 0 0]), 2, 40) := by kernel_rfl

theorem argsF_err {tf : List Tok → PR Tm} {n : Nat} {acc : List Tm} {ts : List Tok} {p : Nat} {e : Int} (hn : 0 < n) (h4 : (acc.length == 4 && begT ts) = false) (h : tf ts = .err p e) : argsF tf n acc ts = .err p e := by
  cases n with
  | zero => omega
  | succ n => rw [argsF, if_neg (by rw [h4]; exact Bool.false_ne_true), h]
theorem argsF_full {tf : List Tok → PR Tm} {n : Nat} {acc : List Tm} {ts : List Tok} (hn : 0 < n) (h4 : (acc.length == 4 && begT ts) = true) : argsF tf n acc ts = failT ts 5 := by
  cases n with
  | zero => omega
  | succ n => rw [argsF, if_pos h4]
theorem argsF_comma {tf : List Tok → PR Tm} {n : Nat} {acc : List Tm} {ts r : List Tok} {t : Tm} (hn : 0 < n) (h4 : (acc.length == 4 && begT ts) = false) (h : tf ts = .ok t r) (hc : isT r [44] = true) :
    argsF tf n acc ts = argsF tf (n - 1) (acc ++ [t]) r.tail := by
  cases n with
  | zero => omega
  | succ n => rw [argsF, if_neg (by rw [h4]; exact Bool.false_ne_true), h]; simp only [hc, if_true]; rfl
theorem argsF_close {tf : List Tok → PR Tm} {n : Nat} {acc : List Tm} {ts r : List Tok} {t : Tm} (hn : 0 < n) (h4 : (acc.length == 4 && begT ts) = false) (h : tf ts = .ok t r) (hc : isT r [44] = false) :
    argsF tf n acc ts = if isT r [41] then .ok (acc ++ [t]) r.tail else failT r 1 := by
  cases n with
  | zero => omega
  | succ n => rw [argsF, if_neg (by rw [h4]; exact Bool.false_ne_true), h]; simp only [hc, Bool.false_eq_true, if_false]
theorem termF_nobeg {d : Nat} {ts : List Tok} (h : begT ts = false) : termF d ts = failT ts 1 := by
  cases d with
  | zero => rw [termF, if_neg (by rw [h]; exact Bool.false_ne_true)]
  | succ d => rw [termF, if_neg (by rw [h]; exact Bool.false_ne_true)]
theorem termF_beg {d : Nat} {ts r : List Tok} {t : Tm} (h : termF d ts = .ok t r) : begT ts = true := by
  cases d with
  | zero => rw [termF] at h; split at h <;> cases h
  | succ d =>
    rw [termF] at h
    split at h
    · assumption
    · cases h

set_option maxHeartbeats 4000000 in
set_option maxRecDepth 100000 in
theorem compound_of (d : Nat) (hd4 : d ≤ 4) (IH : ∀ (w : World) (rb tb cap : Nat) (toks ts : List Tok) (i : Nat), Rd w rb tb cap toks ts i → ∀ lev : Int, lev + d = 5 →
      Calls Tryz.prog 79 #[.pointer (some ⟨rb, 0, none⟩), .int .i64 lev] w (TPost w rb tb cap toks (termF d ts)))
    (w : World) (rb tb cap : Nat) (toks ts : List Tok) (i : Nat) (h : Rd w rb tb cap toks ts i) (hk : (hd ts).kind = 1) (lev : Int) (hlev : lev + d = 4) :
    Calls Tryz.prog 99 #[.pointer (some ⟨rb, 0, none⟩), .int .i64 lev] w (TPost w rb tb cap toks (compF (termF d) ts)) := by
  have f1' := fld1
  obtain ⟨i0, hi0, hz0, hz1, hz2⟩ := info_parts infoTerm
  have HI0 := Lib.hid hi0; have HZ0 := Lib.hid hz0; have HZ1 := Lib.hid hz1; have HZ2 := Lib.hid hz2
  clear hi0 hz0 hz1 hz2
  have HR := Lib.hid h
  have hsm : (i : Int) < 20000 := by have := h.lt; have := h.big; omega
  have HK := Lib.hid hk
  have HLV := Lib.hid hlev
  have hl1 : (0 : Int) ≤ lev := by omega
  have hl2 : lev ≤ 4 := by omega
  clear h hk hlev hd4
  go_enter Tryz.func99, Tryz.ntmps99
  go_wp2_with fail
  have HR1 := Lib.hid (HR.out.below (w' := w.alloc (.cells #[.string ⟨#[]⟩, .slice none 0 0] 25)) ((Below.refl _ _).alloc (Nat.le_refl _) _))
  refine (token_any HR1.out).mono ?_
  rintro e w1 ⟨rfl, hb1⟩
  have HR2 := Lib.hid (HR1.out.below hb1)
  have HB1 := Lib.hid hb1
  have hsz : w.heap.size < w1.heap.size := by have := hb1.size; simp at this; omega
  have hres : w1.heap[w.heap.size]? = some (.cells #[.string ⟨#[]⟩, .slice none 0 0] 25 (0, 0)) := (hb1.block _ (by simp)).trans (heap_alloc_new w _)
  have HRES := Lib.hid hres
  have c1 := HR2.out.c1
  have f1 := HR2.out.f1
  have hrb := HR2.out.rlt
  clear hb1 hres
  go_wp2_with fail
  have hst0 : CSt w ((w1.setCell ⟨rb, 1, none⟩ (.int .i64 (i + 1 : Nat))).alloc (.cells #[.string (bs (hd ts).text), .slice none 0 0] 25)) rb tb cap toks w.heap.size w1.heap.size (hd ts).text (.slice none 0 0) [] ts.tail := by
    have hs := HR2.out.step (by rw [HK.out]; omega)
    have hbe : Below (w1.setCell ⟨rb, 1, none⟩ (.int .i64 (i + 1 : Nat))).heap.size (w1.setCell ⟨rb, 1, none⟩ (.int .i64 (i + 1 : Nat))) ((w1.setCell ⟨rb, 1, none⟩ (.int .i64 (i + 1 : Nat))).alloc (.cells #[.string (bs (hd ts).text), .slice none 0 0] 25)) := (Below.refl _ _).alloc (Nat.le_refl _) _
    have hsz1 : (w1.setCell ⟨rb, 1, none⟩ (.int .i64 (i + 1 : Nat))).heap.size = w1.heap.size := by simp
    refine ⟨⟨i + 1, hs.1.below hbe⟩, Nat.le_refl _, hsz, HR.out.rlt, HR.out.tk.1, ?_, ⟨.string ⟨#[]⟩, .slice none 0 0, ?_⟩, OwnL.nil _ _ _ _ _, ?_⟩
    · rw [← hsz1]; exact heap_alloc_new _ _
    · rw [hbe.block _ (by rw [hsz1]; exact hsz), Below.heap_setCell _ _ _ _ (by have := HR.out.rlt; simp; omega)]
      exact HRES.out
    · exact grown_trans (grown_trans (grown_trans (World.grownBy_alloc _ _ _) (grown_of_below HB1.out _)) hs.2) (grown_of_below hbe _)
  have HST := Lib.hid hst0
  clear hst0 HRES HB1 HR2 HR1 c1 f1
  rw [show ((i : Int) + 1) = ((i + 1 : Nat) : Int) from by omega]
  generalize (w1.setCell ⟨rb, 1, none⟩ (.int .i64 (i + 1 : Nat))).alloc (.cells #[.string (bs (hd ts).text), .slice none 0 0] 25) = w2 at HST
  generalize w1.heap.size = bo at *
  obtain ⟨i2, hrd⟩ := HST.out.rd
  have HRD := Lib.hid hrd
  clear hrd
  cases hp : isT ts.tail [40] with
  | false =>
    have HC : Hid (compF (termF d) ts = .ok (.mk (hd ts).text []) ts.tail) := by unfold Hid compF; rw [hp]; rfl
    have HA := Lib.hid (accept_any HRD.out [40])
    rw [hp] at HA
    clear hp
    refine HA.out.mono ?_
    rintro e w3 ⟨rfl, hm⟩
    have HS := Lib.hid (HST.out.move (ts' := ts.tail) hm)
    clear hm
    obtain ⟨cb0, cb1, _, lb, lr⟩ := HS.out.facts
    obtain ⟨u0, u1, cr0, cr1, fr0, fr1⟩ := HS.out.facts4
    have hbr : w.heap.size ≠ bo := by omega
    go_wp2_with fail
    refine bodyPost_ret (v := .agg #[.string (bs (hd ts).text), .slice none 0 0]) (by simp [results, Tryz.results99, go_sem, cr0, cr1]) rfl ?_
    unfold TPost
    rw [HC.out]
    exact ⟨[.string (bs (hd ts).text), .slice none 0 0], rfl, HS.out.fin _ _⟩
  | true =>
    have HC : Hid (compF (termF d) ts = match argsF (termF d) 5 [] ts.tail.tail with | .err p e => .err p e | .ok l ts' => .ok (.mk (hd ts).text l) ts') := by unfold Hid compF; rw [hp]; rfl
    have HA := Lib.hid (accept_any HRD.out [40])
    rw [hp] at HA
    clear hp
    refine HA.out.mono ?_
    rintro e w3 ⟨rfl, hm⟩
    have HS := Lib.hid (HST.out.move (ts' := ts.tail.tail) hm)
    clear hm HA HRD HST
    go_wp2_with fail
    go_loopg [] 5 (fun n wr => ∃ (v : Value) (acc : List Tm) (cur : List Tok), Hid (acc.length + n = 5 ∧ acc.length ≤ 4 ∧ CSt w wr rb tb cap toks w.heap.size bo (hd ts).text v acc cur ∧ argsF (termF d) 5 [] ts.tail.tail = argsF (termF d) n acc cur))
    case atStart => exact ⟨_, [], _, rfl, by simp, HS.out, rfl⟩
    case round =>
      obtain ⟨v, acc, cur, HI⟩ := hrel
      clear HS
      obtain ⟨A, cp, rfl⟩ := HI.out.2.2.1.own.len
      obtain ⟨i3, hrd⟩ := HI.out.2.2.1.rd
      have HRD := Lib.hid hrd
      clear hrd
      obtain ⟨cb0, cb1, fb1, lb, lr⟩ := HI.out.2.2.1.facts
      have ha4 : (acc.length : Int) ≤ 4 := by have := HI.out.2.1; omega
      cases h4 : ((acc.length : Int) == 4) with
      | true =>
        have hn0 : 0 < gk := by have := HI.out.1; have := HI.out.2.1; omega
        have hal : (acc.length == 4) = true := beq_iff_eq.2 (by have := beq_iff_eq.1 h4; omega)
        have HBG := Lib.hid (begins_any HRD.out)
        cases hbt : begT cur with
        | true =>
          rw [hbt] at HBG
          have HCE := Lib.hid (argsF_full (tf := termF d) hn0 (show (acc.length == 4 && begT cur) = true by rw [hal, hbt]; rfl))
          clear hal hbt
          go_wp2_with fail
          refine HBG.out.mono ?_
          rintro e w4 ⟨rfl, hb4⟩
          have HR4 := Lib.hid (HRD.out.below hb4)
          have HG4 := Lib.hid (grown_of_below hb4 (some rb))
          clear hb4 cb0 cb1 fb1 lb lr
          go_wp2_with fail
          refine (fail_any HR4.out 5).mono ?_
          rintro e w5 ⟨rfl, hb5⟩
          refine ⟨rfl, ?_⟩
          unfold TPost
          rw [HC.out, HI.out.2.2.2, HCE.out]
          exact ⟨rfl, grown_trans HI.out.2.2.1.gr (grown_trans HG4.out (grown_of_below hb5 _))⟩
        | false =>
          rw [hbt] at HBG
          have hte : termF d cur = failT cur 1 := termF_nobeg hbt
          have HCE := Lib.hid (argsF_err (tf := termF d) (acc := acc) hn0 (show (acc.length == 4 && begT cur) = false by rw [hbt]; simp) hte)
          have HTE := Lib.hid hte
          clear hal hbt hte
          go_wp2_with fail
          refine HBG.out.mono ?_
          rintro e w4 ⟨rfl, hb4⟩
          have HR4 := Lib.hid (HRD.out.below hb4)
          have HG4 := Lib.hid (grown_of_below hb4 (some rb))
          have hcb : w4.cell? ⟨bo, 1, none⟩ = some (.slice A acc.length cp) := (hb4.cell (by exact lb)).trans cb1
          clear hb4 cb0 cb1 fb1 lb lr
          go_wp2_with fail
          have hS : w4.cell? ⟨bo, 1, none⟩ = some (.slice A acc.length cp) := hcb
          have hwl : IntKind.i64.wrap (lev + 1) = lev + 1 := IntWalk.i64_in _ (by omega)
          refine region_mix (fun x => x.cell? ⟨bo, 1, none⟩ = some (.slice A acc.length cp)) [0, 1, 2, 3, 4] [5, 6, 7, 8, 9] (by kernel_rfl) (by kernel_rfl) (by intro c a d v w h; cases d <;> exact h) hS ?_
          simp only [picks, List.filterMap_cons, List.filterMap_nil, List.getElem?_toArray, List.getElem?_cons_succ, List.getElem?_cons_zero]
          repeat (refine rd_next _ (by rfl) (by intro w' hS'; go_simp; try with_reducible rfl) ?_; simp only [Act.put, List.setIfInBounds_toArray, List.set_cons_zero, List.set_cons_succ])
          refine rd_done ?_
          refine eff_next (by rfl) (fun K hK => ?_)
          go_simp
          clear hwl hS
          have HRW := Lib.hid (HR4.out.below (w' := w4.drew) (Below.refl _ _).drew)
          (with_reducible refine (IH w4.drew rb tb cap toks cur i3 HRW.out (lev + 1) (by have := HLV.out; omega)).mono ?_)
          rw [HTE.out]
          rintro e' w5 ⟨rfl, hg⟩
          refine ⟨rfl, ?_⟩
          unfold TPost
          rw [HC.out, HI.out.2.2.2, HCE.out]
          exact ⟨rfl, grown_trans HI.out.2.2.1.gr (grown_trans HG4.out (grown_trans (grown_of_below (Below.refl _ _).drew _) hg))⟩
      | false =>
        go_wp2_with fail
        have hS : wr.cell? ⟨bo, 1, none⟩ = some (.slice A acc.length cp) := cb1
        have hwl : IntKind.i64.wrap (lev + 1) = lev + 1 := IntWalk.i64_in _ (by omega)
        refine region_mix (fun x => x.cell? ⟨bo, 1, none⟩ = some (.slice A acc.length cp)) [0, 1, 2, 3, 4] [5, 6, 7, 8, 9] (by kernel_rfl) (by kernel_rfl) (by intro c a d v w h; cases d <;> exact h) hS ?_
        simp only [picks, List.filterMap_cons, List.filterMap_nil, List.getElem?_toArray, List.getElem?_cons_succ, List.getElem?_cons_zero]
        repeat (refine rd_next _ (by rfl) (by intro w' hS'; go_simp; try with_reducible rfl) ?_; simp only [Act.put, List.setIfInBounds_toArray, List.set_cons_zero, List.set_cons_succ])
        refine rd_done ?_
        refine eff_next (by rfl) (fun K hK => ?_)
        go_simp
        clear hwl hS
        have HRW := Lib.hid (HRD.out.below (w' := wr.drew) (Below.refl _ _).drew)
        have HSW : Hid (CSt w wr.drew rb tb cap toks w.heap.size bo (hd ts).text (.slice A acc.length cp) acc cur) := HI.out.2.2.1.move ⟨⟨_, HRW.out⟩, grown_of_below (Below.refl _ _).drew _⟩
        cases ht : termF d cur with
        | err p e =>
          have HCE := Lib.hid ht
          clear ht
          (with_reducible refine (IH wr.drew rb tb cap toks cur i3 HRW.out (lev + 1) (by have := HLV.out; omega)).mono ?_)
          rw [HCE.out]
          rintro e' w4 ⟨rfl, hg⟩
          refine ⟨rfl, ?_⟩
          unfold TPost
          rw [HC.out, HI.out.2.2.2, argsF_err (by have := HI.out.1; have := HI.out.2.1; omega) (Bool.and_eq_false_iff.2 (.inl (beq_eq_false_iff_ne.2 (by have := beq_eq_false_iff_ne.1 h4; omega)))) HCE.out]
          exact ⟨rfl, grown_trans HSW.out.gr hg⟩
        | ok t rest =>
          have HCE := Lib.hid ht
          clear ht
          (with_reducible refine (IH wr.drew rb tb cap toks cur i3 HRW.out (lev + 1) (by have := HLV.out; omega)).mono ?_)
          rw [HCE.out]
          rintro e' w4 ⟨x, rfl, htm, hmv⟩
          have hS4 := HSW.out.move hmv
          obtain ⟨xs, hx1, hx2⟩ := hS4.app htm lb (fun k hk => by obtain ⟨_, _, _, h3, _⟩ := HI.out.2.2.1.own; exact (h3.lt k hk).2)
          obtain ⟨cb0', cb1', fb1', lb', lr'⟩ := hS4.facts
          obtain ⟨nm', A', cp', l', rfl, rfl⟩ := htm.form
          have HX1 := Lib.hid hx1
          have HX2 := Lib.hid hx2
          have HS4 := Lib.hid hS4
          clear hx1 hx2 hS4 htm hmv
          refine hK _ _ (fun _ => cb1') ?_
          clear hK K
          try simp only [Act.put, List.setIfInBounds_toArray, List.set_cons_zero, List.set_cons_succ]
          refine eff_next (by rfl) (fun K hK => ?_)
          go_simp
          refine hK _ _ (fun _ => (World.cell?_alloc_lt w4 _ ⟨bo, 1, none⟩ lb').trans cb1') ?_
          clear hK K
          try simp only [Act.put, List.setIfInBounds_toArray, List.set_cons_zero, List.set_cons_succ]
          refine eff_next (by rfl) (fun K hK => ?_)
          have hrow : bo + 1 ≤ w4.heap.size := lb'
          (with_reducible refine wp_append_lies _ (.tmp 32) (.tmp 37) _ rfl (bo + 1) 25 i0 _ 2 40 Tryz.underlying23 HI0.out HZ0.out HZ1.out HZ2.out rfl (by omega) (.slice A acc.length cp) acc.length xs rfl (HX1.out.alloc _) ⟨w4.heap.size, 0, none⟩ 1 1 [.string (bs nm'), .slice A' l'.length cp'] rfl rfl (World.news_of_block (cs := #[.string (bs nm'), .slice A' l'.length cp']) (t := 25) (fr := (0, 0)) (heap_alloc_new w4 _)) (by simp [Value.oneCell']) (by omega) (by unfold maxLen; omega) (by omega) (by simp; omega) (w4.heap.size + 1) (by simp) ?_)
          intro g cp6 w6 hown6 hgrow hat hlt6
          have hC := HX2.out g cp6 w6 _ hown6 hgrow hat
          have hc6 := hC.2.1
          have hf6 := hC.2.2.1
          have hl6 := hC.2.2.2
          have HC6 := Lib.hid hC.1
          clear hC hown6 hgrow hat hlt6
          refine hK _ _ (fun _ => hc6) ?_
          clear hK K
          try simp only [Act.put, List.setIfInBounds_toArray, List.set_cons_zero, List.set_cons_succ]
          refine eff_next (by rfl) (fun K hK => ?_)
          go_simp
          refine hK _ _ (fun _ => hc6) ?_
          clear hK K
          try simp only [Act.put, List.setIfInBounds_toArray, List.set_cons_zero, List.set_cons_succ]
          refine eff_next (by rfl) (fun K hK => ?_)
          go_simp
          refine hK _ _ (fun h => absurd rfl h) ?_
          clear hK K
          try simp only [Act.put, List.setIfInBounds_toArray, List.set_cons_zero, List.set_cons_succ]
          refine eff_done ?_
          generalize w6.setCell ⟨bo, 1, none⟩ (.slice (some ⟨g, 0, none⟩) (acc.length + 1) cp6) = w7 at HC6
          obtain ⟨i7, hr7⟩ := HC6.out.rd
          have h4' : (acc.length == 4 && begT cur) = false := Bool.and_eq_false_iff.2 (.inl (beq_eq_false_iff_ne.2 (by have := beq_eq_false_iff_ne.1 h4; omega)))
          have hn0 : 0 < gk := by have := HI.out.1; have := HI.out.2.1; omega
          clear cb0 cb1 fb1 lb lr cb0' cb1' fb1' lb' lr' hc6 hf6 hl6 hrow
          cases hcm : isT rest [44] with
          | true =>
            have HCM := Lib.hid (argsF_comma hn0 h4' HCE.out hcm)
            have HA7 := Lib.hid (accept_any hr7 [44])
            rw [hcm] at HA7
            clear hr7 hcm h4'
            go_wp2_with fail
            refine HA7.out.mono ?_
            rintro e w8 ⟨rfl, hm8⟩
            have HS8 := Lib.hid (HC6.out.move (ts' := rest.tail) hm8)
            clear hm8 HA7
            go_wp2_with fail
            go_roundg (gk - 1)
            case measure => omega
            case rel =>
              refine ⟨_, acc ++ [.mk nm' l'], rest.tail, ?_, ?_, HS8.out, ?_⟩
              · have := HI.out.1; rw [List.length_append]; simp; omega
              · have := beq_eq_false_iff_ne.1 h4; rw [List.length_append]; simp; omega
              · rw [HI.out.2.2.2, HCM.out]
          | false =>
            have HCM := Lib.hid (argsF_close hn0 h4' HCE.out hcm)
            have HA7 := Lib.hid (accept_any hr7 [44])
            rw [hcm] at HA7
            clear hr7 hcm h4'
            go_wp2_with fail
            refine HA7.out.mono ?_
            rintro e w8 ⟨rfl, hm8⟩
            have HS8 := Lib.hid (HC6.out.move (ts' := rest) hm8)
            clear hm8 HA7
            obtain ⟨i8, hr8⟩ := HS8.out.rd
            cases hcl : isT rest [41] with
            | true =>
              have HX8 := Lib.hid (expect_any hr8 [41])
              rw [hcl] at HX8
              rw [hcl] at HCM
              clear hr8 hcl
              go_wp2_with fail
              refine HX8.out.mono ?_
              rintro e w9 h9
              obtain ⟨rfl, hm9⟩ := h9
              have HS9 := Lib.hid (HS8.out.move (ts' := rest.tail) hm9)
              clear hm9
              obtain ⟨cb0, cb1, _, lb, lr⟩ := HS9.out.facts
              obtain ⟨u0, u1, cr0, cr1, fr0, fr1⟩ := HS9.out.facts4
              have hbr : w.heap.size ≠ bo := by omega
              go_wp2_with fail
              refine bodyPost_ret (v := .agg #[.string (bs (hd ts).text), .slice (some ⟨g, 0, none⟩) (acc.length + 1) cp6]) (by simp [results, Tryz.results99, go_sem, cr0, cr1]) rfl ?_
              unfold TPost
              rw [HC.out, HI.out.2.2.2, HCM.out]
              exact ⟨[.string (bs (hd ts).text), .slice (some ⟨g, 0, none⟩) (acc.length + 1) cp6], rfl, HS9.out.fin _ _⟩
            | false =>
              have HX8 := Lib.hid (expect_any hr8 [41])
              rw [hcl] at HX8
              rw [hcl] at HCM
              clear hr8 hcl
              go_wp2_with fail
              refine HX8.out.mono ?_
              rintro e w9 h9
              obtain ⟨rfl, hg9⟩ := h9
              refine ⟨rfl, ?_⟩
              unfold TPost
              rw [HC.out, HI.out.2.2.2, HCM.out]
              exact ⟨rfl, grown_trans HS8.out.gr hg9⟩


end
/- The walk of (*parser.reader).term. -/
section
open Go Go.RowKit
set_option linter.unusedSimpArgs false

theorem grown_set (w : World) (r o : Nat) (u : Value) : w.grownBy (w.setCell ⟨r, o, none⟩ u) (some r) :=
  ⟨rfl, rfl, rfl, by simp, fun k _ hk => Below.heap_setCell _ _ _ _ (fun e => hk (by rw [e]))⟩
/-- a block of the call's own is written -/
theorem Moved.other {w w4 w5 : World} {rb tb cap : Nat} {toks ts : List Tok} {r4 : Nat} (h : Moved w rb tb cap toks ts w4) (hg : w4.grownBy w5 (some r4)) (hr : w.heap.size ≤ r4) (hrb : rb < w.heap.size) (htb : tb < w.heap.size) : Moved w rb tb cap toks ts w5 := by
  obtain ⟨⟨i, hi⟩, hm⟩ := h
  have hs := hm.size
  have hne : ∀ k, k < w4.heap.size → k ≠ r4 → w5.heap[k]? = w4.heap[k]? := fun k hk hn => hg.block k hk (fun e => hn (by injection e))
  refine ⟨⟨i, hi.lt, hi.ts_, (hne rb (by omega) (by omega)).trans hi.blk, hi.tk.keep (hne tb (by omega) (by omega)) hg.size, hi.ne, hi.big, hi.fin⟩, ⟨hg.os.trans hm.os, hg.tape.trans hm.tape, hg.output.trans hm.output, Nat.le_trans hs hg.size, fun k hk hn => (hne k (by omega) (by omega)).trans (hm.block k hk hn)⟩⟩
theorem TmV.other {w4 w5 : World} {B B' : Nat} {x : List Value} {t : Tm} {r4 : Nat} (h : TmV w4 (fun b => B ≤ b) x t) (hg : w4.grownBy w5 (some r4)) (hr : r4 < B) (hB : B' ≤ B) : TmV w5 (fun b => B' ≤ b) x t :=
  h.keep (fun b hb hlt => ⟨by omega, hg.block b hlt (fun e => by injection e; omega)⟩) hg.size
theorem TmV.leaf (w : World) (P : Nat → Prop) (nm : List UInt8) : TmV w P [.string (bs nm), .slice none 0 0] (.mk nm []) :=
  TmV.mk nm none 0 [] [] rfl (fun h => absurd h (Nat.not_lt_zero _)) (fun _ _ _ h => by simp at h)

theorem cells_two {w : World} {b : Nat} {x y : Value} {t : TypeId} (h : w.heap[b]? = some (.cells #[x, y] t (0, 0))) :
    w.cell? ⟨b, 0, none⟩ = some x ∧ w.cell? ⟨b, 1, none⟩ = some y ∧ w.frozen? ⟨b, 0, none⟩ = false ∧ w.frozen? ⟨b, 1, none⟩ = false := by
  refine ⟨?_, ?_, ?_, ?_⟩
  · rw [cell_of_row w b 0 _ _ _ h]; rfl
  · rw [cell_of_row w b 1 _ _ _ h]; rfl
  · simp [World.frozen?, h]
  · simp [World.frozen?, h]

set_option maxHeartbeats 4000000 in
set_option maxRecDepth 100000 in
theorem term_of (d : Nat) (hd4 : d ≤ 4) (IC : ∀ d', d = d' + 1 → ∀ (w : World) (rb tb cap : Nat) (toks ts : List Tok) (i : Nat), Rd w rb tb cap toks ts i → (hd ts).kind = 1 → ∀ lev : Int, lev + d' = 4 →
      Calls Tryz.prog 99 #[.pointer (some ⟨rb, 0, none⟩), .int .i64 lev] w (TPost w rb tb cap toks (compF (termF d') ts)))
    (w : World) (rb tb cap : Nat) (toks ts : List Tok) (i : Nat) (h : Rd w rb tb cap toks ts i) (lev : Int) (hlev : lev + d = 5) :
    Calls Tryz.prog 79 #[.pointer (some ⟨rb, 0, none⟩), .int .i64 lev] w (TPost w rb tb cap toks (termF d ts)) := by
  have HR := Lib.hid h
  have hrw := h.rlt
  have htw := h.tk.1
  have hsm : (i : Int) < 20000 := by have := h.lt; have := h.big; omega
  clear h
  have HIC := Lib.hid IC
  clear IC
  go_enter Tryz.func79, Tryz.ntmps79
  go_wp2_with fail
  have HR1 := Lib.hid (HR.out.below (w' := w.alloc (.cells #[.string ⟨#[]⟩, .slice none 0 0] 25)) ((Below.refl _ _).alloc (Nat.le_refl _) _))
  refine (token_any HR1.out).mono ?_
  rintro e w1 ⟨rfl, hb1⟩
  have hsz : w.heap.size < w1.heap.size := by have := hb1.size; simp at this; omega
  have hres : w1.heap[w.heap.size]? = some (.cells #[.string ⟨#[]⟩, .slice none 0 0] 25 (0, 0)) := (hb1.block _ (by simp)).trans (heap_alloc_new w _)
  have HB1 := Lib.hid (hb1.trans (((Below.refl w1.heap.size w1).alloc (Nat.le_refl _) (.cells #[.int .i64 (hd ts).kind, .string (bs (hd ts).text), .int .i64 (hd ts).pos] 118)).mono hb1.size))
  have HR2 := Lib.hid (HR1.out.below HB1.out)
  have HG2 := Lib.hid (grown_trans (World.grownBy_alloc w (.cells #[.string ⟨#[]⟩, .slice none 0 0] 25) (some rb)) (grown_of_below HB1.out (some rb)))
  have hres2 : (w1.alloc (.cells #[.int .i64 (hd ts).kind, .string (bs (hd ts).text), .int .i64 (hd ts).pos] 118)).heap[w.heap.size]? = some (.cells #[.string ⟨#[]⟩, .slice none 0 0] 25 (0, 0)) := (Below.heap_alloc _ _ _ hsz).trans hres
  have HRES := Lib.hid hres2
  clear hb1 hres hres2 HR1 HB1
  have hB : begT ts = ((hd ts).kind == 1 || (hd ts).kind == 2 || (hd ts).kind == 3) := rfl
  simp only []
  iterate 12 (first | go_skip | go_guarded | go_step | go_upon | go_back)
  have T0 : (w1.alloc (.cells #[.int .i64 (hd ts).kind, .string (bs (hd ts).text), .int .i64 (hd ts).pos] 118)).cell? ⟨w1.heap.size, 0, none⟩ = some (.int .i64 (hd ts).kind) := by
    rw [cell_of_row _ _ 0 _ _ _ (heap_alloc_new w1 _)]; rfl
  have T1 : (w1.alloc (.cells #[.int .i64 (hd ts).kind, .string (bs (hd ts).text), .int .i64 (hd ts).pos] 118)).cell? ⟨w1.heap.size, 1, none⟩ = some (.string (bs (hd ts).text)) := by
    rw [cell_of_row _ _ 1 _ _ _ (heap_alloc_new w1 _)]; rfl
  generalize w1.alloc (.cells #[.int .i64 (hd ts).kind, .string (bs (hd ts).text), .int .i64 (hd ts).pos] 118) = w2 at *
  have hbt : rb ≠ w1.heap.size := by omega
  generalize w1.heap.size = bt at *
  have hd : (((hd ts).kind == 1) = false ∧ ((hd ts).kind == 2) = false ∧ ((hd ts).kind == 3) = false) ∨ ((hd ts).kind == 1) = true ∨ (((hd ts).kind == 1) = false ∧ ((hd ts).kind == 2) = true) ∨ (((hd ts).kind == 1) = false ∧ ((hd ts).kind == 2) = false ∧ ((hd ts).kind == 3) = true) := by
    cases (hd ts).kind == 1 <;> cases (hd ts).kind == 2 <;> cases (hd ts).kind == 3 <;> simp
  obtain ⟨k1, k2, k3⟩ | k1 | ⟨k1, k2⟩ | ⟨k1, k2, k3⟩ := hd
  all_goals
    simp only [*, Bool.false_or, Bool.true_or, Bool.or_true, Bool.or_self] at hB
  -- no term begins here
  · have HT := Lib.hid (termF_nobeg (d := d) hB)
    clear hB HIC
    generalize hkd : (hd ts).kind = kd at *
    have HKD := Lib.hid hkd
    clear hkd
    go_wp2_with fail
    refine (fail_any HR2.out 1).mono ?_
    rintro e w5 ⟨rfl, hb5⟩
    refine ⟨rfl, ?_⟩
    unfold TPost
    rw [HT.out]
    exact ⟨rfl, grown_trans HG2.out (grown_of_below hb5 _)⟩
  -- a name
  · cases d with
    | zero =>
      have hB' : begT ts = true := hB
      have HT : Hid (termF 0 ts = failT ts 3) := by unfold Hid termF; rw [if_pos hB']
      have hl5 : lev = 5 := by omega
      subst hl5
      clear hB hB' HIC
      generalize hkd : (hd ts).kind = kd at *
      have HKD := Lib.hid hkd
      clear hkd
      go_wp2_with fail
      refine (fail_any HR2.out 3).mono ?_
      rintro e w5 ⟨rfl, hb5⟩
      refine ⟨rfl, ?_⟩
      unfold TPost
      rw [HT.out]
      exact ⟨rfl, grown_trans HG2.out (grown_of_below hb5 _)⟩
    | succ d' =>
      have hB' : begT ts = true := hB
      have HT : Hid (termF (d' + 1) ts = if (hd ts).kind == 1 then compF (termF d') ts else .ok (.mk (hd ts).text []) ts.tail) := by unfold Hid; rw [termF, if_pos hB']
      have hl4 : lev ≤ 4 := by omega
      have HL := Lib.hid (show lev + (d' : Int) = 4 by omega)
      have HNZ : Hid ((hd ts).kind ≠ 0) := begT_kind hB'
      have HK1 := Lib.hid k1
      rw [k1] at HT
      clear hB hB' hlev hd4
      have c1 := HR2.out.c1
      have f1 := HR2.out.f1
      generalize hkd : (hd ts).kind = kd at *
      have HKD := Lib.hid hkd
      clear hkd
      have HK2 : Hid ((hd ts).kind = 1) := by have := HKD.out; rw [← beq_iff_eq, this]; exact HK1.out
      go_wp2_with fail
      clear k1
      (with_reducible refine (HIC.out d' rfl w2 rb tb cap toks ts i HR2.out HK2.out lev HL.out).mono ?_)
      simp only [if_true] at HT
      cases hct : compF (termF d') ts with
      | err p e =>
        rw [hct] at HT
        clear hct
        rintro e' w3 ⟨rfl, hg⟩
        refine ⟨rfl, ?_⟩
        unfold TPost
        rw [HT.out]
        exact ⟨rfl, grown_trans HG2.out hg⟩
      | ok t rest =>
        rw [hct] at HT
        clear hct
        rintro e' w3 ⟨x, rfl, htm, hmv⟩
        obtain ⟨nm', A', cp', l', rfl, rfl⟩ := htm.form
        have hr3 := (hmv.2.block w.heap.size (heap_lt HRES.out) (by simp; omega)).trans HRES.out
        obtain ⟨cr0, cr1, fr0, fr1⟩ := cells_two hr3
        have HTM := Lib.hid htm
        have HMV := Lib.hid hmv
        have hlt2 : w.heap.size < w2.heap.size := heap_lt HRES.out
        clear htm hmv hr3 T0 T1
        go_wp2_with fail
        refine bodyPost_ret (v := .agg #[.string (bs nm'), .slice A' l'.length cp']) (by simp [results, Tryz.results79, go_sem, cr0, cr1]) rfl ?_
        unfold TPost
        rw [HT.out]
        have hg2 : w3.grownBy ((w3.setCell ⟨w.heap.size, 0, none⟩ (.string (bs nm'))).setCell ⟨w.heap.size, 1, none⟩ (.slice A' l'.length cp')) (some w.heap.size) := grown_trans (grown_set _ _ _ _) (grown_set _ _ _ _)
        exact ⟨[.string (bs nm'), .slice A' l'.length cp'], rfl, HTM.out.other hg2 hlt2 (by omega), Moved.other ⟨HMV.out.1, grown_trans HG2.out HMV.out.2⟩ hg2 (Nat.le_refl _) hrw htw⟩
  -- a variable or a number
  all_goals
    cases d with
    | zero =>
      have hB' : begT ts = true := hB
      have HT : Hid (termF 0 ts = failT ts 3) := by unfold Hid termF; rw [if_pos hB']
      have hl5 : lev = 5 := by omega
      subst hl5
      clear hB hB' HIC
      generalize hkd : (hd ts).kind = kd at *
      have HKD := Lib.hid hkd
      clear hkd
      go_wp2_with fail
      refine (fail_any HR2.out 3).mono ?_
      rintro e w5 ⟨rfl, hb5⟩
      refine ⟨rfl, ?_⟩
      unfold TPost
      rw [HT.out]
      exact ⟨rfl, grown_trans HG2.out (grown_of_below hb5 _)⟩
    | succ d' =>
      have hB' : begT ts = true := hB
      have HT : Hid (termF (d' + 1) ts = if (hd ts).kind == 1 then compF (termF d') ts else .ok (.mk (hd ts).text []) ts.tail) := by unfold Hid; rw [termF, if_pos hB']
      have hl4 : lev ≤ 4 := by omega
      have HL := Lib.hid (show lev + (d' : Int) = 4 by omega)
      have HNZ : Hid ((hd ts).kind ≠ 0) := begT_kind hB'
      have HK1 := Lib.hid k1
      rw [k1] at HT
      clear hB hB' hlev hd4
      have c1 := HR2.out.c1
      have f1 := HR2.out.f1
      generalize hkd : (hd ts).kind = kd at *
      have HKD := Lib.hid hkd
      clear hkd
      have hlv : ¬ (4 : Int) < lev := by omega
      have hr2 := HRES.out
      obtain ⟨cr0, cr1, fr0, fr1⟩ := cells_two hr2
      have hlt2 : w.heap.size < w2.heap.size := heap_lt hr2
      have c1 := HR2.out.c1
      have f1 := HR2.out.f1
      have hne : rb ≠ w.heap.size := by omega
      clear hr2
      go_wp2_with fail
      rw [show ((i : Int) + 1) = ((i + 1 : Nat) : Int) from by omega]
      refine bodyPost_ret (v := .agg #[.string (bs (hd ts).text), .slice none 0 0]) (by simp [results, Tryz.results79, go_sem, cr0, cr1, hne, Ne.symm hne]) rfl ?_
      simp only [if_false, Bool.false_eq_true] at HT
      unfold TPost
      rw [HT.out]
      have hs := HR2.out.step (by rw [HKD.out]; exact HNZ.out)
      have hg2 : (w2.setCell ⟨rb, 1, none⟩ (.int .i64 (i + 1 : Nat))).grownBy (((w2.setCell ⟨rb, 1, none⟩ (.int .i64 (i + 1 : Nat))).setCell ⟨w.heap.size, 0, none⟩ (.string (bs (hd ts).text))).setCell ⟨w.heap.size, 1, none⟩ (.slice none 0 0)) (some w.heap.size) := grown_trans (grown_set _ _ _ _) (grown_set _ _ _ _)
      exact ⟨[.string (bs (hd ts).text), .slice none 0 0], rfl, TmV.leaf _ _ _, Moved.other ⟨⟨_, hs.1⟩, grown_trans HG2.out hs.2⟩ hg2 (Nat.le_refl _) hrw htw⟩

theorem term_any : ∀ (d : Nat), d ≤ 4 → ∀ (w : World) (rb tb cap : Nat) (toks ts : List Tok) (i : Nat), Rd w rb tb cap toks ts i → ∀ lev : Int, lev + d = 5 →
    Calls Tryz.prog 79 #[.pointer (some ⟨rb, 0, none⟩), .int .i64 lev] w (TPost w rb tb cap toks (termF d ts)) := by
  intro d
  induction d with
  | zero => intro _ w rb tb cap toks ts i h lev hl; exact term_of 0 (by omega) (fun d' hd => by omega) w rb tb cap toks ts i h lev hl
  | succ d ih =>
    intro hd w rb tb cap toks ts i h lev hl
    refine term_of (d + 1) hd (fun d' hd' => ?_) w rb tb cap toks ts i h lev hl
    obtain rfl : d = d' := by omega
    exact compound_of d (by omega) (ih (by omega))
theorem compound_any (w : World) (rb tb cap : Nat) (toks ts : List Tok) (i : Nat) (h : Rd w rb tb cap toks ts i) (hk : (hd ts).kind = 1) :
    Calls Tryz.prog 99 #[.pointer (some ⟨rb, 0, none⟩), .int .i64 1] w (TPost w rb tb cap toks (compF (termF 3) ts)) :=
  compound_of 3 (by omega) (term_any 3 (by omega)) w rb tb cap toks ts i h hk 1 (by omega)

end
end Go.Proofs.YtmplpbdldcokjaaGreatDoor
