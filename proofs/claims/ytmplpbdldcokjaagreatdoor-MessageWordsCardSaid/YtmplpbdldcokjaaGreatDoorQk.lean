/- The walks of (*message.words).next, number, text. -/
import Derived.Test.YtmplpbdldcokjaaGreatDoorQj
namespace Go.Proofs.YtmplpbdldcokjaaGreatDoor
open Go Go.RowKit Go.Shelf
set_option linter.unusedSimpArgs false
set_option linter.unusedVariables false

/-- words in memory, from a place of a block on -/
def StrAt (w : World) (s o : Nat) (l : List (List UInt8)) : Prop := ∀ (i : Nat) (x : List UInt8), l[i]? = some x → w.cell? ⟨s, o + i, none⟩ = some (.string (bs x))
theorem StrAt.keep {w w' : World} {s o : Nat} {l : List (List UInt8)} (h : StrAt w s o l) (he : w'.heap[s]? = w.heap[s]?) : StrAt w' s o l :=
  fun i x hx => (World.cell?_of_block (a := ⟨s, o + i, none⟩) he).trans (h i x hx)
theorem StrAt.tail {w : World} {s o : Nat} {x : List UInt8} {l : List (List UInt8)} (h : StrAt w s o (x :: l)) : StrAt w s (o + 1) l := fun i y hy => by
  have := h (i + 1) y (by simpa using hy)
  rwa [show o + (i + 1) = o + 1 + i from by omega] at this
/-- the reader of words: its block, the words that are left, and whether something was wrong -/
structure WS (w : World) (q s o : Nat) (l : List (List UInt8)) (bad : Bool) : Prop where
  blk : w.heap[q]? = some (.cells #[.slice (some ⟨s, o, none⟩) l.length l.length, .bool bad] 47 (0, 0))
  str : StrAt w s o l
  ne : s ≠ q
  lt : s < w.heap.size
  max : l.length ≤ 1000000
theorem WS.keep {w w' : World} {q s o : Nat} {l : List (List UInt8)} {bad : Bool} (h : WS w q s o l bad) (hb : Below w.heap.size w w') : WS w' q s o l bad :=
  ⟨(hb.block _ (heap_lt h.blk)).trans h.blk, h.str.keep (hb.block _ h.lt), h.ne, Nat.lt_of_lt_of_le h.lt hb.size, h.max⟩
theorem WS.grown {w w' : World} {q s o p : Nat} {l : List (List UInt8)} {bad : Bool} (h : WS w q s o l bad) (hg : w.grownBy w' (some p)) (hp : p ≠ q) (hps : p ≠ s) : WS w' q s o l bad :=
  ⟨(hg.block _ (heap_lt h.blk) (by simpa using hp.symm)).trans h.blk, h.str.keep (hg.block _ h.lt (by simpa using hps.symm)), h.ne, Nat.lt_of_lt_of_le h.lt hg.size, h.max⟩
theorem cells_two2 {w : World} {q : Nat} {a b : Value} {t : TypeId} (h : w.heap[q]? = some (.cells #[a, b] t (0, 0))) : w.cell? ⟨q, 0, none⟩ = some a ∧ w.cell? ⟨q, 1, none⟩ = some b ∧ w.frozen? ⟨q, 0, none⟩ = false ∧ w.frozen? ⟨q, 1, none⟩ = false := cells_two h
/-- what a method of the reader leaves -/
def WP (w : World) (q s : Nat) (l : List (List UInt8)) (bad : Bool) (v : Value) (e : Ending) (w' : World) : Prop := e = .returned v ∧ ∃ o, WS w' q s o l bad ∧ w.grownBy w' (some q)

theorem set_row {w : World} {q : Nat} {cs : Array Value} {T : TypeId} (h : w.heap[q]? = some (.cells cs T (0, 0))) (i : Nat) (v : Value) :
    (w.setCell ⟨q, i, none⟩ v).heap[q]? = some (.cells (cs.setIfInBounds i v) T (0, 0)) ∧ w.grownBy (w.setCell ⟨q, i, none⟩ v) (some q) :=
  ⟨by simp [World.setCell, Array.getElem?_modify, h], ⟨rfl, rfl, rfl, by simp [World.setCell], fun k _ hk => Below.heap_setCell _ _ _ _ (fun e => hk (by rw [e]))⟩⟩
theorem WS.wrong {w : World} {q s o : Nat} {l : List (List UInt8)} {bad : Bool} (h : WS w q s o l bad) : WS (w.setCell ⟨q, 1, none⟩ (.bool true)) q s o l true ∧ w.grownBy (w.setCell ⟨q, 1, none⟩ (.bool true)) (some q) := by
  obtain ⟨h1, h2⟩ := set_row h.blk 1 (.bool true)
  exact ⟨⟨h1, h.str.keep (h2.block _ h.lt (by simpa using h.ne)), h.ne, Nat.lt_of_lt_of_le h.lt h2.size, h.max⟩, h2⟩
theorem WS.step {w : World} {q s o : Nat} {x : List UInt8} {l : List (List UInt8)} {bad : Bool} (h : WS w q s o (x :: l) bad) :
    WS (w.setCell ⟨q, 0, none⟩ (.slice (some ⟨s, o + 1, none⟩) l.length l.length)) q s (o + 1) l bad ∧ w.grownBy (w.setCell ⟨q, 0, none⟩ (.slice (some ⟨s, o + 1, none⟩) l.length l.length)) (some q) := by
  obtain ⟨h1, h2⟩ := set_row h.blk 0 (.slice (some ⟨s, o + 1, none⟩) l.length l.length)
  have := h.max
  rw [List.length_cons] at this
  exact ⟨⟨h1, h.str.tail.keep (h2.block _ h.lt (by simpa using h.ne)), h.ne, Nat.lt_of_lt_of_le h.lt h2.size, by omega⟩, h2⟩
theorem WS.step1 {w : World} {q s o : Nat} {x : List UInt8} {bad : Bool} (h : WS w q s o [x] bad) :
    WS (w.setCell ⟨q, 0, none⟩ (.slice (some ⟨s, o, none⟩) 0 0)) q s o [] bad ∧ w.grownBy (w.setCell ⟨q, 0, none⟩ (.slice (some ⟨s, o, none⟩) 0 0)) (some q) := by
  obtain ⟨h1, h2⟩ := set_row h.blk 0 (.slice (some ⟨s, o, none⟩) 0 0)
  exact ⟨⟨h1, fun i y hy => by simp at hy, h.ne, Nat.lt_of_lt_of_le h.lt h2.size, by simp⟩, h2⟩

theorem below_grown {w w' : World} (h : Below w.heap.size w w') (row : Option Nat) : w.grownBy w' row := ⟨h.os, h.tape, h.output, h.size, fun k hk _ => h.block k hk⟩
set_option maxHeartbeats 4000000 in
set_option maxRecDepth 100000 in
theorem next_any (w : World) (q s o : Nat) (l : List (List UInt8)) (bad : Bool) (h : WS w q s o l bad) :
    Calls Tryz.prog 29 #[.pointer (some ⟨q, 0, none⟩)] w (WP w q s l.tail (bad || l.isEmpty) (.string (bs (l.headD [])))) := by
  obtain ⟨c0, c1, f0, f1⟩ := cells_two h.blk
  cases l with
  | nil =>
    have HX := Lib.hid h.wrong
    clear h
    go_enter Tryz.func29, Tryz.ntmps29
    go_wp2_with fail
    go_ret
    exact ⟨rfl, _, by simpa using HX.out.1, HX.out.2⟩
  | cons x l =>
    have cx := h.str 0 x rfl
    rw [Nat.add_zero] at cx
    cases l with
    | nil =>
      have HX := Lib.hid h.step1
      rw [show [x].length = 1 from rfl] at c0
      clear h
      go_enter Tryz.func29, Tryz.ntmps29
      go_wp2_with fail
      go_ret
      exact ⟨rfl, _, by simpa using HX.out.1, HX.out.2⟩
    | cons y l =>
      have HX := Lib.hid h.step
      have hm := h.max
      rw [List.length_cons] at c0 hm
      have hpos : 0 < (y :: l).length := by simp
      generalize hn : (y :: l).length = n at *
      have e1 : ((n : Int) + 1 == 0) = false := by simp; omega
      have e2 : n ≠ 0 := by omega
      clear h hn
      go_enter Tryz.func29, Tryz.ntmps29
      go_wp2_with fail
      go_ret
      exact ⟨rfl, _, by simpa using HX.out.1, HX.out.2⟩

/-- the two errors of strconv -/
def Er (w : World) : Prop := (2 < w.heap.size) ∧ (∃ te pe, w.cell? ⟨1, 0, none⟩ = some (.iface te pe)) ∧ ∃ te pe, w.cell? ⟨2, 0, none⟩ = some (.iface te pe)
theorem Er.below {w w' : World} (h : Er w) (hb : Below w.heap.size w w') : Er w' :=
  ⟨Nat.lt_of_lt_of_le h.1 hb.size, by rw [hb.cell (p := ⟨1, 0, none⟩) (by have := h.1; show (1 : Nat) < _; omega)]; exact h.2.1, by rw [hb.cell (p := ⟨2, 0, none⟩) (by have := h.1; show (2 : Nat) < _; omega)]; exact h.2.2⟩
theorem Er.grown {w w' : World} {q : Nat} (h : Er w) (hg : w.grownBy w' (some q)) (hq : 2 < q) : Er w' := by
  have h1 := hg.block 1 (by have := h.1; omega) (by simp; omega)
  have h2 := hg.block 2 (by have := h.1; omega) (by simp; omega)
  exact ⟨Nat.lt_of_lt_of_le h.1 hg.size, by rw [World.cell?_of_block (a := ⟨1, 0, none⟩) h1]; exact h.2.1, by rw [World.cell?_of_block (a := ⟨2, 0, none⟩) h2]; exact h.2.2⟩

set_option maxHeartbeats 4000000 in
set_option maxRecDepth 100000 in
theorem wtext_any (w : World) (q s o : Nat) (l : List (List UInt8)) (bad : Bool) (h : WS w q s o l bad) (hl : (l.headD []).length ≤ 30000000) :
    Calls Tryz.prog 32 #[.pointer (some ⟨q, 0, none⟩)] w (WP w q s l.tail (bad || (txO l).isNone) (.string (bs ((txO l).getD [])))) := by
  have CN := Lib.hid (next_any w q s o l bad h)
  have CU := Lib.hid (fun (y : World) => unescape_any y (bs (l.headD [])) (by rw [size_bs]; exact hl))
  rw [toList_bs] at CU
  have hlt := heap_lt h.blk
  have HQ : Hid (txO l = if l.isEmpty then none else unT (l.headD [])) := by
    unfold txO
    cases l <;> rfl
  have HE : Hid (unT (([] : List (List UInt8)).headD []) = none) := by rfl
  clear h hl
  cases hu : unT (l.headD []) with
  | some t =>
    have hne : l.isEmpty = false := by
      cases l with
      | nil => rw [HE.out] at hu; cases hu
      | cons x l => rfl
    rw [hne] at HQ CN
    rw [hu] at HQ
    have HT : Hid (txO l = some t) := HQ.out
    unfold unV at CU
    rw [unO_some hu] at CU
    simp only at CU
    have HRU : Hid (Value.string (bs t) = Value.string (bs ((txO l).getD []))) := by rw [Hid, HT.out]; rfl
    have HBB : Hid ((bad || false) = (bad || (txO l).isNone)) := by rw [Hid, HT.out]; rfl
    clear hu HQ HT HE hne
    generalize bs (l.headD []) = s0 at *
    generalize bs t = s1 at *
    go_enter Tryz.func32, Tryz.ntmps32
    go_wp2_with fail
    refine CN.out.mono ?_
    rintro e w1 ⟨rfl, o1, h1, g1⟩
    have H1 := Lib.hid h1
    have G1 := Lib.hid g1
    clear h1 g1
    go_wp2_with fail
    refine (CU.out _).mono ?_
    rintro e w2 ⟨rfl, hb⟩
    have H2 := Lib.hid (H1.out.keep hb)
    have G2 := Lib.hid (grown_trans G1.out (below_grown hb (some q)))
    clear hb
    go_wp2_with fail
    go_ret
    exact ⟨by rw [← HRU.out]; rfl, o1, by rw [← HBB.out]; exact H2.out, G2.out⟩
  | none =>
    have HT : Hid (txO l = none) := by rw [Hid, HQ.out, hu]; split <;> rfl
    unfold unV at CU
    rw [unO_none hu] at CU
    simp only at CU
    rw [show bs [] = ⟨#[]⟩ from rfl] at CU
    have HRU : Hid (Value.string ⟨#[]⟩ = Value.string (bs ((txO l).getD []))) := by rw [Hid, HT.out]; rfl
    have HBB : Hid (true = (bad || (txO l).isNone)) := by rw [Hid, HT.out]; simp
    clear hu HQ HT HE
    generalize bs (l.headD []) = s0 at *
    go_enter Tryz.func32, Tryz.ntmps32
    go_wp2_with fail
    refine CN.out.mono ?_
    rintro e w1 ⟨rfl, o1, h1, g1⟩
    have H1 := Lib.hid h1
    have G1 := Lib.hid g1
    clear h1 g1
    go_wp2_with fail
    refine (CU.out _).mono ?_
    rintro e w2 ⟨rfl, hb⟩
    have H2 := Lib.hid (H1.out.keep hb)
    have G2 := Lib.hid (grown_trans G1.out (below_grown hb (some q)))
    clear hb
    have HX := Lib.hid H2.out.wrong
    obtain ⟨c0, c1, f0, f1⟩ := cells_two H2.out.blk
    go_wp2_with fail
    go_ret
    exact ⟨by rw [← HRU.out]; rfl, o1, by rw [← HBB.out]; exact HX.out.1, grown_trans G2.out HX.out.2⟩
end Go.Proofs.YtmplpbdldcokjaaGreatDoor
