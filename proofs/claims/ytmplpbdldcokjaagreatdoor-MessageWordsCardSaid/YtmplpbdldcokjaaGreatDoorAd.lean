/- The walk of the closure in lexer.Lex that adds a token. -/
import Derived.Test.YtmplpbdldcokjaaGreatDoorKd
import Derived.Deep.AppendLies
import Derived.Deep.RegionLaw
import Derived.OwnWalk
namespace Go.Proofs.YtmplpbdldcokjaaGreatDoor
open Go Go.RowKit

def tokCells (t : Tok) : List Value := [.int .i64 t.kind, .string (bs t.text), .int .i64 t.pos]
def toksCells (l : List Tok) : List Value := l.flatMap tokCells
theorem infoTok : (Tryz.prog.info? 118).map (fun i => (i.zero, i.size, i.bytes)) = some (some (.agg #[.int .i64 0, .string ⟨#[]⟩, .int .i64 0]), 3, 32) := by kernel_rfl

theorem toksCells_snoc (l : List Tok) (t : Tok) : toksCells (l ++ [t]) = toksCells l ++ tokCells t := by simp [toksCells]
theorem toksCells_len (l : List Tok) : (toksCells l).length = l.length * 3 := by
  induction l with
  | nil => rfl
  | cons t l ih => simp only [toksCells, List.flatMap_cons, List.length_append, List.length_cons] at ih ⊢; rw [ih]; simp [tokCells]; omega

/-- the variables of lexer.Lex: the block of 'out', that of 'source', what 'out' owns -/
structure LexSt (w : World) (B bo bsrc : Nat) (s : ByteArray) (v : Value) (n : Nat) (xs : List Value) : Prop where
  lo : bo < w.heap.size
  ls : bsrc < w.heap.size
  bo_ : B ≤ bo
  bs_ : B ≤ bsrc
  out : w.cell? ⟨bo, 0, none⟩ = some v
  free : w.frozen? ⟨bo, 0, none⟩ = false
  src : w.cell? ⟨bsrc, 0, none⟩ = some (.string s)
  own : w.ownsRow B 118 3 v n xs
  no : v.ownBlock ≠ some bo
  ns : v.ownBlock ≠ some bsrc
  nb : bo ≠ bsrc

theorem LexSt.below {w w' : World} {B bo bsrc : Nat} {s : ByteArray} {v : Value} {n : Nat} {xs : List Value} (h : LexSt w B bo bsrc s v n xs) (hb : Below w.heap.size w w') : LexSt w' B bo bsrc s v n xs := by
  obtain ⟨h1, h2, h3, h4, h5, h6, h7, h8, h9, h10, h11⟩ := h
  refine ⟨Nat.lt_of_lt_of_le h1 hb.size, Nat.lt_of_lt_of_le h2 hb.size, h3, h4, ?_, ?_, ?_, ?_, h9, h10, h11⟩
  · rw [hb.cell (by exact h1)]; exact h5
  · rw [hb.frozen (by exact h1)]; exact h6
  · rw [hb.cell (by exact h2)]; exact h7
  · exact h8.kept (row := none) ⟨hb.os, hb.tape, hb.output, hb.size, fun k hk _ => hb.block k hk⟩ (by cases v.ownBlock <;> simp)
theorem LexSt.drew {w : World} {B bo bsrc : Nat} {s : ByteArray} {v : Value} {n : Nat} {xs : List Value} (h : LexSt w B bo bsrc s v n xs) : LexSt w.drew B bo bsrc s v n xs :=
  h.below ((Below.refl _ _).drew)

/-- what 'add' leaves -/
theorem LexSt.added {w w1 : World} {B bo bsrc : Nat} {s : ByteArray} {v : Value} {n : Nat} {xs ys : List Value} {g cap : Nat} {o : Obj} (h : LexSt w B bo bsrc s v n xs) (hB : B ≤ w.heap.size)
    (hown : w1.ownsRow B 118 3 (.slice (some ⟨g, 0, none⟩) (n + 1) cap) (n + 1) ys) (hgrow : (w.alloc o).drew.grownBy w1 v.ownBlock) (hat : v.ownBlock = some g ∨ g = w.heap.size + 1) :
    LexSt (w1.setCell ⟨bo, 0, none⟩ (.slice (some ⟨g, 0, none⟩) (n + 1) cap)) B bo bsrc s (.slice (some ⟨g, 0, none⟩) (n + 1) cap) (n + 1) ys ∧ Below B w (w1.setCell ⟨bo, 0, none⟩ (.slice (some ⟨g, 0, none⟩) (n + 1) cap)) := by
  obtain ⟨h1, h2, h3, h4, h5, h6, h7, h8, h9, h10, h11⟩ := h
  have hsz : w.heap.size + 1 ≤ w1.heap.size := by have := hgrow.size; simpa using this
  have hgo : g ≠ bo := by
    rintro rfl
    rcases hat with hat | hat
    · exact h9 hat
    · omega
  have hgs : g ≠ bsrc := by
    rintro rfl
    rcases hat with hat | hat
    · exact h10 hat
    · omega
  have ho : w1.cell? ⟨bo, 0, none⟩ = some v := (hgrow.cell_far ⟨bo, 0, none⟩ (by simp; omega) (Ne.symm h9)).trans ((World.cell?_alloc_lt w _ ⟨bo, 0, none⟩ h1).trans h5)
  have hf : w1.frozen? ⟨bo, 0, none⟩ = false := (hgrow.frozen_far ⟨bo, 0, none⟩ (by simp; omega) (Ne.symm h9)).trans ((World.frozen?_alloc_old w _ ⟨bo, 0, none⟩ (Nat.ne_of_lt h1)).trans h6)
  have hs : w1.cell? ⟨bsrc, 0, none⟩ = some (.string s) := (hgrow.cell_far ⟨bsrc, 0, none⟩ (by simp; omega) (Ne.symm h10)).trans ((World.cell?_alloc_lt w _ ⟨bsrc, 0, none⟩ h2).trans h7)
  refine ⟨⟨by simp; omega, by simp; omega, h3, h4, ?_, ?_, ?_, ?_, by simpa [Value.ownBlock] using hgo, by simpa [Value.ownBlock] using hgs, h11⟩, ?_⟩
  · exact World.cell?_setCell_same _ _ _ ho
  · rw [World.frozen?_setCell]; exact hf
  · rw [World.cell?_setCell_other _ _ _ _ (fun e => h11 (by injection e))]; exact hs
  · exact hown.kept (row := some bo) ⟨rfl, rfl, rfl, by simp [World.setCell], fun k _ hk => Below.heap_setCell _ _ _ _ (fun e => hk (by rw [e]))⟩ (.inr (by simpa [Value.ownBlock] using hgo))
  · refine Below.setCell ?_ (by exact h3) _
    exact ((((Below.refl B w).alloc hB o).drew).grown hgrow (by simp; omega) (fun k hk => (h8.lt k hk).1))

set_option maxHeartbeats 3200000 in
set_option maxRecDepth 100000 in
theorem add_any (w : World) (B bo bsrc : Nat) (s : ByteArray) (k : Int) (i j : Nat) (v : Value) (n : Nat) (xs : List Value)
    (hij : i ≤ j) (hj : j ≤ s.size) (hB : B ≤ w.heap.size) (hst : LexSt w B bo bsrc s v n xs) (hn : n < 20000) :
    Calls Tryz.prog 119 #[.int .i64 k, .int .i64 i, .int .i64 j, .pointer (some ⟨bo, 0, none⟩), .pointer (some ⟨bsrc, 0, none⟩)] w fun e w' =>
      e = .returned (.tuple #[]) ∧ Below B w w' ∧ ∃ g cap, LexSt w' B bo bsrc s (.slice (some ⟨g, 0, none⟩) (n + 1) cap) (n + 1) (xs ++ [.int .i64 k, .string (s.extract i j), .int .i64 i]) := by
  obtain ⟨i0, hi0, hz0, hz1, hz2⟩ := info_parts infoTok
  have h1 : (0 : Int) ≤ (i : Int) := by omega
  have h2 : (i : Int) ≤ (j : Int) := by omega
  have h3 : (j : Int) ≤ (s.size : Int) := by omega
  have HST := Lib.hid hst
  obtain ⟨hbo, hbs, _, _, ho, hof, hsrc, hown0, hne, _, _⟩ := hst
  have hown := Lib.hid hown0
  clear hown0
  go_enter Tryz.func119, Tryz.ntmps119
  go_wp2_with fail
  go_region_law ((refine step_append_lies _ (by rfl) _ _ _ (by rfl) B 118 i0 _ 3 32 Tryz.underlying109 hi0 hz0 hz1 hz2 rfl (by omega) v n xs (by rfl) ((hown.out.alloc _).drew) ⟨w.heap.size, 0, none⟩ 1 1 [.int .i64 k, .string (s.extract i j), .int .i64 i] (by rfl) (by rfl) (World.news_of_block (cs := #[.int .i64 k, .string (s.extract i j), .int .i64 i]) (t := 118) (fr := (0, 0)) (heap_alloc_new w _)) (by simp [Value.oneCell']) (by omega) (by unfold maxLen; omega) (by omega) (by simp; omega) (w.heap.size + 1) (by simp) ?_; intro gg cap w1 hown1 hgrow hat hlt; have HR := Lib.hid (HST.out.added hB hown1 hgrow hat); have hc1 : w1.cell? ⟨bo, 0, none⟩ = some v := (hgrow.cell_far ⟨bo, 0, none⟩ (by simp; omega) (Ne.symm hne)).trans ((World.cell?_alloc_lt w _ ⟨bo, 0, none⟩ hbo).trans ho); have hf1 : w1.frozen? ⟨bo, 0, none⟩ = false := (hgrow.frozen_far ⟨bo, 0, none⟩ (by simp; omega) (Ne.symm hne)).trans ((World.frozen?_alloc_old w _ ⟨bo, 0, none⟩ (Nat.ne_of_lt hbo)).trans hof); clear hgrow hown1 hat))
  all_goals
    go_end0
    exact ⟨rfl, HR.out.2, _, _, HR.out.1⟩
end Go.Proofs.YtmplpbdldcokjaaGreatDoor
