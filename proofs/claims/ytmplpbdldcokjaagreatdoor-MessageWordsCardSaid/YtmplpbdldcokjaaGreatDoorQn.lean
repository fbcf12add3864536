/- The walk of message.Decode. -/
import Derived.Test.YtmplpbdldcokjaaGreatDoorQm
import Derived.Deep.CutBlock
import Derived.Deep.DeepCutAuto
import Derived.Deep.CutRange
namespace Go.Proofs.YtmplpbdldcokjaaGreatDoor
open Go Go.RowKit Go.Shelf
set_option linter.unusedSimpArgs false
set_option linter.unusedVariables false

/-- no message -/
abbrev zMsg : Array Value := #[.int .i64 0, .string ⟨#[]⟩, .string ⟨#[]⟩, .slice none 0 0, .int .i64 0, .int .i64 0, .slice none 0 0, .slice none 0 0, .string ⟨#[]⟩]
/-- Decode's blocks: its result, the words' strings, the reader, its pointer, the message -/
structure DS (w0 w : World) (b o : Nat) (l : List (List UInt8)) (bad : Bool) (C : Array Value) : Prop where
  res : w.heap[b]? = some (.cells zMsg 27 (0, 0))
  ws : WS w (b + 2) (b + 1) o l bad
  pt : w.heap[b + 3]? = some (.cells #[.pointer (some ⟨b + 2, 0, none⟩)] 43 (0, 0))
  ms : w.heap[b + 4]? = some (.cells C 27 (0, 0))
  be : Below b w0 w
theorem grown_at {w w' : World} {q k : Nat} {o : Obj} (hg : w.grownBy w' (some q)) (h : w.heap[k]? = some o) (hne : k ≠ q) : w'.heap[k]? = some o := (hg.block k (heap_lt h) (by simpa using hne)).trans h
theorem grown_below {w w' : World} {q b : Nat} (hg : w.grownBy w' (some q)) (hb : b ≤ q) (hw : b ≤ w.heap.size) : Below b w w' := ⟨hg.os, hg.tape, hg.output, hg.size, fun k hk => hg.block k (by omega) (by simp; omega)⟩
theorem DS.size {w0 w : World} {b o : Nat} {l : List (List UInt8)} {bad : Bool} {C : Array Value} (h : DS w0 w b o l bad C) : b + 4 < w.heap.size := heap_lt h.ms
theorem DS.call {w0 w w' : World} {b o o' : Nat} {l l' : List (List UInt8)} {bad bad' : Bool} {C : Array Value} (h : DS w0 w b o l bad C) (hw : WS w' (b + 2) (b + 1) o' l' bad') (hg : w.grownBy w' (some (b + 2))) : DS w0 w' b o' l' bad' C :=
  ⟨grown_at hg h.res (by omega), hw, grown_at hg h.pt (by omega), grown_at hg h.ms (by omega), h.be.trans (grown_below hg (by omega) (by have := h.size; omega))⟩
theorem DS.set {w0 w : World} {b o : Nat} {l : List (List UInt8)} {bad : Bool} {C : Array Value} (h : DS w0 w b o l bad C) (i : Nat) (v : Value) : DS w0 (w.setCell ⟨b + 4, i, none⟩ v) b o l bad (C.setIfInBounds i v) := by
  obtain ⟨h1, h2⟩ := set_row h.ms i v
  exact ⟨grown_at h2 h.res (by omega), h.ws.grown h2 (by omega) (by omega), grown_at h2 h.pt (by omega), h1, h.be.trans (grown_below h2 (by omega) (by have := h.size; omega))⟩
theorem DS.keep {w0 w w' : World} {b o : Nat} {l : List (List UInt8)} {bad : Bool} {C : Array Value} (h : DS w0 w b o l bad C) (hb : Below w.heap.size w w') : DS w0 w' b o l bad C :=
  ⟨(hb.block _ (heap_lt h.res)).trans h.res, h.ws.keep hb, (hb.block _ (heap_lt h.pt)).trans h.pt, (hb.block _ (heap_lt h.ms)).trans h.ms, h.be.trans (hb.mono (by have := h.size; omega))⟩
theorem slv_grown {w w' : World} {b q : Nat} {A : Option Addr} {l : List Tm} (h : SlV TmV 2 w (fun k => b + 4 < k) A l) (hg : w.grownBy w' (some q)) (hq : q ≤ b + 4) : SlV TmV 2 w' (fun k => b + 4 < k) A l :=
  h.keep keeps_tm (fun k hk hl => ⟨hk, hg.block k hl (by simp; omega)⟩) hg.size
/-- a message in the cells of a block -/
def MsC (w : World) (b : Nat) (C : Array Value) (m : Ms) : Prop :=
  ∃ A1 c1 A2 c2, C = #[.int .i64 m.kind, .string (bs m.mat), .string (bs m.role.name), .slice none 0 0, .int .i64 m.sc, .int .i64 m.pc, .slice A1 m.moves.length c1, .slice A2 m.percepts.length c2, .string (bs m.text)] ∧ m.role.args = [] ∧
    SlV TmV 2 w (fun k => b + 4 < k) A1 m.moves ∧ SlV TmV 2 w (fun k => b + 4 < k) A2 m.percepts
/-- what Decode returns -/
def DecP (w : World) (r : Option Ms) (e : Ending) (w' : World) : Prop :=
  Below w.heap.size w w' ∧ match r with
  | none => e = .returned (.tuple #[.agg zMsg, .int .i64 1])
  | some m => ∃ C, MsC w' w.heap.size C m ∧ e = .returned (.tuple #[.agg C, .int .i64 0])

theorem frozen_blk {w : World} {b : Nat} {cs : Array Value} {t : TypeId} (h : w.heap[b]? = some (.cells cs t (0, 0))) (i : Nat) : w.frozen? ⟨b, i, none⟩ = false := by simp [World.frozen?, h]
/-- behind the reading: all is well, and the message is there, or something was wrong -/
def JP (w0 w : World) (b : Nat) (r : Option Ms) : Prop := ∃ o l bad C, DS w0 w b o l bad C ∧ ((bad = true ∧ r = none) ∨ (bad = false ∧ ∃ m, r = some m ∧ MsC w b C m))
theorem head_le {l : List (List UInt8)} (h : ∀ x ∈ l, x.length ≤ 100000) : (l.headD []).length ≤ 1000000 := by
  cases l with
  | nil => simp
  | cons x l => have := h x (by simp); simp; omega
theorem tail_le {l : List (List UInt8)} (h : ∀ x ∈ l, x.length ≤ 100000) : ∀ x ∈ l.tail, x.length ≤ 100000 := fun x hx => h x (List.mem_of_mem_tail hx)
theorem txO_le {l : List (List UInt8)} (h : ∀ x ∈ l, x.length ≤ 100000) {t : List UInt8} (ht : txO l = some t) : t.length ≤ 1000000 := by
  unfold txO at ht
  cases l with
  | nil => cases ht
  | cons x l =>
    have h1 : unT x = some t := ht
    rw [unT_iff] at h1
    have h2 := h x (by simp)
    by_cases hz : t = []
    · subst hz; simp
    · rw [escT_ne hz] at h1
      have := (escA_len t).1
      rw [h1] at this
      omega
theorem words_le : ∀ s : List UInt8, (wordsF s).length ≤ s.length + 1 ∧ ∀ x ∈ wordsF s, x.length ≤ s.length
  | [] => by simp [wordsF]
  | c :: r => by
    have ih := words_le r
    rw [wordsF]
    split
    · refine ⟨by simp; omega, fun x hx => ?_⟩
      rcases List.mem_cons.1 hx with rfl | hx
      · simp
      · have := ih.2 x hx; simp; omega
    · cases hp : wordsF r with
      | nil => exact absurd hp (wordsF_ne _)
      | cons y l =>
        rw [hp] at ih
        refine ⟨by simp [preP] at ih ⊢; omega, fun x hx => ?_⟩
        simp only [preP, List.mem_cons] at hx
        rcases hx with rfl | hx
        · have := ih.2 y (by simp); simp at this ⊢; omega
        · have := ih.2 x (by simp [hx]); simp at this ⊢; omega
theorem listed_jp {w : World} {b : Nat} {k : Int} {l : List (List UInt8)} {A1 A2 : Option Addr} {cp1 cp2 : Nat}
    (h1 : SlV TmV 2 w (fun j => b + 4 < j) A1 ((tmO l.tail).getD [])) (h2 : SlV TmV 2 w (fun j => b + 4 < j) A2 ((tmO l.tail.tail).getD [])) :
    (((((false || l.isEmpty) || (tmO l.tail).isNone) || (tmO l.tail.tail).isNone) = true ∧ listP k l = none) ∨
     ((((false || l.isEmpty) || (tmO l.tail).isNone) || (tmO l.tail.tail).isNone) = false ∧ ∃ m, listP k l = some m ∧ MsC w b ((((zMsg.setIfInBounds 0 (.int .i64 k)).setIfInBounds 1 (.string (bs (l.headD [])))).setIfInBounds 6 (.slice A1 ((tmO l.tail).getD []).length cp1)).setIfInBounds 7 (.slice A2 ((tmO l.tail.tail).getD []).length cp2)) m)) := by
  unfold listP
  cases l with
  | nil => exact .inl ⟨rfl, rfl⟩
  | cons x l =>
    cases e1 : tmO (x :: l).tail with
    | none => exact .inl ⟨by simp, rfl⟩
    | some a =>
      cases e2 : tmO (x :: l).tail.tail with
      | none => exact .inl ⟨by simp, rfl⟩
      | some c =>
        rw [e1] at h1
        rw [e2] at h2
        exact .inr ⟨rfl, _, rfl, A1, cp1, A2, cp2, rfl, rfl, h1, h2⟩

set_option maxHeartbeats 16000000 in
set_option maxRecDepth 100000 in
theorem listed_any (k : Int) (w0 w : World) (b o : Nat) (l : List (List UInt8)) (hb : 9 ≤ b) (h : DS w0 w b o l false zMsg) (hm : Mw w0) (hl : ∀ x ∈ l, x.length ≤ 100000) (h0 : w0.heap.size = b) :
    Calls Tryz.prog 28 #[.int .i64 k, .pointer (some ⟨b + 4, 0, none⟩), .pointer (some ⟨b + 3, 0, none⟩)] w fun e w' => e = .returned (.tuple #[]) ∧ JP w0 w' b (listP k l) := by
  have HD := Lib.hid h
  have HMW := Lib.hid (fun (y : World) (o' : Nat) (l' : List (List UInt8)) (bad' : Bool) (C' : Array Value) (hy : DS w0 y b o' l' bad' C') => hm.below (by rw [h0]; exact hy.be))
  have HL := Lib.hid hl
  clear h hm hl
  go_enter Tryz.func28, Tryz.ntmps28
  have m0 : w.cell? ⟨b + 4, 0, none⟩ = some (.int .i64 0) := (cell_blk HD.out.ms 0).trans rfl
  have f0 : w.frozen? ⟨b + 4, 0, none⟩ = false := frozen_blk HD.out.ms 0
  go_upto_region 1 with fail
  clear m0 f0
  replace HD := Lib.hid (HD.out.set 0 (.int .i64 k))
  generalize w.setCell ⟨b + 4, 0, none⟩ (.int .i64 k) = w11 at *
  have p0 : w11.cell? ⟨b + 3, 0, none⟩ = some (.pointer (some ⟨b + 2, 0, none⟩)) := (cell_blk HD.out.pt 0).trans rfl
  go_wp2_with fail
  have CN := Lib.hid (next_any w11 (b + 2) (b + 1) _ (l) _ HD.out.ws)
  generalize hx1 : bs ((l).headD []) = x1 at CN
  have Hx1 := Lib.hid hx1
  clear hx1
  have p0 : w11.cell? ⟨b + 3, 0, none⟩ = some (.pointer (some ⟨b + 2, 0, none⟩)) := (cell_blk HD.out.pt 0).trans rfl
  go_wp2_with fail
  refine CN.out.mono ?_
  clear CN
  rintro e w20 ⟨rfl, o1, h1, g1⟩
  replace HD := Lib.hid (HD.out.call h1 g1)
  clear h1 g1 p0
  have m0 : w20.cell? ⟨b + 4, 1, none⟩ = some (.string ⟨#[]⟩) := (cell_blk HD.out.ms 1).trans rfl
  have f0 : w20.frozen? ⟨b + 4, 1, none⟩ = false := frozen_blk HD.out.ms 1
  go_upto_region 2 with fail
  clear m0 f0
  replace HD := Lib.hid (HD.out.set 1 (.string x1))
  generalize w20.setCell ⟨b + 4, 1, none⟩ (.string x1) = w12 at *
  have CN := Lib.hid (wterms_any w12 (b + 2) (b + 1) _ (l.tail) _ HD.out.ws (by omega) (HMW.out _ _ _ _ _ HD.out) (head_le (tail_le HL.out)) (fun t ht => txO_le (tail_le HL.out) ht))
  unfold TWP at CN
  generalize hm1 : (tmO (l.tail)).getD [] = m1 at CN
  have Hm1 := Lib.hid hm1
  clear hm1
  have p0 : w12.cell? ⟨b + 3, 0, none⟩ = some (.pointer (some ⟨b + 2, 0, none⟩)) := (cell_blk HD.out.pt 0).trans rfl
  go_wp2_with fail
  refine CN.out.mono ?_
  clear CN
  rintro e w21 ⟨A1, cp1, rfl, hs1, o1, h1, g1⟩
  have HS1 := Lib.hid (hs1.keep keeps_tm (P' := fun j => b + 4 < j) (fun j hj _ => ⟨Nat.lt_of_lt_of_le HD.out.size hj, rfl⟩) (Nat.le_refl _))
  replace HD := Lib.hid (HD.out.call h1 g1)
  clear h1 g1 hs1 p0
  have m0 : w21.cell? ⟨b + 4, 6, none⟩ = some (.slice none 0 0) := (cell_blk HD.out.ms 6).trans rfl
  have f0 : w21.frozen? ⟨b + 4, 6, none⟩ = false := frozen_blk HD.out.ms 6
  go_upto_region 3 with fail
  clear m0 f0
  have hset := (set_row HD.out.ms 6 (.slice A1 m1.length cp1)).2
  replace HS1 := Lib.hid (slv_grown HS1.out hset (by omega))
  clear hset
  replace HD := Lib.hid (HD.out.set 6 (.slice A1 m1.length cp1))
  generalize w21.setCell ⟨b + 4, 6, none⟩ (.slice A1 m1.length cp1) = w13 at *
  have CN := Lib.hid (wterms_any w13 (b + 2) (b + 1) _ (l.tail.tail) _ HD.out.ws (by omega) (HMW.out _ _ _ _ _ HD.out) (head_le (tail_le (tail_le HL.out))) (fun t ht => txO_le (tail_le (tail_le HL.out)) ht))
  unfold TWP at CN
  generalize hm2 : (tmO (l.tail.tail)).getD [] = m2 at CN
  have Hm2 := Lib.hid hm2
  clear hm2
  have p0 : w13.cell? ⟨b + 3, 0, none⟩ = some (.pointer (some ⟨b + 2, 0, none⟩)) := (cell_blk HD.out.pt 0).trans rfl
  go_wp2_with fail
  refine CN.out.mono ?_
  clear CN
  rintro e w23 ⟨A2, cp2, rfl, hs1, o1, h1, g1⟩
  have HS2 := Lib.hid (hs1.keep keeps_tm (P' := fun j => b + 4 < j) (fun j hj _ => ⟨Nat.lt_of_lt_of_le HD.out.size hj, rfl⟩) (Nat.le_refl _))
  replace HS1 := Lib.hid (slv_grown HS1.out g1 (by omega))
  replace HD := Lib.hid (HD.out.call h1 g1)
  clear h1 g1 hs1 p0
  have m0 : w23.cell? ⟨b + 4, 7, none⟩ = some (.slice none 0 0) := (cell_blk HD.out.ms 7).trans rfl
  have f0 : w23.frozen? ⟨b + 4, 7, none⟩ = false := frozen_blk HD.out.ms 7
  go_wp2_with fail
  go_end0
  clear m0 f0
  have hset := (set_row HD.out.ms 7 (.slice A2 m2.length cp2)).2
  replace HS1 := Lib.hid (slv_grown HS1.out hset (by omega))
  replace HS2 := Lib.hid (slv_grown HS2.out hset (by omega))
  clear hset
  replace HD := Lib.hid (HD.out.set 7 (.slice A2 m2.length cp2))
  obtain rfl := Hx1.out
  obtain rfl := Hm1.out
  obtain rfl := Hm2.out
  exact ⟨rfl, _, _, _, _, HD.out, listed_jp HS1.out HS2.out⟩
end Go.Proofs.YtmplpbdldcokjaaGreatDoor
