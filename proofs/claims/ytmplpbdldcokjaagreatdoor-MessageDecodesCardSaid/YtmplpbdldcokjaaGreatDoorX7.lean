/- Merged texts: The walk of message.Decode. The walk of message.Decode. The walk of message.Decode. -/
import Derived.Test.YtmplpbdldcokjaaGreatDoorX6
import Derived.Deep.CutBlock
import Derived.Deep.DeepCutAuto
import Derived.Deep.CutRange
namespace Go.Proofs.YtmplpbdldcokjaaGreatDoor
/- The walk of message.Decode. -/
section
open Go Go.RowKit Go.Shelf
set_option linter.unusedSimpArgs false
set_option linter.unusedVariables false

/-- no message -/
abbrev zMsg : Array Value := #[.int .i64 0, .string ⟨#[]⟩, .string ⟨#[]⟩, .slice none 0 0, .int .i64 0, .int .i64 0, .slice none 0 0, .slice none 0 0, .string ⟨#[]⟩]
/-- Decode's blocks: its result, the words' strings, the reader, its pointer, the message -/
structure DS (w0 w : World) (b o : Nat) (l : List (List UInt8)) (bad : Bool) (C : Array Value) : Prop where
  res : w.heap[b]? = some (.cells zMsg 27 (0, 0))
  ws : WS w (b + 2) (b + 1) o l bad
  pt : w.heap[b + 3]? = some (.cells #[.pointer (some ⟨b + 2, 0, none⟩)] 43 (0, 0))
  ms : w.heap[b + 4]? = some (.cells C 27 (0, 0))
  be : Below b w0 w
theorem grown_at {w w' : World} {q k : Nat} {o : Obj} (hg : w.grownBy w' (some q)) (h : w.heap[k]? = some o) (hne : k ≠ q) : w'.heap[k]? = some o := (hg.block k (heap_lt h) (by simpa using hne)).trans h
theorem grown_below {w w' : World} {q b : Nat} (hg : w.grownBy w' (some q)) (hb : b ≤ q) (hw : b ≤ w.heap.size) : Below b w w' := ⟨hg.os, hg.tape, hg.output, hg.size, fun k hk => hg.block k (by omega) (by simp; omega)⟩
theorem DS.size {w0 w : World} {b o : Nat} {l : List (List UInt8)} {bad : Bool} {C : Array Value} (h : DS w0 w b o l bad C) : b + 4 < w.heap.size := heap_lt h.ms
theorem DS.call {w0 w w' : World} {b o o' : Nat} {l l' : List (List UInt8)} {bad bad' : Bool} {C : Array Value} (h : DS w0 w b o l bad C) (hw : WS w' (b + 2) (b + 1) o' l' bad') (hg : w.grownBy w' (some (b + 2))) : DS w0 w' b o' l' bad' C :=
  ⟨grown_at hg h.res (by omega), hw, grown_at hg h.pt (by omega), grown_at hg h.ms (by omega), h.be.trans (grown_below hg (by omega) (by have := h.size; omega))⟩
theorem DS.set {w0 w : World} {b o : Nat} {l : List (List UInt8)} {bad : Bool} {C : Array Value} (h : DS w0 w b o l bad C) (i : Nat) (v : Value) : DS w0 (w.setCell ⟨b + 4, i, none⟩ v) b o l bad (C.setIfInBounds i v) := by
  obtain ⟨h1, h2⟩ := set_row h.ms i v
  exact ⟨grown_at h2 h.res (by omega), h.ws.grown h2 (by omega) (by omega), grown_at h2 h.pt (by omega), h1, h.be.trans (grown_below h2 (by omega) (by have := h.size; omega))⟩
theorem DS.keep {w0 w w' : World} {b o : Nat} {l : List (List UInt8)} {bad : Bool} {C : Array Value} (h : DS w0 w b o l bad C) (hb : Below w.heap.size w w') : DS w0 w' b o l bad C :=
  ⟨(hb.block _ (heap_lt h.res)).trans h.res, h.ws.keep hb, (hb.block _ (heap_lt h.pt)).trans h.pt, (hb.block _ (heap_lt h.ms)).trans h.ms, h.be.trans (hb.mono (by have := h.size; omega))⟩
theorem slv_grown {w w' : World} {b q : Nat} {A : Option Addr} {l : List Tm} (h : SlV TmV 2 w (fun k => b + 4 < k) A l) (hg : w.grownBy w' (some q)) (hq : q ≤ b + 4) : SlV TmV 2 w' (fun k => b + 4 < k) A l :=
  h.keep keeps_tm (fun k hk hl => ⟨hk, hg.block k hl (by simp; omega)⟩) hg.size
/-- a message in the cells of a block -/
def MsC (w : World) (b : Nat) (C : Array Value) (m : Ms) : Prop :=
  ∃ A1 c1 A2 c2, C = #[.int .i64 m.kind, .string (bs m.mat), .string (bs m.role.name), .slice none 0 0, .int .i64 m.sc, .int .i64 m.pc, .slice A1 m.moves.length c1, .slice A2 m.percepts.length c2, .string (bs m.text)] ∧ m.role.args = [] ∧
    SlV TmV 2 w (fun k => b + 4 < k) A1 m.moves ∧ SlV TmV 2 w (fun k => b + 4 < k) A2 m.percepts
/-- what Decode returns -/
def DecP (w : World) (r : Option Ms) (e : Ending) (w' : World) : Prop :=
  Below w.heap.size w w' ∧ match r with
  | none => e = .returned (.tuple #[.agg zMsg, .int .i64 1])
  | some m => ∃ C, MsC w' w.heap.size C m ∧ e = .returned (.tuple #[.agg C, .int .i64 0])

theorem frozen_blk {w : World} {b : Nat} {cs : Array Value} {t : TypeId} (h : w.heap[b]? = some (.cells cs t (0, 0))) (i : Nat) : w.frozen? ⟨b, i, none⟩ = false := by simp [World.frozen?, h]
/-- behind the reading: all is well, and the message is there, or something was wrong -/
def JP (w0 w : World) (b : Nat) (r : Option Ms) : Prop := ∃ o l bad C, DS w0 w b o l bad C ∧ ((bad = true ∧ r = none) ∨ (bad = false ∧ ∃ m, r = some m ∧ MsC w b C m))
theorem head_le {l : List (List UInt8)} (h : ∀ x ∈ l, x.length ≤ 5000000) : (l.headD []).length ≤ 10000000 := by
  cases l with
  | nil => simp
  | cons x l => have := h x (by simp); simp; omega
theorem tail_le {l : List (List UInt8)} (h : ∀ x ∈ l, x.length ≤ 5000000) : ∀ x ∈ l.tail, x.length ≤ 5000000 := fun x hx => h x (List.mem_of_mem_tail hx)
theorem txO_le {l : List (List UInt8)} (h : ∀ x ∈ l, x.length ≤ 5000000) {t : List UInt8} (ht : txO l = some t) : t.length ≤ 10000000 := by
  unfold txO at ht
  cases l with
  | nil => cases ht
  | cons x l =>
    have h1 : unT x = some t := ht
    rw [unT_iff] at h1
    have h2 := h x (by simp)
    by_cases hz : t = []
    · subst hz; simp
    · rw [escT_ne hz] at h1
      have := (escA_len t).1
      rw [h1] at this
      omega
theorem words_le : ∀ s : List UInt8, (wordsF s).length ≤ s.length + 1 ∧ ∀ x ∈ wordsF s, x.length ≤ s.length
  | [] => by simp [wordsF]
  | c :: r => by
    have ih := words_le r
    rw [wordsF]
    split
    · refine ⟨by simp; omega, fun x hx => ?_⟩
      rcases List.mem_cons.1 hx with rfl | hx
      · simp
      · have := ih.2 x hx; simp; omega
    · cases hp : wordsF r with
      | nil => exact absurd hp (wordsF_ne _)
      | cons y l =>
        rw [hp] at ih
        refine ⟨by simp [preP] at ih ⊢; omega, fun x hx => ?_⟩
        simp only [preP, List.mem_cons] at hx
        rcases hx with rfl | hx
        · have := ih.2 y (by simp); simp at this ⊢; omega
        · have := ih.2 x (by simp [hx]); simp at this ⊢; omega
theorem listed_jp {w : World} {b : Nat} {k : Int} {l : List (List UInt8)} {A1 A2 : Option Addr} {cp1 cp2 : Nat}
    (h1 : SlV TmV 2 w (fun j => b + 4 < j) A1 ((tmO l.tail).getD [])) (h2 : SlV TmV 2 w (fun j => b + 4 < j) A2 ((tmO l.tail.tail).getD [])) :
    (((((false || l.isEmpty) || (tmO l.tail).isNone) || (tmO l.tail.tail).isNone) = true ∧ listP k l = none) ∨
     ((((false || l.isEmpty) || (tmO l.tail).isNone) || (tmO l.tail.tail).isNone) = false ∧ ∃ m, listP k l = some m ∧ MsC w b ((((zMsg.setIfInBounds 0 (.int .i64 k)).setIfInBounds 1 (.string (bs (l.headD [])))).setIfInBounds 6 (.slice A1 ((tmO l.tail).getD []).length cp1)).setIfInBounds 7 (.slice A2 ((tmO l.tail.tail).getD []).length cp2)) m)) := by
  unfold listP
  cases l with
  | nil => exact .inl ⟨rfl, rfl⟩
  | cons x l =>
    cases e1 : tmO (x :: l).tail with
    | none => exact .inl ⟨by simp, rfl⟩
    | some a =>
      cases e2 : tmO (x :: l).tail.tail with
      | none => exact .inl ⟨by simp, rfl⟩
      | some c =>
        rw [e1] at h1
        rw [e2] at h2
        exact .inr ⟨rfl, _, rfl, A1, cp1, A2, cp2, rfl, rfl, h1, h2⟩

set_option maxHeartbeats 16000000 in
set_option maxRecDepth 100000 in
theorem listed_any (k : Int) (w0 w : World) (b o : Nat) (l : List (List UInt8)) (hb : 9 ≤ b) (h : DS w0 w b o l false zMsg) (hm : Mw w0) (hl : ∀ x ∈ l, x.length ≤ 5000000) (h0 : w0.heap.size = b) :
    Calls Tryz.prog 28 #[.int .i64 k, .pointer (some ⟨b + 4, 0, none⟩), .pointer (some ⟨b + 3, 0, none⟩)] w fun e w' => e = .returned (.tuple #[]) ∧ JP w0 w' b (listP k l) := by
  have HD := Lib.hid h
  have HMW := Lib.hid (fun (y : World) (o' : Nat) (l' : List (List UInt8)) (bad' : Bool) (C' : Array Value) (hy : DS w0 y b o' l' bad' C') => hm.below (by rw [h0]; exact hy.be))
  have HL := Lib.hid hl
  clear h hm hl
  go_enter Tryz.func28, Tryz.ntmps28
  have m0 : w.cell? ⟨b + 4, 0, none⟩ = some (.int .i64 0) := (cell_blk HD.out.ms 0).trans rfl
  have f0 : w.frozen? ⟨b + 4, 0, none⟩ = false := frozen_blk HD.out.ms 0
  go_upto_region 1 with fail
  clear m0 f0
  replace HD := Lib.hid (HD.out.set 0 (.int .i64 k))
  generalize w.setCell ⟨b + 4, 0, none⟩ (.int .i64 k) = w11 at *
  have p0 : w11.cell? ⟨b + 3, 0, none⟩ = some (.pointer (some ⟨b + 2, 0, none⟩)) := (cell_blk HD.out.pt 0).trans rfl
  go_wp2_with fail
  have CN := Lib.hid (next_any w11 (b + 2) (b + 1) _ (l) _ HD.out.ws)
  generalize hx1 : bs ((l).headD []) = x1 at CN
  have Hx1 := Lib.hid hx1
  clear hx1
  have p0 : w11.cell? ⟨b + 3, 0, none⟩ = some (.pointer (some ⟨b + 2, 0, none⟩)) := (cell_blk HD.out.pt 0).trans rfl
  go_wp2_with fail
  refine CN.out.mono ?_
  clear CN
  rintro e w20 ⟨rfl, o1, h1, g1⟩
  replace HD := Lib.hid (HD.out.call h1 g1)
  clear h1 g1 p0
  have m0 : w20.cell? ⟨b + 4, 1, none⟩ = some (.string ⟨#[]⟩) := (cell_blk HD.out.ms 1).trans rfl
  have f0 : w20.frozen? ⟨b + 4, 1, none⟩ = false := frozen_blk HD.out.ms 1
  go_upto_region 2 with fail
  clear m0 f0
  replace HD := Lib.hid (HD.out.set 1 (.string x1))
  generalize w20.setCell ⟨b + 4, 1, none⟩ (.string x1) = w12 at *
  have CN := Lib.hid (wterms_any w12 (b + 2) (b + 1) _ (l.tail) _ HD.out.ws (by omega) (HMW.out _ _ _ _ _ HD.out) (head_le (tail_le HL.out)) (fun t ht => txO_le (tail_le HL.out) ht))
  unfold TWP at CN
  generalize hm1 : (tmO (l.tail)).getD [] = m1 at CN
  have Hm1 := Lib.hid hm1
  clear hm1
  have p0 : w12.cell? ⟨b + 3, 0, none⟩ = some (.pointer (some ⟨b + 2, 0, none⟩)) := (cell_blk HD.out.pt 0).trans rfl
  go_wp2_with fail
  refine CN.out.mono ?_
  clear CN
  rintro e w21 ⟨A1, cp1, rfl, hs1, o1, h1, g1⟩
  have HS1 := Lib.hid (hs1.keep keeps_tm (P' := fun j => b + 4 < j) (fun j hj _ => ⟨Nat.lt_of_lt_of_le HD.out.size hj, rfl⟩) (Nat.le_refl _))
  replace HD := Lib.hid (HD.out.call h1 g1)
  clear h1 g1 hs1 p0
  have m0 : w21.cell? ⟨b + 4, 6, none⟩ = some (.slice none 0 0) := (cell_blk HD.out.ms 6).trans rfl
  have f0 : w21.frozen? ⟨b + 4, 6, none⟩ = false := frozen_blk HD.out.ms 6
  go_upto_region 3 with fail
  clear m0 f0
  have hset := (set_row HD.out.ms 6 (.slice A1 m1.length cp1)).2
  replace HS1 := Lib.hid (slv_grown HS1.out hset (by omega))
  clear hset
  replace HD := Lib.hid (HD.out.set 6 (.slice A1 m1.length cp1))
  generalize w21.setCell ⟨b + 4, 6, none⟩ (.slice A1 m1.length cp1) = w13 at *
  have CN := Lib.hid (wterms_any w13 (b + 2) (b + 1) _ (l.tail.tail) _ HD.out.ws (by omega) (HMW.out _ _ _ _ _ HD.out) (head_le (tail_le (tail_le HL.out))) (fun t ht => txO_le (tail_le (tail_le HL.out)) ht))
  unfold TWP at CN
  generalize hm2 : (tmO (l.tail.tail)).getD [] = m2 at CN
  have Hm2 := Lib.hid hm2
  clear hm2
  have p0 : w13.cell? ⟨b + 3, 0, none⟩ = some (.pointer (some ⟨b + 2, 0, none⟩)) := (cell_blk HD.out.pt 0).trans rfl
  go_wp2_with fail
  refine CN.out.mono ?_
  clear CN
  rintro e w23 ⟨A2, cp2, rfl, hs1, o1, h1, g1⟩
  have HS2 := Lib.hid (hs1.keep keeps_tm (P' := fun j => b + 4 < j) (fun j hj _ => ⟨Nat.lt_of_lt_of_le HD.out.size hj, rfl⟩) (Nat.le_refl _))
  replace HS1 := Lib.hid (slv_grown HS1.out g1 (by omega))
  replace HD := Lib.hid (HD.out.call h1 g1)
  clear h1 g1 hs1 p0
  have m0 : w23.cell? ⟨b + 4, 7, none⟩ = some (.slice none 0 0) := (cell_blk HD.out.ms 7).trans rfl
  have f0 : w23.frozen? ⟨b + 4, 7, none⟩ = false := frozen_blk HD.out.ms 7
  go_wp2_with fail
  go_end0
  clear m0 f0
  have hset := (set_row HD.out.ms 7 (.slice A2 m2.length cp2)).2
  replace HS1 := Lib.hid (slv_grown HS1.out hset (by omega))
  replace HS2 := Lib.hid (slv_grown HS2.out hset (by omega))
  clear hset
  replace HD := Lib.hid (HD.out.set 7 (.slice A2 m2.length cp2))
  obtain rfl := Hx1.out
  obtain rfl := Hm1.out
  obtain rfl := Hm2.out
  exact ⟨rfl, _, _, _, _, HD.out, listed_jp HS1.out HS2.out⟩

end
/- The walk of message.Decode. -/
section
open Go Go.RowKit Go.Shelf
set_option linter.unusedSimpArgs false
set_option linter.unusedVariables false

theorem allO_mem : ∀ {ps : List (List UInt8)} {ts : List Tm}, allO ps = some ts → ∀ t ∈ ts, ∃ x ∈ ps, termO x = some t
  | [], ts, h, t, ht => by injection h with h; subst h; cases ht
  | x :: ps, ts, h, t, ht => by
    rw [allO] at h
    split at h
    · rename_i u l hu hl
      injection h with h
      subst h
      rcases List.mem_cons.1 ht with rfl | ht
      · exact ⟨x, by simp, hu⟩
      · obtain ⟨y, hy, hy2⟩ := allO_mem hl t ht
        exact ⟨y, by simp [hy], hy2⟩
    · cases h
theorem termO_valid {x : List UInt8} {t : Tm} (h : termO x = some t) : validT true 4 t = true := by
  unfold termO at h
  cases hr : termRF x with
  | ok u => rw [hr] at h; injection h with h; subst h; exact termRF_valid hr
  | err p k => rw [hr] at h; cases h
theorem tmO_fine {l : List (List UInt8)} {ts : List Tm} (h : tmO l = some ts) (hl : ∀ x ∈ l, x.length ≤ 4000) : ts.length ≤ 5000 ∧ ∀ t ∈ ts, validT true 4 t = true := by
  cases l with
  | nil => cases h
  | cons x l =>
    have h1 : (unT x).bind itemsF = some ts := h
    obtain ⟨t, hu, hi⟩ := Option.bind_eq_some_iff.1 h1
    have hx := hl x (by simp)
    rw [unT_iff] at hu
    have htl : t.length ≤ 4000 := by
      by_cases hz : t = []
      · subst hz; simp
      · rw [escT_ne hz] at hu
        have := (escA_len t).1
        rw [hu] at this
        omega
    unfold itemsF at hi
    split at hi
    · injection hi with hi; subst hi; simp
    · have h2 := allO_len hi
      have h3 := (pieces_le t).1
      refine ⟨by omega, fun u hu => ?_⟩
      obtain ⟨y, _, hy⟩ := allO_mem hi u hu
      exact termO_valid hy
/-- what is known of a message that was read -/
structure Fine (m : Ms) : Prop where
  args : m.role.args = []
  n1 : m.moves.length ≤ 5000
  n2 : m.percepts.length ≤ 5000
  v1 : ∀ t ∈ m.moves, validT true 4 t = true
  v2 : ∀ t ∈ m.percepts, validT true 4 t = true
  mat : m.mat.length ≤ 5000000
  role : m.role.name.length ≤ 5000000
  text : m.text.length ≤ 5000000
theorem hd_le {l : List (List UInt8)} (h : ∀ x ∈ l, x.length ≤ 4000) {a : List UInt8} (ha : l.head? = some a) : a.length ≤ 5000000 := by
  cases l with
  | nil => cases ha
  | cons x l => injection ha with ha; subst ha; have := h x (by simp); omega
theorem tail4 {l : List (List UInt8)} (h : ∀ x ∈ l, x.length ≤ 4000) : ∀ x ∈ l.tail, x.length ≤ 4000 := fun x hx => h x (List.mem_of_mem_tail hx)
theorem tx_le4 {l : List (List UInt8)} (h : ∀ x ∈ l, x.length ≤ 4000) {t : List UInt8} (ht : txO l = some t) : t.length ≤ 5000000 := by
  unfold txO at ht
  cases l with
  | nil => cases ht
  | cons x l =>
    have h1 : unT x = some t := ht
    rw [unT_iff] at h1
    have h2 := h x (by simp)
    by_cases hz : t = []
    · subst hz; simp
    · rw [escT_ne hz] at h1
      have := (escA_len t).1
      rw [h1] at this
      omega
theorem list_fine {k : Int} {l : List (List UInt8)} {m : Ms} (hl : ∀ x ∈ l, x.length ≤ 4000) (h : listP k l = some m) : Fine m := by
  unfold listP at h
  split at h
  · rename_i a x y h1 h2 h3
    injection h with h
    subst h
    obtain ⟨a1, a2⟩ := tmO_fine h2 (tail4 hl)
    obtain ⟨b1, b2⟩ := tmO_fine h3 (tail4 (tail4 hl))
    exact ⟨rfl, a1, b1, a2, b2, hd_le hl h1, by simp [Tm.name], by simp⟩
  · cases h
theorem read_fine {k : List UInt8} {l : List (List UInt8)} {m : Ms} (hl : ∀ x ∈ l, x.length ≤ 4000) (h : readP k l = some m) : Fine m := by
  unfold readP at h
  split at h
  · split at h
    · rename_i a b c d t h1 h2 h3 h4 h5
      injection h with h
      subst h
      exact ⟨rfl, by simp, by simp, by simp, by simp, hd_le hl h1, hd_le (tail4 hl) h2, tx_le4 (tail4 (tail4 (tail4 (tail4 hl)))) h5⟩
    · cases h
  split at h
  · exact list_fine hl h
  split at h
  · exact list_fine hl h
  split at h
  · obtain ⟨a, ha, rfl⟩ := Option.map_eq_some_iff.1 h
    exact ⟨rfl, by simp, by simp, by simp, by simp, hd_le hl ha, by simp [Tm.name], by simp⟩
  split at h
  · injection h with h; subst h
    exact ⟨rfl, by simp, by simp, by simp, by simp, by simp, by simp [Tm.name], by simp⟩
  split at h
  · obtain ⟨a, ha, rfl⟩ := Option.map_eq_some_iff.1 h
    obtain ⟨a1, a2⟩ := tmO_fine ha hl
    exact ⟨rfl, a1, by simp, a2, by simp, by simp, by simp [Tm.name], by simp⟩
  split at h
  · injection h with h; subst h
    exact ⟨rfl, by simp, by simp, by simp, by simp, by simp, by simp [Tm.name], by simp⟩
  injection h with h; subst h
  exact ⟨rfl, by simp [ms0], by simp [ms0], by simp [ms0], by simp [ms0], by simp [ms0], by simp [ms0, Tm.name], by simp [ms0]⟩
theorem tmb_of4 {v : Bool} {t : Tm} (h : validT v 4 t = true) : TmB t := tmb_w _ _ (valid_w 4 t h) (by decide)

theorem start_jp {w : World} {b : Nat} {l : List (List UInt8)} {n1 n2 : Int} (h1 : ∀ v, numO l.tail.tail = some v → n1 = v) (h2 : ∀ v, numO l.tail.tail.tail = some v → n2 = v) :
    ((((((false || l.isEmpty) || l.tail.isEmpty) || (numO l.tail.tail).isNone) || (numO l.tail.tail.tail).isNone) || (txO l.tail.tail.tail.tail).isNone) = true ∧ readP wStart l = none) ∨
     ((((((false || l.isEmpty) || l.tail.isEmpty) || (numO l.tail.tail).isNone) || (numO l.tail.tail.tail).isNone) || (txO l.tail.tail.tail.tail).isNone) = false ∧ ∃ m, readP wStart l = some m ∧ MsC w b ((((((zMsg.setIfInBounds 0 (.int .i64 1)).setIfInBounds 1 (.string (bs (l.headD [])))).setIfInBounds 2 (.string (bs (l.tail.headD [])))).setIfInBounds 4 (.int .i64 n1)).setIfInBounds 5 (.int .i64 n2)).setIfInBounds 8 (.string (bs ((txO l.tail.tail.tail.tail).getD [])))) m) := by
  unfold readP
  rw [if_pos rfl]
  cases l with
  | nil => exact .inl ⟨rfl, rfl⟩
  | cons x l =>
    cases l with
    | nil => exact .inl ⟨rfl, rfl⟩
    | cons y l =>
      cases e1 : numO (x :: y :: l).tail.tail with
      | none => exact .inl ⟨by simp, rfl⟩
      | some a =>
        cases e2 : numO (x :: y :: l).tail.tail.tail with
        | none => exact .inl ⟨by simp, rfl⟩
        | some c =>
          cases e3 : txO (x :: y :: l).tail.tail.tail.tail with
          | none => exact .inl ⟨by simp, rfl⟩
          | some t =>
            rw [h1 a e1, h2 c e2]
            exact .inr ⟨rfl, _, rfl, none, 0, none, 0, rfl, rfl, slv_none _ _, slv_none _ _⟩
theorem abort_jp {w : World} {b : Nat} {l : List (List UInt8)} :
    ((false || l.isEmpty) = true ∧ readP wAbort l = none) ∨ ((false || l.isEmpty) = false ∧ ∃ m, readP wAbort l = some m ∧ MsC w b ((zMsg.setIfInBounds 0 (.int .i64 4)).setIfInBounds 1 (.string (bs (l.headD [])))) m) := by
  unfold readP
  rw [if_neg (by decide), if_neg (by decide), if_neg (by decide), if_pos rfl]
  cases l with
  | nil => exact .inl ⟨rfl, rfl⟩
  | cons x l => exact .inr ⟨rfl, _, rfl, none, 0, none, 0, rfl, rfl, slv_none _ _, slv_none _ _⟩
theorem move_jp {w : World} {b : Nat} {l : List (List UInt8)} {A : Option Addr} {cp : Nat} (h1 : SlV TmV 2 w (fun j => b + 4 < j) A ((tmO l).getD [])) :
    ((false || (tmO l).isNone) = true ∧ readP wMove l = none) ∨ ((false || (tmO l).isNone) = false ∧ ∃ m, readP wMove l = some m ∧ MsC w b ((zMsg.setIfInBounds 0 (.int .i64 6)).setIfInBounds 6 (.slice A ((tmO l).getD []).length cp)) m) := by
  unfold readP
  rw [if_neg (by decide), if_neg (by decide), if_neg (by decide), if_neg (by decide), if_neg (by decide), if_pos rfl]
  cases e1 : tmO l with
  | none => exact .inl ⟨rfl, rfl⟩
  | some a =>
    rw [e1] at h1
    exact .inr ⟨rfl, _, rfl, A, cp, none, 0, rfl, rfl, h1, slv_none _ _⟩
theorem ready_jp {w : World} {b : Nat} {l : List (List UInt8)} : ∃ m, readP wReady l = some m ∧ MsC w b (zMsg.setIfInBounds 0 (.int .i64 5)) m := by
  unfold readP
  rw [if_neg (by decide), if_neg (by decide), if_neg (by decide), if_neg (by decide), if_pos rfl]
  exact ⟨_, rfl, none, 0, none, 0, rfl, rfl, slv_none _ _, slv_none _ _⟩
theorem done_jp {w : World} {b : Nat} {l : List (List UInt8)} : ∃ m, readP wDone l = some m ∧ MsC w b (zMsg.setIfInBounds 0 (.int .i64 7)) m := by
  unfold readP
  rw [if_neg (by decide), if_neg (by decide), if_neg (by decide), if_neg (by decide), if_neg (by decide), if_neg (by decide), if_pos rfl]
  exact ⟨_, rfl, none, 0, none, 0, rfl, rfl, slv_none _ _, slv_none _ _⟩
theorem other_jp {w : World} {b : Nat} {k : List UInt8} {l : List (List UInt8)} (h1 : k ≠ wStart) (h2 : k ≠ wPlay) (h3 : k ≠ wStop) (h4 : k ≠ wAbort) (h5 : k ≠ wReady) (h6 : k ≠ wMove) (h7 : k ≠ wDone) : ∃ m, readP k l = some m ∧ MsC w b zMsg m := by
  unfold readP
  rw [if_neg h1, if_neg h2, if_neg h3, if_neg h4, if_neg h5, if_neg h6, if_neg h7]
  exact ⟨_, rfl, none, 0, none, 0, rfl, rfl, slv_none _ _, slv_none _ _⟩
theorem ds_start (w : World) (s : List UInt8) (hs : s.length ≤ 5000000) {w2 : World} (h2 : w2 = (w.alloc (.cells zMsg 27)).alloc (.cells ((wordsF s).map fun x => Value.string (bs x)).toArray 9)) :
    w2.heap.size = w.heap.size + 2 ∧ DS w (((w2.alloc (.cells #[.slice (some ⟨w.heap.size + 1, 0, none⟩) (wordsF s).length (wordsF s).length, .bool false] 47)).alloc (.cells #[.pointer (some ⟨w.heap.size + 2, 0, none⟩)] 43)).alloc (.cells zMsg 27)) w.heap.size 0 (wordsF s) false zMsg := by
  have hsz : w2.heap.size = w.heap.size + 2 := by rw [h2]; simp
  refine ⟨hsz, ?_⟩
  have b1 := one_box w (.cells zMsg 27)
  have hs1 : (w.alloc (.cells zMsg 27)).heap.size = w.heap.size + 1 := by simp
  have b2 := one_box (w.alloc (.cells zMsg 27)) (.cells ((wordsF s).map fun x => Value.string (bs x)).toArray 9)
  rw [← h2, hs1] at b2
  have b3 := one_box w2 (.cells #[.slice (some ⟨w.heap.size + 1, 0, none⟩) (wordsF s).length (wordsF s).length, .bool false] 47)
  rw [hsz] at b3
  have hs3 : (w2.alloc (.cells #[.slice (some ⟨w.heap.size + 1, 0, none⟩) (wordsF s).length (wordsF s).length, .bool false] 47)).heap.size = w.heap.size + 3 := by simp; omega
  generalize w2.alloc (.cells #[.slice (some ⟨w.heap.size + 1, 0, none⟩) (wordsF s).length (wordsF s).length, .bool false] 47) = w3 at *
  have b4 := one_box w3 (.cells #[.pointer (some ⟨w.heap.size + 2, 0, none⟩)] 43)
  rw [hs3] at b4
  have hs4 : (w3.alloc (.cells #[.pointer (some ⟨w.heap.size + 2, 0, none⟩)] 43)).heap.size = w.heap.size + 4 := by simp; omega
  generalize w3.alloc (.cells #[.pointer (some ⟨w.heap.size + 2, 0, none⟩)] 43) = w4 at *
  have b5 := one_box w4 (.cells zMsg 27)
  rw [hs4] at b5
  generalize w4.alloc (.cells zMsg 27) = w5 at *
  have c2 := b2.1
  have c3 := b3.1
  have c4 := b4.1
  have c5 := b5.1
  have d35 : Below (w.heap.size + 3) w3 w5 := c4.trans (c5.mono (by omega))
  have d25 : Below (w.heap.size + 2) w2 w5 := c3.trans (d35.mono (by omega))
  have d15 : Below (w.heap.size + 1) (w.alloc (.cells zMsg 27)) w5 := c2.trans (d25.mono (by omega))
  have d05 : Below w.heap.size w w5 := b1.1.trans (d15.mono (by omega))
  have hstr : w5.heap[w.heap.size + 1]? = some (.cells ((wordsF s).map fun x => Value.string (bs x)).toArray 9 (0, 0)) := (d25.block _ (by omega)).trans b2.2
  have hwl := words_le s
  refine ⟨(d15.block _ (by omega)).trans b1.2, ⟨(d35.block _ (by omega)).trans b3.2, fun i x hx => ?_, by omega, heap_lt hstr, by omega⟩, (c5.block _ (by omega)).trans b4.2, b5.2, d05⟩
  rw [Nat.zero_add, cell_blk hstr i]
  simp [hx]

end
/- The walk of message.Decode. -/
section
open Go Go.RowKit Go.Shelf
set_option linter.unusedSimpArgs false
set_option linter.unusedVariables false

set_option maxHeartbeats 4000000 in
theorem set_nine {w : World} {b : Nat} {T : TypeId} (h : w.heap[b]? = some (.cells zMsg T (0, 0))) (v0 v1 v2 v3 v4 v5 v6 v7 v8 : Value) :
    (((((((((w.setCell ⟨b, 0, none⟩ v0).setCell ⟨b, 1, none⟩ v1).setCell ⟨b, 2, none⟩ v2).setCell ⟨b, 3, none⟩ v3).setCell ⟨b, 4, none⟩ v4).setCell ⟨b, 5, none⟩ v5).setCell ⟨b, 6, none⟩ v6).setCell ⟨b, 7, none⟩ v7).setCell ⟨b, 8, none⟩ v8).heap[b]? = some (.cells #[v0, v1, v2, v3, v4, v5, v6, v7, v8] T (0, 0)) ∧
    w.grownBy (((((((((w.setCell ⟨b, 0, none⟩ v0).setCell ⟨b, 1, none⟩ v1).setCell ⟨b, 2, none⟩ v2).setCell ⟨b, 3, none⟩ v3).setCell ⟨b, 4, none⟩ v4).setCell ⟨b, 5, none⟩ v5).setCell ⟨b, 6, none⟩ v6).setCell ⟨b, 7, none⟩ v7).setCell ⟨b, 8, none⟩ v8) (some b) := by
  obtain ⟨a0, b0⟩ := set_row h 0 v0
  obtain ⟨a1, b1⟩ := set_row a0 1 v1
  obtain ⟨a2, b2⟩ := set_row a1 2 v2
  obtain ⟨a3, b3⟩ := set_row a2 3 v3
  obtain ⟨a4, b4⟩ := set_row a3 4 v4
  obtain ⟨a5, b5⟩ := set_row a4 5 v5
  obtain ⟨a6, b6⟩ := set_row a5 6 v6
  obtain ⟨a7, b7⟩ := set_row a6 7 v7
  obtain ⟨a8, b8⟩ := set_row a7 8 v8
  have e : ((((((((zMsg.setIfInBounds 0 v0).setIfInBounds 1 v1).setIfInBounds 2 v2).setIfInBounds 3 v3).setIfInBounds 4 v4).setIfInBounds 5 v5).setIfInBounds 6 v6).setIfInBounds 7 v7).setIfInBounds 8 v8 = #[v0, v1, v2, v3, v4, v5, v6, v7, v8] := by simp
  rw [e] at a8
  have c1 := grown_trans b0 b1
  have c2 := grown_trans c1 b2
  have c3 := grown_trans c2 b3
  have c4 := grown_trans c3 b4
  have c5 := grown_trans c4 b5
  have c6 := grown_trans c5 b6
  have c7 := grown_trans c6 b7
  exact ⟨a8, grown_trans c7 b8⟩
set_option maxHeartbeats 32000000 in
set_option maxRecDepth 100000 in
theorem decode_gen (w : World) (s : List UInt8) (hs : s.length ≤ 5000000) (hfine : ∀ m, readP ((wordsF s).headD []) (wordsF s).tail = some m → Fine m) (hm : Mw w) : Calls Tryz.prog 11 #[.string (bs s)] w (DecP w (decP s)) := by
  have HB1 := Lib.hid (one_box w (.cells zMsg 27))
  have hmf : ∀ (fn : Fn) (first cap : Array Value) (w : World), (Instr.makeFunc fn first cap).run Tryz.prog w = .ok (.func fn first cap) w := fun _ _ _ _ => rfl
  have CS := Lib.hid (split_any (w.alloc (.cells zMsg 27)) s [32] (by simp) (by omega) (hm.below HB1.out.1) (wordsF s) (split_words s))
  rw [show bs [32] = ⟨#[32]⟩ from rfl] at CS
  have HSZ : Hid ((w.alloc (.cells zMsg 27)).heap.size = w.heap.size + 1) := by simp [Hid]
  have HL : Hid ((∀ m, readP ((wordsF s).headD []) (wordsF s).tail = some m → Fine m) ∧ ∀ x ∈ (wordsF s).tail, x.length ≤ 5000000) := by
    have h := (words_le s).2
    exact ⟨hfine, fun x hx => by have := h x (List.mem_of_mem_tail hx); omega⟩
  have HMW := Lib.hid (fun (y : World) (o' : Nat) (l' : List (List UInt8)) (bad' : Bool) (C' : Array Value) (hy : DS w y w.heap.size o' l' bad' C') => hm.below hy.be)
  have hsz9 : 9 ≤ w.heap.size := hm.sz
  have HMM := Lib.hid hm
  have HNE : Hid ((wordsF s).isEmpty = false) := by
    have := wordsF_ne s
    cases h : wordsF s with
    | nil => exact absurd h this
    | cons a r => rfl
  have HDS := Lib.hid (fun (w2 : World) (h2 : w2 = (w.alloc (.cells zMsg 27)).alloc (.cells ((wordsF s).map fun x => Value.string (bs x)).toArray 9)) => ds_start w s hs h2)
  have HDP : Hid (decP s = (readP ((wordsF s).headD []) (wordsF s).tail).bind (closeF s)) := rfl
  clear hm hs hfine
  go_enter Tryz.func11, Tryz.ntmps11
  go_wp2_with fail
  refine CS.out.mono ?_
  rintro e w2 ⟨rfl, hw2⟩
  clear CS
  obtain ⟨hz2, hd⟩ := HDS.out w2 hw2
  have HD := Lib.hid hd
  clear hd hw2 HDS
  rw [HSZ.out]
  generalize hn : (wordsF s).length = nw at *
  clear hn
  go_upto_region 4 with fail
  simp only [Nat.add_assoc, Nat.reduceAdd]
  generalize ((w2.alloc (.cells #[.slice (some ⟨w.heap.size + 1, 0, none⟩) nw nw, .bool false] 47)).alloc (.cells #[.pointer (some ⟨w.heap.size + 2, 0, none⟩)] 43)).alloc (.cells zMsg 27) = w3 at *
  clear hz2
  have CN := Lib.hid (next_any w3 (w.heap.size + 2) (w.heap.size + 1) _ (wordsF s) _ HD.out.ws)
  generalize hx0 : bs ((wordsF s).headD []) = x0 at CN
  have Hx0 := Lib.hid hx0
  clear hx0
  have p0 : w3.cell? ⟨w.heap.size + 3, 0, none⟩ = some (.pointer (some ⟨w.heap.size + 2, 0, none⟩)) := (cell_blk HD.out.pt 0).trans rfl
  go_wp2_with fail
  refine CN.out.mono ?_
  clear CN
  rintro e w4 ⟨rfl, o1, h1, g1⟩
  replace HD := Lib.hid (HD.out.call h1 g1)
  clear h1 g1 p0
  rw [HNE.out] at HD
  have hx0 : x0.toList = (wordsF s).headD [] := by rw [← Hx0.out, ByteArray.toList_eq, toList_bs]
  generalize (wordsF s).headD [] = kk at *
  generalize (wordsF s).tail = l at *
  have HX0 := Lib.hid hx0
  clear hx0
  go_upto_block 0 with fail
  go_cut [] from 16 to 60 (fun wx => JP w wx w.heap.size (readP kk l))
  case first =>
    by_cases h0 : kk = wStart
    focus
      subst h0
      have e0 : (x0.toList == [115, 116, 97, 114, 116]) = true := by rw [HX0.out]; rfl
      have m0 : w4.cell? ⟨w.heap.size + 4, 0, none⟩ = some (.int .i64 0) := (cell_blk HD.out.ms 0).trans rfl
      have f0 : w4.frozen? ⟨w.heap.size + 4, 0, none⟩ = false := frozen_blk HD.out.ms 0
      go_upto_region 7 with fail
      clear m0 f0
      replace HD := Lib.hid (HD.out.set 0 (.int .i64 1))
      generalize w4.setCell ⟨w.heap.size + 4, 0, none⟩ (.int .i64 1) = w11 at *
      have CN := Lib.hid (next_any w11 (w.heap.size + 2) (w.heap.size + 1) _ (l) _ HD.out.ws)
      generalize hy1 : bs ((l).headD []) = y1 at CN
      have Hy1 := Lib.hid hy1
      clear hy1
      have p0 : w11.cell? ⟨w.heap.size + 3, 0, none⟩ = some (.pointer (some ⟨w.heap.size + 2, 0, none⟩)) := (cell_blk HD.out.pt 0).trans rfl
      go_wp2_with fail
      refine CN.out.mono ?_
      clear CN
      rintro e w12 ⟨rfl, o1, h1, g1⟩
      replace HD := Lib.hid (HD.out.call h1 g1)
      clear h1 g1 p0
      have m0 : w12.cell? ⟨w.heap.size + 4, 1, none⟩ = some (.string ⟨#[]⟩) := (cell_blk HD.out.ms 1).trans rfl
      have f0 : w12.frozen? ⟨w.heap.size + 4, 1, none⟩ = false := frozen_blk HD.out.ms 1
      go_upto_region 8 with fail
      clear m0 f0
      replace HD := Lib.hid (HD.out.set 1 (.string y1))
      generalize w12.setCell ⟨w.heap.size + 4, 1, none⟩ (.string y1) = w13 at *
      have CN := Lib.hid (next_any w13 (w.heap.size + 2) (w.heap.size + 1) _ (l.tail) _ HD.out.ws)
      generalize hy2 : bs ((l.tail).headD []) = y2 at CN
      have Hy2 := Lib.hid hy2
      clear hy2
      have p0 : w13.cell? ⟨w.heap.size + 3, 0, none⟩ = some (.pointer (some ⟨w.heap.size + 2, 0, none⟩)) := (cell_blk HD.out.pt 0).trans rfl
      go_wp2_with fail
      refine CN.out.mono ?_
      clear CN
      rintro e w14 ⟨rfl, o1, h1, g1⟩
      replace HD := Lib.hid (HD.out.call h1 g1)
      clear h1 g1 p0
      have m0 : w14.cell? ⟨w.heap.size + 4, 2, none⟩ = some (.string ⟨#[]⟩) := (cell_blk HD.out.ms 2).trans rfl
      have f0 : w14.frozen? ⟨w.heap.size + 4, 2, none⟩ = false := frozen_blk HD.out.ms 2
      go_upto_region 9 with fail
      clear m0 f0
      replace HD := Lib.hid (HD.out.set 2 (.string y2))
      generalize w14.setCell ⟨w.heap.size + 4, 2, none⟩ (.string y2) = w15 at *
      have CN := Lib.hid (wnumber_any w15 (w.heap.size + 2) (w.heap.size + 1) _ (l.tail.tail) _ HD.out.ws (by omega) (HMW.out _ _ _ _ _ HD.out) (head_le (tail_le (tail_le HL.out.2))))
      have p0 : w15.cell? ⟨w.heap.size + 3, 0, none⟩ = some (.pointer (some ⟨w.heap.size + 2, 0, none⟩)) := (cell_blk HD.out.pt 0).trans rfl
      go_wp2_with fail
      refine CN.out.mono ?_
      clear CN
      rintro e w16 ⟨n1, hn1, rfl, o1, h1, g1⟩
      have HN1 := Lib.hid hn1
      replace HD := Lib.hid (HD.out.call h1 g1)
      clear h1 g1 p0 hn1
      have m0 : w16.cell? ⟨w.heap.size + 4, 4, none⟩ = some (.int .i64 0) := (cell_blk HD.out.ms 4).trans rfl
      have f0 : w16.frozen? ⟨w.heap.size + 4, 4, none⟩ = false := frozen_blk HD.out.ms 4
      go_upto_region 10 with fail
      clear m0 f0
      replace HD := Lib.hid (HD.out.set 4 (.int .i64 n1))
      generalize w16.setCell ⟨w.heap.size + 4, 4, none⟩ (.int .i64 n1) = w17 at *
      have CN := Lib.hid (wnumber_any w17 (w.heap.size + 2) (w.heap.size + 1) _ (l.tail.tail.tail) _ HD.out.ws (by omega) (HMW.out _ _ _ _ _ HD.out) (head_le (tail_le (tail_le (tail_le HL.out.2)))))
      have p0 : w17.cell? ⟨w.heap.size + 3, 0, none⟩ = some (.pointer (some ⟨w.heap.size + 2, 0, none⟩)) := (cell_blk HD.out.pt 0).trans rfl
      go_wp2_with fail
      refine CN.out.mono ?_
      clear CN
      rintro e w18 ⟨n2, hn2, rfl, o1, h1, g1⟩
      have HN2 := Lib.hid hn2
      replace HD := Lib.hid (HD.out.call h1 g1)
      clear h1 g1 p0 hn2
      have m0 : w18.cell? ⟨w.heap.size + 4, 5, none⟩ = some (.int .i64 0) := (cell_blk HD.out.ms 5).trans rfl
      have f0 : w18.frozen? ⟨w.heap.size + 4, 5, none⟩ = false := frozen_blk HD.out.ms 5
      go_upto_region 11 with fail
      clear m0 f0
      replace HD := Lib.hid (HD.out.set 5 (.int .i64 n2))
      generalize w18.setCell ⟨w.heap.size + 4, 5, none⟩ (.int .i64 n2) = w19 at *
      have CN := Lib.hid (wtext_any w19 (w.heap.size + 2) (w.heap.size + 1) _ (l.tail.tail.tail.tail) _ HD.out.ws (by have := head_le (tail_le (tail_le (tail_le (tail_le HL.out.2)))); omega))
      generalize hx5 : bs ((txO l.tail.tail.tail.tail).getD []) = x5 at CN
      have Hx5 := Lib.hid hx5
      clear hx5
      have p0 : w19.cell? ⟨w.heap.size + 3, 0, none⟩ = some (.pointer (some ⟨w.heap.size + 2, 0, none⟩)) := (cell_blk HD.out.pt 0).trans rfl
      go_wp2_with fail
      refine CN.out.mono ?_
      clear CN
      rintro e w20 ⟨rfl, o1, h1, g1⟩
      replace HD := Lib.hid (HD.out.call h1 g1)
      clear h1 g1 p0
      have m0 : w20.cell? ⟨w.heap.size + 4, 8, none⟩ = some (.string ⟨#[]⟩) := (cell_blk HD.out.ms 8).trans rfl
      have f0 : w20.frozen? ⟨w.heap.size + 4, 8, none⟩ = false := frozen_blk HD.out.ms 8
      go_wp2_with fail
      go_meet
      clear m0 f0
      replace HD := Lib.hid (HD.out.set 8 (.string x5))
      obtain rfl := Hy1.out
      obtain rfl := Hy2.out
      obtain rfl := Hx5.out
      exact ⟨_, _, _, _, HD.out, start_jp HN1.out HN2.out⟩
    by_cases h1 : kk = wPlay
    focus
      subst h1
      have e0 : (x0.toList == [115, 116, 97, 114, 116]) = false := by rw [HX0.out]; rfl
      have e1 : (x0.toList == [112, 108, 97, 121]) = true := by rw [HX0.out]; rfl
      have CL := Lib.hid (listed_any 2 w w4 w.heap.size _ l hsz9 HD.out HMM.out HL.out.2 rfl)
      go_wp2_with fail
      refine CL.out.mono ?_
      rintro e w5 ⟨rfl, hj⟩
      have HJ := Lib.hid hj
      clear hj CL
      go_wp2_with fail
      go_meet
      have e : readP wPlay l = listP 2 l := by unfold readP; rw [if_neg (by decide), if_pos rfl]
      rw [e]
      exact HJ.out
    by_cases h2 : kk = wStop
    focus
      subst h2
      have e0 : (x0.toList == [115, 116, 97, 114, 116]) = false := by rw [HX0.out]; rfl
      have e1 : (x0.toList == [112, 108, 97, 121]) = false := by rw [HX0.out]; rfl
      have e2 : (x0.toList == [115, 116, 111, 112]) = true := by rw [HX0.out]; rfl
      have CL := Lib.hid (listed_any 3 w w4 w.heap.size _ l hsz9 HD.out HMM.out HL.out.2 rfl)
      go_wp2_with fail
      refine CL.out.mono ?_
      rintro e w5 ⟨rfl, hj⟩
      have HJ := Lib.hid hj
      clear hj CL
      go_wp2_with fail
      go_meet
      have e : readP wStop l = listP 3 l := by unfold readP; rw [if_neg (by decide), if_neg (by decide), if_pos rfl]
      rw [e]
      exact HJ.out
    by_cases h3 : kk = wAbort
    focus
      subst h3
      have e0 : (x0.toList == [115, 116, 97, 114, 116]) = false := by rw [HX0.out]; rfl
      have e1 : (x0.toList == [112, 108, 97, 121]) = false := by rw [HX0.out]; rfl
      have e2 : (x0.toList == [115, 116, 111, 112]) = false := by rw [HX0.out]; rfl
      have e3 : (x0.toList == [97, 98, 111, 114, 116]) = true := by rw [HX0.out]; rfl
      have m0 : w4.cell? ⟨w.heap.size + 4, 0, none⟩ = some (.int .i64 0) := (cell_blk HD.out.ms 0).trans rfl
      have f0 : w4.frozen? ⟨w.heap.size + 4, 0, none⟩ = false := frozen_blk HD.out.ms 0
      go_upto_region 18 with fail
      clear m0 f0
      replace HD := Lib.hid (HD.out.set 0 (.int .i64 4))
      generalize w4.setCell ⟨w.heap.size + 4, 0, none⟩ (.int .i64 4) = w11 at *
      have CN := Lib.hid (next_any w11 (w.heap.size + 2) (w.heap.size + 1) _ (l) _ HD.out.ws)
      generalize hy1 : bs ((l).headD []) = y1 at CN
      have Hy1 := Lib.hid hy1
      clear hy1
      have p0 : w11.cell? ⟨w.heap.size + 3, 0, none⟩ = some (.pointer (some ⟨w.heap.size + 2, 0, none⟩)) := (cell_blk HD.out.pt 0).trans rfl
      go_wp2_with fail
      refine CN.out.mono ?_
      clear CN
      rintro e w12 ⟨rfl, o1, h1, g1⟩
      replace HD := Lib.hid (HD.out.call h1 g1)
      clear h1 g1 p0
      have m0 : w12.cell? ⟨w.heap.size + 4, 1, none⟩ = some (.string ⟨#[]⟩) := (cell_blk HD.out.ms 1).trans rfl
      have f0 : w12.frozen? ⟨w.heap.size + 4, 1, none⟩ = false := frozen_blk HD.out.ms 1
      go_wp2_with fail
      go_meet
      clear m0 f0
      replace HD := Lib.hid (HD.out.set 1 (.string y1))
      obtain rfl := Hy1.out
      exact ⟨_, _, _, _, HD.out, abort_jp⟩
    by_cases h4 : kk = wReady
    focus
      subst h4
      have e0 : (x0.toList == [115, 116, 97, 114, 116]) = false := by rw [HX0.out]; rfl
      have e1 : (x0.toList == [112, 108, 97, 121]) = false := by rw [HX0.out]; rfl
      have e2 : (x0.toList == [115, 116, 111, 112]) = false := by rw [HX0.out]; rfl
      have e3 : (x0.toList == [97, 98, 111, 114, 116]) = false := by rw [HX0.out]; rfl
      have e4 : (x0.toList == [114, 101, 97, 100, 121]) = true := by rw [HX0.out]; rfl
      have m0 : w4.cell? ⟨w.heap.size + 4, 0, none⟩ = some (.int .i64 0) := (cell_blk HD.out.ms 0).trans rfl
      have f0 : w4.frozen? ⟨w.heap.size + 4, 0, none⟩ = false := frozen_blk HD.out.ms 0
      go_wp2_with fail
      go_meet
      clear m0 f0
      replace HD := Lib.hid (HD.out.set 0 (.int .i64 5))
      exact ⟨_, _, _, _, HD.out, .inr ⟨rfl, ready_jp⟩⟩
    by_cases h5 : kk = wMove
    focus
      subst h5
      have e0 : (x0.toList == [115, 116, 97, 114, 116]) = false := by rw [HX0.out]; rfl
      have e1 : (x0.toList == [112, 108, 97, 121]) = false := by rw [HX0.out]; rfl
      have e2 : (x0.toList == [115, 116, 111, 112]) = false := by rw [HX0.out]; rfl
      have e3 : (x0.toList == [97, 98, 111, 114, 116]) = false := by rw [HX0.out]; rfl
      have e4 : (x0.toList == [114, 101, 97, 100, 121]) = false := by rw [HX0.out]; rfl
      have e5 : (x0.toList == [109, 111, 118, 101]) = true := by rw [HX0.out]; rfl
      have m0 : w4.cell? ⟨w.heap.size + 4, 0, none⟩ = some (.int .i64 0) := (cell_blk HD.out.ms 0).trans rfl
      have f0 : w4.frozen? ⟨w.heap.size + 4, 0, none⟩ = false := frozen_blk HD.out.ms 0
      go_upto_region 23 with fail
      clear m0 f0
      replace HD := Lib.hid (HD.out.set 0 (.int .i64 6))
      generalize w4.setCell ⟨w.heap.size + 4, 0, none⟩ (.int .i64 6) = w11 at *
      have CN := Lib.hid (wterms_any w11 (w.heap.size + 2) (w.heap.size + 1) _ (l) _ HD.out.ws (by omega) (HMW.out _ _ _ _ _ HD.out) (head_le (HL.out.2)) (fun t ht => txO_le (HL.out.2) ht))
      unfold TWP at CN
      generalize hm1 : (tmO (l)).getD [] = m1 at CN
      have Hm1 := Lib.hid hm1
      clear hm1
      have p0 : w11.cell? ⟨w.heap.size + 3, 0, none⟩ = some (.pointer (some ⟨w.heap.size + 2, 0, none⟩)) := (cell_blk HD.out.pt 0).trans rfl
      go_wp2_with fail
      refine CN.out.mono ?_
      clear CN
      rintro e w12 ⟨A1, cp1, rfl, hs1, o1, h1, g1⟩
      have HS1 := Lib.hid (hs1.keep keeps_tm (P' := fun j => w.heap.size + 4 < j) (fun j hj _ => ⟨Nat.lt_of_lt_of_le HD.out.size hj, rfl⟩) (Nat.le_refl _))
      replace HD := Lib.hid (HD.out.call h1 g1)
      clear h1 g1 hs1 p0
      have m0 : w12.cell? ⟨w.heap.size + 4, 6, none⟩ = some (.slice none 0 0) := (cell_blk HD.out.ms 6).trans rfl
      have f0 : w12.frozen? ⟨w.heap.size + 4, 6, none⟩ = false := frozen_blk HD.out.ms 6
      go_wp2_with fail
      go_meet
      clear m0 f0
      have hset := (set_row HD.out.ms 6 (.slice A1 m1.length cp1)).2
      replace HS1 := Lib.hid (slv_grown HS1.out hset (by omega))
      clear hset
      replace HD := Lib.hid (HD.out.set 6 (.slice A1 m1.length cp1))
      obtain rfl := Hm1.out
      exact ⟨_, _, _, _, HD.out, move_jp HS1.out⟩
    by_cases h6 : kk = wDone
    focus
      subst h6
      have e0 : (x0.toList == [115, 116, 97, 114, 116]) = false := by rw [HX0.out]; rfl
      have e1 : (x0.toList == [112, 108, 97, 121]) = false := by rw [HX0.out]; rfl
      have e2 : (x0.toList == [115, 116, 111, 112]) = false := by rw [HX0.out]; rfl
      have e3 : (x0.toList == [97, 98, 111, 114, 116]) = false := by rw [HX0.out]; rfl
      have e4 : (x0.toList == [114, 101, 97, 100, 121]) = false := by rw [HX0.out]; rfl
      have e5 : (x0.toList == [109, 111, 118, 101]) = false := by rw [HX0.out]; rfl
      have e6 : (x0.toList == [100, 111, 110, 101]) = true := by rw [HX0.out]; rfl
      have m0 : w4.cell? ⟨w.heap.size + 4, 0, none⟩ = some (.int .i64 0) := (cell_blk HD.out.ms 0).trans rfl
      have f0 : w4.frozen? ⟨w.heap.size + 4, 0, none⟩ = false := frozen_blk HD.out.ms 0
      go_wp2_with fail
      go_meet
      clear m0 f0
      replace HD := Lib.hid (HD.out.set 0 (.int .i64 7))
      exact ⟨_, _, _, _, HD.out, .inr ⟨rfl, done_jp⟩⟩
    have e0 : (x0.toList == [115, 116, 97, 114, 116]) = false := by rw [HX0.out]; exact beq_eq_false_iff_ne.2 h0
    have e1 : (x0.toList == [112, 108, 97, 121]) = false := by rw [HX0.out]; exact beq_eq_false_iff_ne.2 h1
    have e2 : (x0.toList == [115, 116, 111, 112]) = false := by rw [HX0.out]; exact beq_eq_false_iff_ne.2 h2
    have e3 : (x0.toList == [97, 98, 111, 114, 116]) = false := by rw [HX0.out]; exact beq_eq_false_iff_ne.2 h3
    have e4 : (x0.toList == [114, 101, 97, 100, 121]) = false := by rw [HX0.out]; exact beq_eq_false_iff_ne.2 h4
    have e5 : (x0.toList == [109, 111, 118, 101]) = false := by rw [HX0.out]; exact beq_eq_false_iff_ne.2 h5
    have e6 : (x0.toList == [100, 111, 110, 101]) = false := by rw [HX0.out]; exact beq_eq_false_iff_ne.2 h6
    go_wp2_with fail
    go_meet
    exact ⟨_, _, _, _, HD.out, .inr ⟨rfl, other_jp h0 h1 h2 h3 h4 h5 h6⟩⟩
  case rest =>
    clear HD Hx0 HX0
    obtain ⟨o5, l5, bad5, C5, hd5, hc5⟩ := hcut
    have HD := Lib.hid hd5
    clear hd5
    have p0 : wc.cell? ⟨w.heap.size + 3, 0, none⟩ = some (.pointer (some ⟨w.heap.size + 2, 0, none⟩)) := (cell_blk HD.out.pt 0).trans rfl
    have b1 : wc.cell? ⟨w.heap.size + 2, 1, none⟩ = some (.bool bad5) := (cell_blk HD.out.ws.blk 1).trans rfl
    rcases hc5 with ⟨rfl, hr⟩ | ⟨rfl, m, hr, hmc⟩
    · have HDN : Hid (decP s = none) := by rw [Hid, HDP.out, hr]; rfl
      clear hr
      have r0 := cell_blk HD.out.res 0
      have g0 := frozen_blk HD.out.res 0
      have r1 := cell_blk HD.out.res 1
      have g1 := frozen_blk HD.out.res 1
      have r2 := cell_blk HD.out.res 2
      have g2 := frozen_blk HD.out.res 2
      have r3 := cell_blk HD.out.res 3
      have g3 := frozen_blk HD.out.res 3
      have r4 := cell_blk HD.out.res 4
      have g4 := frozen_blk HD.out.res 4
      have r5 := cell_blk HD.out.res 5
      have g5 := frozen_blk HD.out.res 5
      have r6 := cell_blk HD.out.res 6
      have g6 := frozen_blk HD.out.res 6
      have r7 := cell_blk HD.out.res 7
      have g7 := frozen_blk HD.out.res 7
      have r8 := cell_blk HD.out.res 8
      have g8 := frozen_blk HD.out.res 8
      go_wp2_with fail
      clear r0 r1 r2 r3 r4 r5 r6 r7 r8 g0 g1 g2 g3 g4 g5 g6 g7 g8
      have HN := Lib.hid (set_nine HD.out.res (.int .i64 0) (.string ⟨#[]⟩) (.string ⟨#[]⟩) (.slice none 0 0) (.int .i64 0) (.int .i64 0) (.slice none 0 0) (.slice none 0 0) (.string ⟨#[]⟩))
      have HBF := Lib.hid (HD.out.be.trans (grown_below HN.out.2 (Nat.le_refl _) (by have := HD.out.size; omega)))
      generalize (((((((((wc.setCell ⟨w.heap.size, 0, none⟩ (.int .i64 0)).setCell ⟨w.heap.size, 1, none⟩ (.string ⟨#[]⟩)).setCell ⟨w.heap.size, 2, none⟩ (.string ⟨#[]⟩)).setCell ⟨w.heap.size, 3, none⟩ (.slice none 0 0)).setCell ⟨w.heap.size, 4, none⟩ (.int .i64 0)).setCell ⟨w.heap.size, 5, none⟩ (.int .i64 0)).setCell ⟨w.heap.size, 6, none⟩ (.slice none 0 0)).setCell ⟨w.heap.size, 7, none⟩ (.slice none 0 0)).setCell ⟨w.heap.size, 8, none⟩ (.string ⟨#[]⟩)) = w9 at *
      have c := cell_blk HN.out.1
      have v0 := c 0
      have v1 := c 1
      have v2 := c 2
      have v3 := c 3
      have v4 := c 4
      have v5 := c 5
      have v6 := c 6
      have v7 := c 7
      have v8 := c 8
      simp at v0 v1 v2 v3 v4 v5 v6 v7 v8
      refine bodyPost_ret (v := .tuple #[.agg zMsg, .int .i64 1]) (by simp [results, Tryz.results11, go_sem, v0, v1, v2, v3, v4, v5, v6, v7, v8]) rfl ?_
      refine ⟨HBF.out, ?_⟩
      rw [HDN.out]
    · have hf := HL.out.1 _ hr
      obtain ⟨k0, mat, ⟨nm, ra⟩, sc, pc, mv, pv, tx⟩ := m
      have hra : ra = [] := hf.args
      subst hra
      obtain ⟨A1, c1, A2, c2, hC, _, hs1, hs2⟩ := hmc
      simp only [Tm.name] at hC
      subst hC
      have HDN : Hid (decP s = closeF s ⟨k0, mat, .mk nm [], sc, pc, mv, pv, tx⟩) := by rw [Hid, HDP.out, hr]; rfl
      have n1 : mv.length ≤ 5000 := hf.n1
      have n2 : pv.length ≤ 5000 := hf.n2
      have HS1 := Lib.hid hs1
      have HS2 := Lib.hid hs2
      have hin : MsIn wc (fun j => w.heap.size + 4 < j ∧ j < wc.heap.size) A1 mv A2 pv := ⟨by omega, by omega, fun j hj => hj.2, hs1.keep keeps_tm (fun j hj hl => ⟨⟨hj, hl⟩, rfl⟩) (Nat.le_refl _), fun t ht => tmb_of4 (hf.v1 t ht), hs2.keep keeps_tm (fun j hj hl => ⟨⟨hj, hl⟩, rfl⟩) (Nat.le_refl _), fun t ht => tmb_of4 (hf.v2 t ht)⟩
      have CE := Lib.hid (encode_any wc _ k0 mat nm none 0 [] sc pc A1 c1 mv A2 c2 pv tx (by have : mat.length ≤ 5000000 := hf.mat; omega) (by have : nm.length ≤ 5000000 := hf.role; omega) hin n1 n2 (HMW.out _ _ _ _ _ HD.out).tb (by have : tx.length ≤ 5000000 := hf.text; omega))
      rw [show ([] : List Tm).length = 0 from rfl] at CE
      clear hf hr hs1 hs2 hin n1 n2
      have m0 := cell_blk HD.out.ms 0
      have m1 := cell_blk HD.out.ms 1
      have m2 := cell_blk HD.out.ms 2
      have m3 := cell_blk HD.out.ms 3
      have m4 := cell_blk HD.out.ms 4
      have m5 := cell_blk HD.out.ms 5
      have m6 := cell_blk HD.out.ms 6
      have m7 := cell_blk HD.out.ms 7
      have m8 := cell_blk HD.out.ms 8
      simp at m0 m1 m2 m3 m4 m5 m6 m7 m8
      by_cases hc : checkF ⟨k0, mat, .mk nm [], sc, pc, mv, pv, tx⟩ = 0
      rotate_left
      focus
        have HDE : Hid (decP s = none) := by rw [Hid, HDN.out]; unfold closeF; rw [if_neg (fun h => hc h.1)]
        unfold encV encO at CE
        rw [if_neg hc] at CE
        generalize checkF ⟨k0, mat, .mk nm [], sc, pc, mv, pv, tx⟩ = z at *
        simp only at CE
        have e1 : (z != 0) = true := by simpa using hc
        go_wp2_with fail
        refine CE.out.mono ?_
        rintro e w6 ⟨rfl, hb⟩
        replace HD := Lib.hid (HD.out.keep hb)
        clear hb m0 m1 m2 m3 m4 m5 m6 m7 m8 p0 b1
        have r0 := cell_blk HD.out.res 0
        have g0 := frozen_blk HD.out.res 0
        have r1 := cell_blk HD.out.res 1
        have g1 := frozen_blk HD.out.res 1
        have r2 := cell_blk HD.out.res 2
        have g2 := frozen_blk HD.out.res 2
        have r3 := cell_blk HD.out.res 3
        have g3 := frozen_blk HD.out.res 3
        have r4 := cell_blk HD.out.res 4
        have g4 := frozen_blk HD.out.res 4
        have r5 := cell_blk HD.out.res 5
        have g5 := frozen_blk HD.out.res 5
        have r6 := cell_blk HD.out.res 6
        have g6 := frozen_blk HD.out.res 6
        have r7 := cell_blk HD.out.res 7
        have g7 := frozen_blk HD.out.res 7
        have r8 := cell_blk HD.out.res 8
        have g8 := frozen_blk HD.out.res 8
        go_wp2_with fail
        clear r0 r1 r2 r3 r4 r5 r6 r7 r8 g0 g1 g2 g3 g4 g5 g6 g7 g8
        have HN := Lib.hid (set_nine HD.out.res (.int .i64 0) (.string ⟨#[]⟩) (.string ⟨#[]⟩) (.slice none 0 0) (.int .i64 0) (.int .i64 0) (.slice none 0 0) (.slice none 0 0) (.string ⟨#[]⟩))
        have HBF := Lib.hid (HD.out.be.trans (grown_below HN.out.2 (Nat.le_refl _) (by have := HD.out.size; omega)))
        generalize (((((((((w6.setCell ⟨w.heap.size, 0, none⟩ (.int .i64 0)).setCell ⟨w.heap.size, 1, none⟩ (.string ⟨#[]⟩)).setCell ⟨w.heap.size, 2, none⟩ (.string ⟨#[]⟩)).setCell ⟨w.heap.size, 3, none⟩ (.slice none 0 0)).setCell ⟨w.heap.size, 4, none⟩ (.int .i64 0)).setCell ⟨w.heap.size, 5, none⟩ (.int .i64 0)).setCell ⟨w.heap.size, 6, none⟩ (.slice none 0 0)).setCell ⟨w.heap.size, 7, none⟩ (.slice none 0 0)).setCell ⟨w.heap.size, 8, none⟩ (.string ⟨#[]⟩)) = w9 at *
        have c := cell_blk HN.out.1
        have v0 := c 0
        have v1 := c 1
        have v2 := c 2
        have v3 := c 3
        have v4 := c 4
        have v5 := c 5
        have v6 := c 6
        have v7 := c 7
        have v8 := c 8
        simp at v0 v1 v2 v3 v4 v5 v6 v7 v8
        refine bodyPost_ret (v := .tuple #[.agg zMsg, .int .i64 1]) (by simp [results, Tryz.results11, go_sem, v0, v1, v2, v3, v4, v5, v6, v7, v8]) rfl ?_
        refine ⟨HBF.out, ?_⟩
        rw [HDE.out]
      unfold encV encO at CE
      rw [if_pos hc] at CE
      simp only at CE
      by_cases he : encF ⟨k0, mat, .mk nm [], sc, pc, mv, pv, tx⟩ = s
      rotate_left
      focus
        have HDE : Hid (decP s = none) := by rw [Hid, HDN.out]; unfold closeF; rw [if_neg (fun h => he h.2)]
        generalize hes : bs (encF ⟨k0, mat, .mk nm [], sc, pc, mv, pv, tx⟩) = es at *
        generalize hst : bs s = st at *
        have e1 : (es.toList == st.toList) = false := by rw [← hes, ← hst, ByteArray.toList_eq, ByteArray.toList_eq, toList_bs, toList_bs]; exact beq_eq_false_iff_ne.2 he
        clear hes hst
        go_wp2_with fail
        refine CE.out.mono ?_
        rintro e w6 ⟨rfl, hb⟩
        replace HD := Lib.hid (HD.out.keep hb)
        clear hb m0 m1 m2 m3 m4 m5 m6 m7 m8 p0 b1
        have r0 := cell_blk HD.out.res 0
        have g0 := frozen_blk HD.out.res 0
        have r1 := cell_blk HD.out.res 1
        have g1 := frozen_blk HD.out.res 1
        have r2 := cell_blk HD.out.res 2
        have g2 := frozen_blk HD.out.res 2
        have r3 := cell_blk HD.out.res 3
        have g3 := frozen_blk HD.out.res 3
        have r4 := cell_blk HD.out.res 4
        have g4 := frozen_blk HD.out.res 4
        have r5 := cell_blk HD.out.res 5
        have g5 := frozen_blk HD.out.res 5
        have r6 := cell_blk HD.out.res 6
        have g6 := frozen_blk HD.out.res 6
        have r7 := cell_blk HD.out.res 7
        have g7 := frozen_blk HD.out.res 7
        have r8 := cell_blk HD.out.res 8
        have g8 := frozen_blk HD.out.res 8
        go_wp2_with fail
        clear r0 r1 r2 r3 r4 r5 r6 r7 r8 g0 g1 g2 g3 g4 g5 g6 g7 g8
        have HN := Lib.hid (set_nine HD.out.res (.int .i64 0) (.string ⟨#[]⟩) (.string ⟨#[]⟩) (.slice none 0 0) (.int .i64 0) (.int .i64 0) (.slice none 0 0) (.slice none 0 0) (.string ⟨#[]⟩))
        have HBF := Lib.hid (HD.out.be.trans (grown_below HN.out.2 (Nat.le_refl _) (by have := HD.out.size; omega)))
        generalize (((((((((w6.setCell ⟨w.heap.size, 0, none⟩ (.int .i64 0)).setCell ⟨w.heap.size, 1, none⟩ (.string ⟨#[]⟩)).setCell ⟨w.heap.size, 2, none⟩ (.string ⟨#[]⟩)).setCell ⟨w.heap.size, 3, none⟩ (.slice none 0 0)).setCell ⟨w.heap.size, 4, none⟩ (.int .i64 0)).setCell ⟨w.heap.size, 5, none⟩ (.int .i64 0)).setCell ⟨w.heap.size, 6, none⟩ (.slice none 0 0)).setCell ⟨w.heap.size, 7, none⟩ (.slice none 0 0)).setCell ⟨w.heap.size, 8, none⟩ (.string ⟨#[]⟩)) = w9 at *
        have c := cell_blk HN.out.1
        have v0 := c 0
        have v1 := c 1
        have v2 := c 2
        have v3 := c 3
        have v4 := c 4
        have v5 := c 5
        have v6 := c 6
        have v7 := c 7
        have v8 := c 8
        simp at v0 v1 v2 v3 v4 v5 v6 v7 v8
        refine bodyPost_ret (v := .tuple #[.agg zMsg, .int .i64 1]) (by simp [results, Tryz.results11, go_sem, v0, v1, v2, v3, v4, v5, v6, v7, v8]) rfl ?_
        refine ⟨HBF.out, ?_⟩
        rw [HDE.out]
      have HDE : Hid (decP s = some ⟨k0, mat, .mk nm [], sc, pc, mv, pv, tx⟩) := by rw [Hid, HDN.out]; unfold closeF; rw [if_pos ⟨hc, he⟩]
      rw [he] at CE
      generalize bs s = st at *
      have e1 : (st.toList == st.toList) = true := by simp
      go_wp2_with fail
      refine CE.out.mono ?_
      rintro e w6 ⟨rfl, hb⟩
      have HB6 := Lib.hid hb
      replace HD := Lib.hid (HD.out.keep hb)
      clear hb m0 m1 m2 m3 m4 m5 m6 m7 m8 p0 b1
      have r0 := cell_blk HD.out.res 0
      have g0 := frozen_blk HD.out.res 0
      have r1 := cell_blk HD.out.res 1
      have g1 := frozen_blk HD.out.res 1
      have r2 := cell_blk HD.out.res 2
      have g2 := frozen_blk HD.out.res 2
      have r3 := cell_blk HD.out.res 3
      have g3 := frozen_blk HD.out.res 3
      have r4 := cell_blk HD.out.res 4
      have g4 := frozen_blk HD.out.res 4
      have r5 := cell_blk HD.out.res 5
      have g5 := frozen_blk HD.out.res 5
      have r6 := cell_blk HD.out.res 6
      have g6 := frozen_blk HD.out.res 6
      have r7 := cell_blk HD.out.res 7
      have g7 := frozen_blk HD.out.res 7
      have r8 := cell_blk HD.out.res 8
      have g8 := frozen_blk HD.out.res 8
      have m0 := cell_blk HD.out.ms 0
      have m1 := cell_blk HD.out.ms 1
      have m2 := cell_blk HD.out.ms 2
      have m3 := cell_blk HD.out.ms 3
      have m4 := cell_blk HD.out.ms 4
      have m5 := cell_blk HD.out.ms 5
      have m6 := cell_blk HD.out.ms 6
      have m7 := cell_blk HD.out.ms 7
      have m8 := cell_blk HD.out.ms 8
      simp at m0 m1 m2 m3 m4 m5 m6 m7 m8
      go_wp2_with fail
      clear r0 r1 r2 r3 r4 r5 r6 r7 r8 g0 g1 g2 g3 g4 g5 g6 g7 g8
      have HN := Lib.hid (set_nine HD.out.res (.int .i64 k0) (.string (bs mat)) (.string (bs nm)) (.slice none 0 0) (.int .i64 sc) (.int .i64 pc) (.slice A1 mv.length c1) (.slice A2 pv.length c2) (.string (bs tx)))
      have HBF := Lib.hid (HD.out.be.trans (grown_below HN.out.2 (Nat.le_refl _) (by have := HD.out.size; omega)))
      have HS1' := Lib.hid (slv_grown (HS1.out.keep keeps_tm (fun j hj hl => ⟨hj, HB6.out.block j hl⟩) HB6.out.size) HN.out.2 (by omega))
      have HS2' := Lib.hid (slv_grown (HS2.out.keep keeps_tm (fun j hj hl => ⟨hj, HB6.out.block j hl⟩) HB6.out.size) HN.out.2 (by omega))
      generalize (((((((((w6.setCell ⟨w.heap.size, 0, none⟩ (.int .i64 k0)).setCell ⟨w.heap.size, 1, none⟩ (.string (bs mat))).setCell ⟨w.heap.size, 2, none⟩ (.string (bs nm))).setCell ⟨w.heap.size, 3, none⟩ (.slice none 0 0)).setCell ⟨w.heap.size, 4, none⟩ (.int .i64 sc)).setCell ⟨w.heap.size, 5, none⟩ (.int .i64 pc)).setCell ⟨w.heap.size, 6, none⟩ (.slice A1 mv.length c1)).setCell ⟨w.heap.size, 7, none⟩ (.slice A2 pv.length c2)).setCell ⟨w.heap.size, 8, none⟩ (.string (bs tx))) = w9 at *
      have c := cell_blk HN.out.1
      have v0 := c 0
      have v1 := c 1
      have v2 := c 2
      have v3 := c 3
      have v4 := c 4
      have v5 := c 5
      have v6 := c 6
      have v7 := c 7
      have v8 := c 8
      simp at v0 v1 v2 v3 v4 v5 v6 v7 v8
      refine bodyPost_ret (v := .tuple #[.agg #[.int .i64 k0, .string (bs mat), .string (bs nm), .slice none 0 0, .int .i64 sc, .int .i64 pc, .slice A1 mv.length c1, .slice A2 pv.length c2, .string (bs tx)], .int .i64 0]) (by simp [results, Tryz.results11, go_sem, v0, v1, v2, v3, v4, v5, v6, v7, v8]) rfl ?_
      refine ⟨HBF.out, ?_⟩
      rw [HDE.out]
      exact ⟨_, ⟨A1, c1, A2, c2, rfl, rfl, HS1'.out, HS2'.out⟩, rfl⟩
theorem decode_any (w : World) (s : List UInt8) (hs : s.length ≤ 4000) (hm : Mw w) : Calls Tryz.prog 11 #[.string (bs s)] w (DecP w (decP s)) :=
  decode_gen w s (by omega) (fun m h => read_fine (fun x hx => Nat.le_trans ((words_le s).2 x (List.mem_of_mem_tail hx)) hs) h) hm

end
end Go.Proofs.YtmplpbdldcokjaaGreatDoor
