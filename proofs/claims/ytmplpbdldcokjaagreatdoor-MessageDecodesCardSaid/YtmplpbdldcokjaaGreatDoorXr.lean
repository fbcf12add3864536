/- Merged texts: The reader of gameplayerref05: its state and its small walks. The state inside rest of the reference's reader. -/
import Derived.Test.YtmplpbdldcokjaaGreatDoorXi
namespace Go.Proofs.YtmplpbdldcokjaaGreatDoor
/- The reader of gameplayerref05: its state and its small walks. -/
section
open Go Go.RowKit
set_option linter.unusedSimpArgs false

/-- the reference's reader in block rb stands before the tokens ts; at and e are its error -/
structure RR (w : World) (rb tb cap : Nat) (toks ts : List Tok) (i : Nat) (at_ e : Int) : Prop where
  lt : i < toks.length
  ts_ : toks.drop i = ts
  blk : w.heap[rb]? = some (.cells #[.slice (some ⟨tb, 0, none⟩) toks.length cap, .int .i64 i, .int .i64 at_, .int .i64 e] 153 (0, 0))
  tk : Tk w tb toks
  ne : tb ≠ rb
  big : toks.length < 20000
  fin : EndL ts

section
variable {w w' : World} {rb tb cap : Nat} {toks ts : List Tok} {i : Nat} {at_ e : Int}
theorem RR.rlt (h : RR w rb tb cap toks ts i at_ e) : rb < w.heap.size := heap_lt h.blk
theorem RR.hd (h : RR w rb tb cap toks ts i at_ e) : toks[i]? = some (hd ts) := by
  have h1 := h.ts_
  rw [List.drop_eq_getElem_cons h.lt] at h1
  rw [← h1, List.getElem?_eq_getElem h.lt]
  rfl
theorem RR.below (h : RR w rb tb cap toks ts i at_ e) (hb : Below w.heap.size w w') : RR w' rb tb cap toks ts i at_ e :=
  ⟨h.lt, h.ts_, (hb.block rb h.rlt).trans h.blk, h.tk.keep (hb.block tb h.tk.1) hb.size, h.ne, h.big, h.fin⟩
theorem RR.other (h : RR w rb tb cap toks ts i at_ e) {q : Nat} (hg : w.grownBy w' (some q)) (h1 : q ≠ rb) (h2 : q ≠ tb) : RR w' rb tb cap toks ts i at_ e :=
  ⟨h.lt, h.ts_, (hg.block _ h.rlt (fun e => h1 (by injection e with e; exact e.symm))).trans h.blk, h.tk.keep (hg.block _ h.tk.1 (fun e => h2 (by injection e with e; exact e.symm))) hg.size, h.ne, h.big, h.fin⟩
theorem RR.facts (h : RR w rb tb cap toks ts i at_ e) :
    w.cell? ⟨rb, 0, none⟩ = some (.slice (some ⟨tb, 0, none⟩) toks.length cap) ∧ w.cell? ⟨rb, 1, none⟩ = some (.int .i64 i) ∧ w.cell? ⟨rb, 2, none⟩ = some (.int .i64 at_) ∧ w.cell? ⟨rb, 3, none⟩ = some (.int .i64 e) ∧
    w.frozen? ⟨rb, 1, none⟩ = false ∧ w.frozen? ⟨rb, 2, none⟩ = false ∧ w.frozen? ⟨rb, 3, none⟩ = false := by
  refine ⟨?_, ?_, ?_, ?_, ?_, ?_, ?_⟩
  · rw [cell_of_row w rb 0 _ _ _ h.blk]; rfl
  · rw [cell_of_row w rb 1 _ _ _ h.blk]; rfl
  · rw [cell_of_row w rb 2 _ _ _ h.blk]; rfl
  · rw [cell_of_row w rb 3 _ _ _ h.blk]; rfl
  · simp [World.frozen?, h.blk]
  · simp [World.frozen?, h.blk]
  · simp [World.frozen?, h.blk]
theorem RR.step (h : RR w rb tb cap toks ts i at_ e) (hk : (Go.Proofs.YtmplpbdldcokjaaGreatDoor.hd ts).kind ≠ 0) :
    RR (w.setCell ⟨rb, 1, none⟩ (.int .i64 (i + 1 : Nat))) rb tb cap toks ts.tail (i + 1) at_ e := by
  have hf := h.fin.hdtail hk
  have hlen := h.lt
  have hts := h.ts_
  have htail : toks.drop (i + 1) = ts.tail := by rw [← hts, List.tail_drop]
  have hlt : i + 1 < toks.length := by
    rcases Nat.lt_or_ge (i + 1) toks.length with h1 | h1
    · exact h1
    · rw [← htail, List.drop_eq_nil_of_le h1] at hf
      exact hf.elim
  refine ⟨hlt, htail, ?_, h.tk.keep (Below.heap_setCell _ _ _ _ h.ne) (by simp), h.ne, h.big, hf⟩
  simp [World.setCell, Array.getElem?_modify, h.blk]
theorem RR.err (h : RR w rb tb cap toks ts i at_ e) (p x : Int) : RR ((w.setCell ⟨rb, 2, none⟩ (.int .i64 p)).setCell ⟨rb, 3, none⟩ (.int .i64 x)) rb tb cap toks ts i p x := by
  refine ⟨h.lt, h.ts_, ?_, h.tk.keep ((Below.heap_setCell _ _ _ _ h.ne).trans (Below.heap_setCell _ _ _ _ h.ne)) (by simp), h.ne, h.big, h.fin⟩
  simp [World.setCell, Array.getElem?_modify, h.blk]
end

/-- what a step of the reference leaves: it stands before ts', or there is an error -/
def RMoved (w : World) (rb tb cap : Nat) (toks ts' : List Tok) (w' : World) : Prop := (∃ i, RR w' rb tb cap toks ts' i 0 0) ∧ w.grownBy w' (some rb)
def RErr (w : World) (rb tb cap : Nat) (toks : List Tok) (p : Nat) (x : Int) (w' : World) : Prop := (∃ ts' i, RR w' rb tb cap toks ts' i p x) ∧ x ≠ 0 ∧ w.grownBy w' (some rb)

set_option maxHeartbeats 2000000 in
set_option maxRecDepth 100000 in
theorem rfail_ok {w : World} {rb tb cap : Nat} {toks ts : List Tok} {i : Nat} {a : Int} (h : RR w rb tb cap toks ts i a 0) (x : Int) (hx : x ≠ 0) :
    Calls Tryz.prog 153 #[.pointer (some ⟨rb, 0, none⟩), .int .i64 x] w fun e w' => e = .returned (.tuple #[]) ∧ RErr w rb tb cap toks (hd ts).pos x w' := by
  obtain ⟨c0, c1, c2, c3, f1, f2, f3⟩ := h.facts
  have hi : (i : Int) < (toks.length : Int) := by have := h.lt; omega
  have hi0 : (0 : Int) ≤ (i : Int) := by omega
  obtain ⟨t0, t1, t2⟩ := h.tk.2 i _ h.hd
  have hne := h.ne
  have hne' := Ne.symm h.ne
  have HR := Lib.hid h
  clear h
  go_enter Tryz.func153, Tryz.ntmps153
  go_wp2_with fail
  go_region
  go_wp2_with fail
  go_end0
  refine ⟨rfl, ⟨ts, i, ?_⟩, hx, ?_⟩
  · have h1 := (HR.out.below (Below.refl _ _).drew).err (hd ts).pos x
    exact h1
  · exact grown_trans (grown_of_below (Below.refl _ _).drew _) (grown_trans (grown_set _ _ _ _) (grown_set _ _ _ _))

set_option maxHeartbeats 2000000 in
set_option maxRecDepth 100000 in
theorem rfail_no {w : World} {rb tb cap : Nat} {toks ts : List Tok} {i : Nat} {a k : Int} (h : RR w rb tb cap toks ts i a k) (hk : k ≠ 0) (x : Int) :
    Calls Tryz.prog 153 #[.pointer (some ⟨rb, 0, none⟩), .int .i64 x] w fun e w' => e = .returned (.tuple #[]) ∧ w' = w := by
  obtain ⟨c0, c1, c2, c3, f1, f2, f3⟩ := h.facts
  have hk0 : (k == 0) = false := beq_eq_false_iff_ne.2 hk
  clear h
  go_enter Tryz.func153, Tryz.ntmps153
  go_wp2_with fail
  go_end0
  exact ⟨rfl, rfl⟩

set_option maxHeartbeats 4000000 in
set_option maxRecDepth 100000 in
theorem ris_any {w : World} {rb tb cap : Nat} {toks ts : List Tok} {i : Nat} {a e0 : Int} (h : RR w rb tb cap toks ts i a e0) (s : List UInt8) :
    Calls Tryz.prog 160 #[.pointer (some ⟨rb, 0, none⟩), .string (bs s)] w fun e w' => e = .returned (.bool (e0 == 0 && isT ts s)) ∧ Below w.heap.size w w' := by
  obtain ⟨c0, c1, c2, c3, f1, f2, f3⟩ := h.facts
  have hi : (i : Int) < (toks.length : Int) := by have := h.lt; omega
  have hi0 : (0 : Int) ≤ (i : Int) := by omega
  obtain ⟨t0, t1, t2⟩ := h.tk.2 i _ h.hd
  have hrl := h.rlt
  have htl := h.tk.1
  have hI : isT ts s = (((hd ts).kind == 4 || (hd ts).kind == 5) && ((bs (hd ts).text).toList == (bs s).toList)) := by rw [bsList, bsList]; rfl
  clear h f1 f2 f3
  cases h0 : e0 == 0 <;> cases h4 : (hd ts).kind == 4 <;> cases h5 : (hd ts).kind == 5 <;> cases hs : ((bs (hd ts).text).toList == (bs s).toList)
  all_goals
    rw [h4, h5, hs] at hI
    have HI := Lib.hid hI
    clear hI
    generalize (hd ts).kind = k at *
    generalize (hd ts).text = x at *
    generalize (hd ts).pos = p at *
    go_enter Tryz.func160, Tryz.ntmps160
    go_wp2_with fail
    go_region
    go_wp2_with fail
    go_ret
    refine ⟨ret_bool (by rw [HI.out]; try rfl), ?_⟩
    exact ((Below.refl _ _).alloc (Nat.le_refl _) _).drew

theorem RErr.below {w w1 w2 : World} {rb tb cap : Nat} {toks : List Tok} {p : Nat} {x : Int} (h : RErr w rb tb cap toks p x w1) (hb : Below w1.heap.size w1 w2) : RErr w rb tb cap toks p x w2 := by
  obtain ⟨⟨ts', i, h1⟩, h2, h3⟩ := h
  exact ⟨⟨ts', i, h1.below hb⟩, h2, grown_trans h3 (grown_of_below hb _)⟩
theorem RErr.pre {w w1 w2 : World} {rb tb cap : Nat} {toks : List Tok} {p : Nat} {x : Int} (hg : w.grownBy w1 (some rb)) (h : RErr w1 rb tb cap toks p x w2) : RErr w rb tb cap toks p x w2 :=
  ⟨h.1, h.2.1, grown_trans hg h.2.2⟩

set_option maxHeartbeats 2000000 in
set_option maxRecDepth 100000 in
theorem rskip_ok {w : World} {rb tb cap : Nat} {toks ts : List Tok} {i : Nat} (h : RR w rb tb cap toks ts i 0 0) (s : List UInt8) :
    Calls Tryz.prog 161 #[.pointer (some ⟨rb, 0, none⟩), .string (bs s)] w fun e w' => e = .returned (.tuple #[]) ∧
      if isT ts s then RMoved w rb tb cap toks ts.tail w' else RErr w rb tb cap toks (hd ts).pos 1 w' := by
  have HI := Lib.hid (ris_any h s)
  have HR := Lib.hid h
  have hsm : (i : Int) < 20000 := by have := h.lt; have := h.big; omega
  clear h
  cases hI : isT ts s with
  | true =>
    rw [hI] at HI
    have HK := Lib.hid (isT_kind hI)
    clear hI
    go_enter Tryz.func161, Tryz.ntmps161
    go_wp2_with fail
    refine HI.out.mono ?_
    rintro e w1 ⟨rfl, hb⟩
    have HR1 := Lib.hid (HR.out.below hb)
    have HB := Lib.hid hb
    obtain ⟨c0, c1, c2, c3, f1, f2, f3⟩ := HR1.out.facts
    clear hb HI HR
    go_wp2_with fail
    rw [show ((i : Int) + 1) = ((i + 1 : Nat) : Int) from by omega]
    go_end0
    exact ⟨rfl, ⟨_, HR1.out.step HK.out⟩, grown_trans (grown_of_below HB.out _) (grown_set _ _ _ _)⟩
  | false =>
    rw [hI] at HI
    clear hI
    go_enter Tryz.func161, Tryz.ntmps161
    go_wp2_with fail
    refine HI.out.mono ?_
    rintro e w1 ⟨rfl, hb⟩
    have HR1 := Lib.hid (HR.out.below hb)
    have HB := Lib.hid hb
    clear hb HI HR
    go_wp2_with fail
    refine (rfail_ok HR1.out 1 (by decide)).mono ?_
    rintro e w2 ⟨rfl, he⟩
    have HE := Lib.hid he
    clear he
    go_wp2_with fail
    exact bodyPost_ret (v := .tuple #[]) (by simp [results, Tryz.results161, go_sem]) rfl ⟨rfl, HE.out.pre (grown_of_below HB.out _)⟩

set_option maxHeartbeats 2000000 in
set_option maxRecDepth 100000 in
theorem rskip_no {w : World} {rb tb cap : Nat} {toks ts : List Tok} {i : Nat} {a k : Int} (h : RR w rb tb cap toks ts i a k) (hk : k ≠ 0) (s : List UInt8) :
    Calls Tryz.prog 161 #[.pointer (some ⟨rb, 0, none⟩), .string (bs s)] w fun e w' => e = .returned (.tuple #[]) ∧ Below w.heap.size w w' := by
  have HI := Lib.hid (ris_any h s)
  rw [show (k == 0 && isT ts s) = false from by rw [beq_eq_false_iff_ne.2 hk]; rfl] at HI
  have HR := Lib.hid h
  have HK := Lib.hid hk
  clear h hk
  go_enter Tryz.func161, Tryz.ntmps161
  go_wp2_with fail
  refine HI.out.mono ?_
  rintro e w1 ⟨rfl, hb⟩
  have HR1 := Lib.hid (HR.out.below hb)
  have HB := Lib.hid hb
  clear hb HI HR
  go_wp2_with fail
  refine (rfail_no HR1.out HK.out 1).mono ?_
  rintro e w2 ⟨rfl, rfl⟩
  go_wp2_with fail
  exact bodyPost_ret (v := .tuple #[]) (by simp [results, Tryz.results161, go_sem]) rfl ⟨rfl, HB.out⟩

set_option maxHeartbeats 4000000 in
set_option maxRecDepth 100000 in
theorem rbegins_any {w : World} {rb tb cap : Nat} {toks ts : List Tok} {i : Nat} {a e0 : Int} (h : RR w rb tb cap toks ts i a e0) :
    Calls Tryz.prog 152 #[.pointer (some ⟨rb, 0, none⟩)] w fun e w' => e = .returned (.bool (begT ts)) ∧ Below w.heap.size w w' := by
  obtain ⟨c0, c1, c2, c3, f1, f2, f3⟩ := h.facts
  have hi : (i : Int) < (toks.length : Int) := by have := h.lt; omega
  have hi0 : (0 : Int) ≤ (i : Int) := by omega
  obtain ⟨t0, t1, t2⟩ := h.tk.2 i _ h.hd
  have hI : begT ts = ((hd ts).kind == 1 || (hd ts).kind == 2 || (hd ts).kind == 3) := rfl
  clear h f1 f2 f3 c2 c3 t1 t2
  cases h1 : (hd ts).kind == 1 <;> cases h2 : (hd ts).kind == 2 <;> cases h3 : (hd ts).kind == 3
  all_goals
    rw [h1, h2, h3] at hI
    have HI := Lib.hid hI
    clear hI
    generalize (hd ts).kind = k at *
    go_enter Tryz.func152, Tryz.ntmps152
    go_wp2_with fail
    go_region
    go_wp2_with fail
    go_ret
    exact ⟨ret_bool (by rw [HI.out]; try rfl), (Below.refl _ _).drew⟩

end
/- The state inside rest of the reference's reader. -/
section
open Go Go.RowKit
set_option linter.unusedSimpArgs false

/-- the state at the head of compound's loop: r4: the result's block, bo: that of 'out' -/
structure RCt (w0 w : World) (rb tb cap : Nat) (toks : List Tok) (r4 bo : Nat) (nm : List UInt8) (v : Value) (acc : List Tm) (ts : List Tok) : Prop where
  rd : ∃ i, RR w rb tb cap toks ts i 0 0
  le0 : w0.heap.size ≤ r4
  ltr : r4 < bo
  rbl : rb < w0.heap.size
  tbl : tb < w0.heap.size
  out : w.heap[bo]? = some (.cells #[.string (bs nm), v] 25 (0, 0))
  res : ∃ c0 c1, w.heap[r4]? = some (.cells #[c0, c1] 25 (0, 0))
  own : OwnL TmV 25 2 w (bo + 1) v acc
  gr : w0.grownBy w (some rb)

theorem RCt.move {w0 w w' : World} {rb tb cap : Nat} {toks : List Tok} {r4 bo : Nat} {nm : List UInt8} {v : Value} {acc : List Tm} {ts ts' : List Tok} (h : RCt w0 w rb tb cap toks r4 bo nm v acc ts) (hm : RMoved w rb tb cap toks ts' w') :
    RCt w0 w' rb tb cap toks r4 bo nm v acc ts' := by
  obtain ⟨h1, h2, h3, h4, h4', h5, ⟨c0, c1, h6⟩, h7, h8⟩ := h
  exact ⟨hm.1, h2, h3, h4, h4', (hm.2.block bo (heap_lt h5) (by simp; omega)).trans h5, ⟨c0, c1, (hm.2.block r4 (heap_lt h6) (by simp; omega)).trans h6⟩, h7.keep keeps_tm hm.2 (fun k hk => by injection hk; omega), grown_trans h8 hm.2⟩
theorem RCt.facts {w0 w : World} {rb tb cap : Nat} {toks : List Tok} {r4 bo : Nat} {nm : List UInt8} {v : Value} {acc : List Tm} {ts : List Tok} (h : RCt w0 w rb tb cap toks r4 bo nm v acc ts) :
    w.cell? ⟨bo, 0, none⟩ = some (.string (bs nm)) ∧ w.cell? ⟨bo, 1, none⟩ = some v ∧ w.frozen? ⟨bo, 1, none⟩ = false ∧ bo < w.heap.size ∧ r4 < w.heap.size := by
  refine ⟨?_, ?_, ?_, heap_lt h.out, ?_⟩
  · rw [cell_of_row w bo 0 _ _ _ h.out]; rfl
  · rw [cell_of_row w bo 1 _ _ _ h.out]; rfl
  · simp [World.frozen?, h.out]
  · obtain ⟨_, _, h6⟩ := h.res; exact heap_lt h6
theorem RCt.facts4 {w0 w : World} {rb tb cap : Nat} {toks : List Tok} {r4 bo : Nat} {nm : List UInt8} {v : Value} {acc : List Tm} {ts : List Tok} (h : RCt w0 w rb tb cap toks r4 bo nm v acc ts) :
    ∃ c0 c1, w.cell? ⟨r4, 0, none⟩ = some c0 ∧ w.cell? ⟨r4, 1, none⟩ = some c1 ∧ w.frozen? ⟨r4, 0, none⟩ = false ∧ w.frozen? ⟨r4, 1, none⟩ = false := by
  obtain ⟨c0, c1, h6⟩ := h.res
  refine ⟨c0, c1, ?_, ?_, ?_, ?_⟩
  · rw [cell_of_row w r4 0 _ _ _ h6]; rfl
  · rw [cell_of_row w r4 1 _ _ _ h6]; rfl
  · simp [World.frozen?, h6]
  · simp [World.frozen?, h6]
/-- the end: the result is written into its block -/
theorem RCt.fin {w0 w : World} {rb tb cap : Nat} {toks : List Tok} {r4 bo : Nat} {nm : List UInt8} {v : Value} {acc : List Tm} {ts : List Tok} (h : RCt w0 w rb tb cap toks r4 bo nm v acc ts) (u0 u1 : Value) :
    TmV ((w.setCell ⟨r4, 0, none⟩ u0).setCell ⟨r4, 1, none⟩ u1) (fun b => w0.heap.size ≤ b) [.string (bs nm), v] (.mk nm acc) ∧ RMoved w0 rb tb cap toks ts ((w.setCell ⟨r4, 0, none⟩ u0).setCell ⟨r4, 1, none⟩ u1) := by
  have hne : ∀ b, b ≠ r4 → ((w.setCell ⟨r4, 0, none⟩ u0).setCell ⟨r4, 1, none⟩ u1).heap[b]? = w.heap[b]? := fun b hb => by
    rw [Below.heap_setCell _ _ _ _ (by exact hb), Below.heap_setCell _ _ _ _ (by exact hb)]
  have hsz : ((w.setCell ⟨r4, 0, none⟩ u0).setCell ⟨r4, 1, none⟩ u1).heap.size = w.heap.size := by simp
  constructor
  · obtain ⟨A, cp, rfl⟩ := h.own.len
    obtain ⟨xs, h1, h2, h3⟩ := h.own.sl keeps_tm
    exact (TmV.mk nm A cp acc xs h1 h2 h3).keep (fun b hb _ => ⟨by have := h.ltr; have := h.le0; omega, hne b (by have := h.ltr; omega)⟩) (by omega)
  · obtain ⟨i, hi⟩ := h.rd
    have hr4 : rb ≠ r4 := by have := h.rbl; have := h.le0; omega
    have htb : tb ≠ r4 := by have := h.tbl; have := h.le0; omega
    refine ⟨⟨i, hi.lt, hi.ts_, (hne rb hr4).trans hi.blk, hi.tk.keep (hne tb htb) (by omega), hi.ne, hi.big, hi.fin⟩, ⟨?_, ?_, ?_, ?_, ?_⟩⟩
    · exact h.gr.os
    · exact h.gr.tape
    · exact h.gr.output
    · rw [hsz]; exact h.gr.size
    · intro k hk hne2
      rw [hne k (by have := h.le0; omega)]
      exact h.gr.block k hk hne2

/-- one argument more -/
theorem RCt.app {w0 w : World} {rb tb cap : Nat} {toks : List Tok} {r4 bo : Nat} {nm : List UInt8} {v : Value} {acc : List Tm} {ts : List Tok} (h : RCt w0 w rb tb cap toks r4 bo nm v acc ts)
    {B : Nat} {x : List Value} {t : Tm} (hx : TmV w (fun b => B ≤ b) x t) (hB : bo < B) (hv : ∀ k, v.ownBlock = some k → k < B) :
    ∃ xs, w.ownsRow (bo + 1) 25 2 v acc.length xs ∧ ∀ (g cp : Nat) (w6 : World) (o : Obj), w6.ownsRow (bo + 1) 25 2 (.slice (some ⟨g, 0, none⟩) (acc.length + 1) cp) (acc.length + 1) (xs ++ x) →
      (w.alloc o).grownBy w6 v.ownBlock → (v.ownBlock = some g ∨ g = w.heap.size + 1) →
      RCt w0 (w6.setCell ⟨bo, 1, none⟩ (.slice (some ⟨g, 0, none⟩) (acc.length + 1) cp)) rb tb cap toks r4 bo nm (.slice (some ⟨g, 0, none⟩) (acc.length + 1) cp) (acc ++ [t]) ts ∧
      w6.cell? ⟨bo, 1, none⟩ = some v ∧ w6.frozen? ⟨bo, 1, none⟩ = false ∧ bo < w6.heap.size := by
  obtain ⟨xs, h1, h2, h3, h4⟩ := h.own
  refine ⟨xs.flatten, h3, fun g cp w6 o hown hgrow hat => ?_⟩
  have hlt := h3.lt
  have hbo := heap_lt h.out
  obtain ⟨nm', A', cap', l', hxe, hte⟩ := hx.form
  have hpush := OwnL.push keeps_tm h1 h2 h4 (hx.keep (fun b hb _ => ⟨⟨by omega, fun e => by have := hv b e.symm; omega⟩, rfl⟩) (Nat.le_refl _)) (by rw [hxe]; rfl) (wA := w.alloc o) (fun b hb => Below.heap_alloc w o b hb) (by simp) hown hgrow
    (by rcases hat with hat | hat
        · exact .inl hat
        · exact .inr (by omega))
  have hne : ∀ b, b < w.heap.size → v.ownBlock ≠ some b → w6.heap[b]? = w.heap[b]? := fun b hb hn => (hgrow.block b (by simp; omega) (Ne.symm hn)).trans (Below.heap_alloc w o b hb)
  have hnb : v.ownBlock ≠ some bo := fun e => by have := (hlt bo e).1; omega
  have hnr : ∀ b, b < bo → v.ownBlock ≠ some b := fun b hb e => by have := (hlt b e).1; omega
  have hgb : g ≠ bo := by
    rintro rfl
    rcases hat with hat | hat
    · exact hnb hat
    · omega
  have hs6 : w.heap.size ≤ w6.heap.size := by have := hgrow.size; simp at this; omega
  have hout : w6.heap[bo]? = some (.cells #[.string (bs nm), v] 25 (0, 0)) := (hne bo hbo hnb).trans h.out
  have hset : ∀ b, b ≠ bo → (w6.setCell ⟨bo, 1, none⟩ (.slice (some ⟨g, 0, none⟩) (acc.length + 1) cp)).heap[b]? = w6.heap[b]? := fun b hb => Below.heap_setCell _ _ _ _ (by exact hb)
  have hsz7 : (w6.setCell ⟨bo, 1, none⟩ (.slice (some ⟨g, 0, none⟩) (acc.length + 1) cp)).heap.size = w6.heap.size := by simp
  refine ⟨⟨?_, h.le0, h.ltr, h.rbl, h.tbl, ?_, ?_, ?_, ?_⟩, ?_, ?_, heap_lt hout⟩
  · obtain ⟨i, hi⟩ := h.rd
    have hrb := hi.rlt
    have htb := hi.tk.1
    have hb1 := h.rbl
    have hb2 := h.le0
    have hb3 := h.ltr
    have htl := h.tbl
    refine ⟨i, hi.lt, hi.ts_, ?_, hi.tk.keep ?_ (by omega), hi.ne, hi.big, hi.fin⟩
    · rw [hset rb (by omega), hne rb hrb (hnr rb (by omega))]; exact hi.blk
    · rw [hset tb (by omega), hne tb htb (hnr tb (by omega))]
  · simp [World.setCell, Array.getElem?_modify, hout]
  · obtain ⟨c0, c1, h6⟩ := h.res
    exact ⟨c0, c1, by rw [hset r4 (by have := h.ltr; omega), hne r4 (heap_lt h6) (hnr r4 h.ltr)]; exact h6⟩
  · exact hpush.keep keeps_tm (row := some bo) ⟨rfl, rfl, rfl, by omega, fun k _ hk => hset k (fun e => hk (by rw [e]))⟩ (fun k hk => by injection hk; omega)
  · have hg := h.gr
    refine ⟨hgrow.os.trans hg.os, hgrow.tape.trans hg.tape, hgrow.output.trans hg.output, by have := hg.size; omega, fun k hk hne2 => ?_⟩
    have h0 := h.le0
    have h1 := h.ltr
    rw [hset k (by omega), hne k (by have := hg.size; omega) (hnr k (by omega))]
    exact hg.block k hk hne2
  · rw [cell_of_row w6 bo 1 _ _ _ hout]; rfl
  · simp [World.frozen?, hout]


/-- the same, with an error -/
structure RCe (w0 w : World) (rb tb cap : Nat) (toks : List Tok) (r4 bo : Nat) (c0 c1 : Value) (p : Nat) (x : Int) : Prop where
  rd : ∃ ts i, RR w rb tb cap toks ts i p x
  hx : x ≠ 0
  le0 : w0.heap.size ≤ r4
  ltr : r4 < bo
  rbl : rb < w0.heap.size
  tbl : tb < w0.heap.size
  out : w.heap[bo]? = some (.cells #[c0, c1] 25 (0, 0))
  res : ∃ d0 d1, w.heap[r4]? = some (.cells #[d0, d1] 25 (0, 0))
  gr : w0.grownBy w (some rb)
section
variable {w0 w w' : World} {rb tb cap : Nat} {toks : List Tok} {r4 bo : Nat} {c0 c1 : Value} {p : Nat} {x : Int}
theorem RCe.below (h : RCe w0 w rb tb cap toks r4 bo c0 c1 p x) (hb : Below w.heap.size w w') : RCe w0 w' rb tb cap toks r4 bo c0 c1 p x := by
  obtain ⟨ts, i, hi⟩ := h.rd
  obtain ⟨d0, d1, h6⟩ := h.res
  exact ⟨⟨ts, i, hi.below hb⟩, h.hx, h.le0, h.ltr, h.rbl, h.tbl, (hb.block bo (heap_lt h.out)).trans h.out, ⟨d0, d1, (hb.block r4 (heap_lt h6)).trans h6⟩, grown_trans h.gr (grown_of_below hb _)⟩
theorem RCt.err {nm : List UInt8} {v : Value} {acc : List Tm} {ts : List Tok} (h : RCt w0 w rb tb cap toks r4 bo nm v acc ts) (he : RErr w rb tb cap toks p x w') : RCe w0 w' rb tb cap toks r4 bo (.string (bs nm)) v p x := by
  obtain ⟨⟨ts', i, hi⟩, hx, hg⟩ := he
  obtain ⟨d0, d1, h6⟩ := h.res
  have h1 := h.rbl
  have h2 := h.le0
  have h3 := h.ltr
  exact ⟨⟨ts', i, hi⟩, hx, h.le0, h.ltr, h.rbl, h.tbl, (hg.block bo (heap_lt h.out) (by simp; omega)).trans h.out, ⟨d0, d1, (hg.block r4 (heap_lt h6) (by simp; omega)).trans h6⟩, grown_trans h.gr hg⟩
theorem RCe.facts (h : RCe w0 w rb tb cap toks r4 bo c0 c1 p x) :
    w.cell? ⟨bo, 0, none⟩ = some c0 ∧ w.cell? ⟨bo, 1, none⟩ = some c1 ∧ w.frozen? ⟨bo, 1, none⟩ = false ∧ bo < w.heap.size ∧ r4 < w.heap.size ∧ r4 ≠ bo := by
  obtain ⟨a, b, _, c⟩ := cells_two h.out
  obtain ⟨_, _, h6⟩ := h.res
  exact ⟨a, b, c, heap_lt h.out, heap_lt h6, Nat.ne_of_lt h.ltr⟩
theorem RCe.facts4 (h : RCe w0 w rb tb cap toks r4 bo c0 c1 p x) :
    ∃ d0 d1, w.cell? ⟨r4, 0, none⟩ = some d0 ∧ w.cell? ⟨r4, 1, none⟩ = some d1 ∧ w.frozen? ⟨r4, 0, none⟩ = false ∧ w.frozen? ⟨r4, 1, none⟩ = false := by
  obtain ⟨d0, d1, h6⟩ := h.res
  exact ⟨d0, d1, cells_two h6⟩
theorem RCe.fin (h : RCe w0 w rb tb cap toks r4 bo c0 c1 p x) (u0 u1 : Value) : RErr w0 rb tb cap toks p x ((w.setCell ⟨r4, 0, none⟩ u0).setCell ⟨r4, 1, none⟩ u1) := by
  obtain ⟨ts, i, hi⟩ := h.rd
  have h1 := h.rbl
  have h2 := h.le0
  have h3 := h.tbl
  have hg : w.grownBy ((w.setCell ⟨r4, 0, none⟩ u0).setCell ⟨r4, 1, none⟩ u1) (some r4) := grown_trans (grown_set _ _ _ _) (grown_set _ _ _ _)
  refine ⟨⟨ts, i, hi.other hg (by omega) (by omega)⟩, h.hx, ?_⟩
  have hw := h.gr
  have hs := hw.size
  exact ⟨hg.os.trans hw.os, hg.tape.trans hw.tape, hg.output.trans hw.output, Nat.le_trans hs hg.size, fun k hk hn => (hg.block k (by omega) (fun e => by injection e; omega)).trans (hw.block k hk hn)⟩
/-- something is appended all the same -/
theorem RCe.app {n : Nat} {v : Value} {ys : List Value} {x0 : Value} (h : RCe w0 w rb tb cap toks r4 bo x0 v p x) (hrow : w.ownsRow (bo + 1) 25 2 v n ys) (g cp m : Nat) (w6 : World) (o : Obj)
    (hgrow : (w.alloc o).grownBy w6 v.ownBlock) : RCe w0 (w6.setCell ⟨bo, 1, none⟩ (.slice (some ⟨g, 0, none⟩) m cp)) rb tb cap toks r4 bo x0 (.slice (some ⟨g, 0, none⟩) m cp) p x ∧
      w6.cell? ⟨bo, 1, none⟩ = some v ∧ w6.frozen? ⟨bo, 1, none⟩ = false ∧ bo < w6.heap.size := by
  have hlt := hrow.lt
  have h0 := h.le0
  have hl := h.ltr
  have hrb := h.rbl
  have htb := h.tbl
  have hbo := heap_lt h.out
  have hne : ∀ b, b < w.heap.size → v.ownBlock ≠ some b → w6.heap[b]? = w.heap[b]? := fun b hb hn => (hgrow.block b (by simp; omega) (Ne.symm hn)).trans (Below.heap_alloc w o b hb)
  have hnr : ∀ b, b ≤ bo → v.ownBlock ≠ some b := fun b hb e => by have := (hlt b e).1; omega
  have hs6 : w.heap.size ≤ w6.heap.size := by have := hgrow.size; simp at this; omega
  have hout : w6.heap[bo]? = some (.cells #[x0, v] 25 (0, 0)) := (hne bo hbo (hnr bo (Nat.le_refl _))).trans h.out
  have hset : ∀ b, b ≠ bo → (w6.setCell ⟨bo, 1, none⟩ (.slice (some ⟨g, 0, none⟩) m cp)).heap[b]? = w6.heap[b]? := fun b hb => Below.heap_setCell _ _ _ _ (by exact hb)
  have hsz7 : (w6.setCell ⟨bo, 1, none⟩ (.slice (some ⟨g, 0, none⟩) m cp)).heap.size = w6.heap.size := by simp
  obtain ⟨ts, i, hi⟩ := h.rd
  obtain ⟨d0, d1, h6⟩ := h.res
  obtain ⟨q0, q1, _, q3⟩ := cells_two hout
  refine ⟨⟨⟨ts, i, hi.lt, hi.ts_, ?_, hi.tk.keep ?_ (by omega), hi.ne, hi.big, hi.fin⟩, h.hx, h.le0, h.ltr, h.rbl, h.tbl, ?_, ⟨d0, d1, ?_⟩, ?_⟩, q1, q3, heap_lt hout⟩
  · rw [hset rb (by omega), hne rb hi.rlt (hnr rb (by omega))]; exact hi.blk
  · rw [hset tb (by omega), hne tb hi.tk.1 (hnr tb (by omega))]
  · simp [World.setCell, Array.getElem?_modify, hout]
  · rw [hset r4 (by omega), hne r4 (heap_lt h6) (hnr r4 (by omega))]; exact h6
  · have hg := h.gr
    refine ⟨hgrow.os.trans hg.os, hgrow.tape.trans hg.tape, hgrow.output.trans hg.output, by have := hg.size; omega, fun k hk hne2 => ?_⟩
    rw [hset k (by omega), hne k (by have := hg.size; omega) (hnr k (by omega))]
    exact hg.block k hk hne2
end

/-- what reading a term leaves -/
def RTPost (w : World) (rb tb cap : Nat) (toks : List Tok) (r : PR Tm) (e : Ending) (w' : World) : Prop :=
  match r with
  | .ok t rest => ∃ x : List Value, e = .returned (.agg x.toArray) ∧ TmV w' (fun b => w.heap.size ≤ b) x t ∧ RMoved w rb tb cap toks rest w'
  | .err p k => ∃ (nm : ByteArray) (A : Option Addr) (n cp : Nat), e = .returned (.agg #[.string nm, .slice A n cp]) ∧ RErr w rb tb cap toks p k w'

end
end Go.Proofs.YtmplpbdldcokjaaGreatDoor
