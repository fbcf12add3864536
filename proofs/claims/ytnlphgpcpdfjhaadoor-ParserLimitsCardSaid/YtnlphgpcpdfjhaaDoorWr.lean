/- The reader of gameplayerref05: its state and its small walks. -/
import Derived.Test.YtnlphgpcpdfjhaaDoorPr
namespace Go.Proofs.YtnlphgpcpdfjhaaDoor
open Go Go.RowKit
set_option linter.unusedSimpArgs false

/-- the reference's reader in block rb stands before the tokens ts; at and e are its error -/
structure RR (w : World) (rb tb cap : Nat) (toks ts : List Tok) (i : Nat) (at_ e : Int) : Prop where
  lt : i < toks.length
  ts_ : toks.drop i = ts
  blk : w.heap[rb]? = some (.cells #[.slice (some ⟨tb, 0, none⟩) toks.length cap, .int .i64 i, .int .i64 at_, .int .i64 e] 59 (0, 0))
  tk : Tk w tb toks
  ne : tb ≠ rb
  big : toks.length < 20000
  fin : EndL ts

section
variable {w w' : World} {rb tb cap : Nat} {toks ts : List Tok} {i : Nat} {at_ e : Int}
theorem RR.rlt (h : RR w rb tb cap toks ts i at_ e) : rb < w.heap.size := heap_lt h.blk
theorem RR.hd (h : RR w rb tb cap toks ts i at_ e) : toks[i]? = some (hd ts) := by
  have h1 := h.ts_
  rw [List.drop_eq_getElem_cons h.lt] at h1
  rw [← h1, List.getElem?_eq_getElem h.lt]
  rfl
theorem RR.below (h : RR w rb tb cap toks ts i at_ e) (hb : Below w.heap.size w w') : RR w' rb tb cap toks ts i at_ e :=
  ⟨h.lt, h.ts_, (hb.block rb h.rlt).trans h.blk, h.tk.keep (hb.block tb h.tk.1) hb.size, h.ne, h.big, h.fin⟩
theorem RR.other (h : RR w rb tb cap toks ts i at_ e) {q : Nat} (hg : w.grownBy w' (some q)) (h1 : q ≠ rb) (h2 : q ≠ tb) : RR w' rb tb cap toks ts i at_ e :=
  ⟨h.lt, h.ts_, (hg.block _ h.rlt (fun e => h1 (by injection e with e; exact e.symm))).trans h.blk, h.tk.keep (hg.block _ h.tk.1 (fun e => h2 (by injection e with e; exact e.symm))) hg.size, h.ne, h.big, h.fin⟩
theorem RR.facts (h : RR w rb tb cap toks ts i at_ e) :
    w.cell? ⟨rb, 0, none⟩ = some (.slice (some ⟨tb, 0, none⟩) toks.length cap) ∧ w.cell? ⟨rb, 1, none⟩ = some (.int .i64 i) ∧ w.cell? ⟨rb, 2, none⟩ = some (.int .i64 at_) ∧ w.cell? ⟨rb, 3, none⟩ = some (.int .i64 e) ∧
    w.frozen? ⟨rb, 1, none⟩ = false ∧ w.frozen? ⟨rb, 2, none⟩ = false ∧ w.frozen? ⟨rb, 3, none⟩ = false := by
  refine ⟨?_, ?_, ?_, ?_, ?_, ?_, ?_⟩
  · rw [cell_of_row w rb 0 _ _ _ h.blk]; rfl
  · rw [cell_of_row w rb 1 _ _ _ h.blk]; rfl
  · rw [cell_of_row w rb 2 _ _ _ h.blk]; rfl
  · rw [cell_of_row w rb 3 _ _ _ h.blk]; rfl
  · simp [World.frozen?, h.blk]
  · simp [World.frozen?, h.blk]
  · simp [World.frozen?, h.blk]
theorem RR.step (h : RR w rb tb cap toks ts i at_ e) (hk : (Go.Proofs.YtnlphgpcpdfjhaaDoor.hd ts).kind ≠ 0) :
    RR (w.setCell ⟨rb, 1, none⟩ (.int .i64 (i + 1 : Nat))) rb tb cap toks ts.tail (i + 1) at_ e := by
  have hf := h.fin.hdtail hk
  have hlen := h.lt
  have hts := h.ts_
  have htail : toks.drop (i + 1) = ts.tail := by rw [← hts, List.tail_drop]
  have hlt : i + 1 < toks.length := by
    rcases Nat.lt_or_ge (i + 1) toks.length with h1 | h1
    · exact h1
    · rw [← htail, List.drop_eq_nil_of_le h1] at hf
      exact hf.elim
  refine ⟨hlt, htail, ?_, h.tk.keep (Below.heap_setCell _ _ _ _ h.ne) (by simp), h.ne, h.big, hf⟩
  simp [World.setCell, Array.getElem?_modify, h.blk]
theorem RR.err (h : RR w rb tb cap toks ts i at_ e) (p x : Int) : RR ((w.setCell ⟨rb, 2, none⟩ (.int .i64 p)).setCell ⟨rb, 3, none⟩ (.int .i64 x)) rb tb cap toks ts i p x := by
  refine ⟨h.lt, h.ts_, ?_, h.tk.keep ((Below.heap_setCell _ _ _ _ h.ne).trans (Below.heap_setCell _ _ _ _ h.ne)) (by simp), h.ne, h.big, h.fin⟩
  simp [World.setCell, Array.getElem?_modify, h.blk]
end

/-- what a step of the reference leaves: it stands before ts', or there is an error -/
def RMoved (w : World) (rb tb cap : Nat) (toks ts' : List Tok) (w' : World) : Prop := (∃ i, RR w' rb tb cap toks ts' i 0 0) ∧ w.grownBy w' (some rb)
def RErr (w : World) (rb tb cap : Nat) (toks : List Tok) (p : Nat) (x : Int) (w' : World) : Prop := (∃ ts' i, RR w' rb tb cap toks ts' i p x) ∧ x ≠ 0 ∧ w.grownBy w' (some rb)

set_option maxHeartbeats 2000000 in
set_option maxRecDepth 100000 in
theorem rfail_ok {w : World} {rb tb cap : Nat} {toks ts : List Tok} {i : Nat} {a : Int} (h : RR w rb tb cap toks ts i a 0) (x : Int) (hx : x ≠ 0) :
    Calls Tryd.prog 30 #[.pointer (some ⟨rb, 0, none⟩), .int .i64 x] w fun e w' => e = .returned (.tuple #[]) ∧ RErr w rb tb cap toks (hd ts).pos x w' := by
  obtain ⟨c0, c1, c2, c3, f1, f2, f3⟩ := h.facts
  have hi : (i : Int) < (toks.length : Int) := by have := h.lt; omega
  have hi0 : (0 : Int) ≤ (i : Int) := by omega
  obtain ⟨t0, t1, t2⟩ := h.tk.2 i _ h.hd
  have hne := h.ne
  have hne' := Ne.symm h.ne
  have HR := Lib.hid h
  clear h
  go_enter Tryd.func30, Tryd.ntmps30
  go_wp2_with fail
  go_region
  go_wp2_with fail
  go_end0
  refine ⟨rfl, ⟨ts, i, ?_⟩, hx, ?_⟩
  · have h1 := (HR.out.below (Below.refl _ _).drew).err (hd ts).pos x
    exact h1
  · exact grown_trans (grown_of_below (Below.refl _ _).drew _) (grown_trans (grown_set _ _ _ _) (grown_set _ _ _ _))

set_option maxHeartbeats 2000000 in
set_option maxRecDepth 100000 in
theorem rfail_no {w : World} {rb tb cap : Nat} {toks ts : List Tok} {i : Nat} {a k : Int} (h : RR w rb tb cap toks ts i a k) (hk : k ≠ 0) (x : Int) :
    Calls Tryd.prog 30 #[.pointer (some ⟨rb, 0, none⟩), .int .i64 x] w fun e w' => e = .returned (.tuple #[]) ∧ w' = w := by
  obtain ⟨c0, c1, c2, c3, f1, f2, f3⟩ := h.facts
  have hk0 : (k == 0) = false := beq_eq_false_iff_ne.2 hk
  clear h
  go_enter Tryd.func30, Tryd.ntmps30
  go_wp2_with fail
  go_end0
  exact ⟨rfl, rfl⟩

set_option maxHeartbeats 4000000 in
set_option maxRecDepth 100000 in
theorem ris_any {w : World} {rb tb cap : Nat} {toks ts : List Tok} {i : Nat} {a e0 : Int} (h : RR w rb tb cap toks ts i a e0) (s : List UInt8) :
    Calls Tryd.prog 41 #[.pointer (some ⟨rb, 0, none⟩), .string (bs s)] w fun e w' => e = .returned (.bool (e0 == 0 && isT ts s)) ∧ Below w.heap.size w w' := by
  obtain ⟨c0, c1, c2, c3, f1, f2, f3⟩ := h.facts
  have hi : (i : Int) < (toks.length : Int) := by have := h.lt; omega
  have hi0 : (0 : Int) ≤ (i : Int) := by omega
  obtain ⟨t0, t1, t2⟩ := h.tk.2 i _ h.hd
  have hrl := h.rlt
  have htl := h.tk.1
  have hI : isT ts s = (((hd ts).kind == 4 || (hd ts).kind == 5) && ((bs (hd ts).text).toList == (bs s).toList)) := by rw [bsList, bsList]; rfl
  clear h f1 f2 f3
  cases h0 : e0 == 0 <;> cases h4 : (hd ts).kind == 4 <;> cases h5 : (hd ts).kind == 5 <;> cases hs : ((bs (hd ts).text).toList == (bs s).toList)
  all_goals
    rw [h4, h5, hs] at hI
    have HI := Lib.hid hI
    clear hI
    generalize (hd ts).kind = k at *
    generalize (hd ts).text = x at *
    generalize (hd ts).pos = p at *
    go_enter Tryd.func41, Tryd.ntmps41
    go_wp2_with fail
    go_region
    go_wp2_with fail
    go_ret
    refine ⟨ret_bool (by rw [HI.out]; try rfl), ?_⟩
    exact ((Below.refl _ _).alloc (Nat.le_refl _) _).drew

theorem RErr.below {w w1 w2 : World} {rb tb cap : Nat} {toks : List Tok} {p : Nat} {x : Int} (h : RErr w rb tb cap toks p x w1) (hb : Below w1.heap.size w1 w2) : RErr w rb tb cap toks p x w2 := by
  obtain ⟨⟨ts', i, h1⟩, h2, h3⟩ := h
  exact ⟨⟨ts', i, h1.below hb⟩, h2, grown_trans h3 (grown_of_below hb _)⟩
theorem RErr.pre {w w1 w2 : World} {rb tb cap : Nat} {toks : List Tok} {p : Nat} {x : Int} (hg : w.grownBy w1 (some rb)) (h : RErr w1 rb tb cap toks p x w2) : RErr w rb tb cap toks p x w2 :=
  ⟨h.1, h.2.1, grown_trans hg h.2.2⟩

set_option maxHeartbeats 2000000 in
set_option maxRecDepth 100000 in
theorem rskip_ok {w : World} {rb tb cap : Nat} {toks ts : List Tok} {i : Nat} (h : RR w rb tb cap toks ts i 0 0) (s : List UInt8) :
    Calls Tryd.prog 51 #[.pointer (some ⟨rb, 0, none⟩), .string (bs s)] w fun e w' => e = .returned (.tuple #[]) ∧
      if isT ts s then RMoved w rb tb cap toks ts.tail w' else RErr w rb tb cap toks (hd ts).pos 1 w' := by
  have HI := Lib.hid (ris_any h s)
  have HR := Lib.hid h
  have hsm : (i : Int) < 20000 := by have := h.lt; have := h.big; omega
  clear h
  cases hI : isT ts s with
  | true =>
    rw [hI] at HI
    have HK := Lib.hid (isT_kind hI)
    clear hI
    go_enter Tryd.func51, Tryd.ntmps51
    go_wp2_with fail
    refine HI.out.mono ?_
    rintro e w1 ⟨rfl, hb⟩
    have HR1 := Lib.hid (HR.out.below hb)
    have HB := Lib.hid hb
    obtain ⟨c0, c1, c2, c3, f1, f2, f3⟩ := HR1.out.facts
    clear hb HI HR
    go_wp2_with fail
    rw [show ((i : Int) + 1) = ((i + 1 : Nat) : Int) from by omega]
    go_end0
    exact ⟨rfl, ⟨_, HR1.out.step HK.out⟩, grown_trans (grown_of_below HB.out _) (grown_set _ _ _ _)⟩
  | false =>
    rw [hI] at HI
    clear hI
    go_enter Tryd.func51, Tryd.ntmps51
    go_wp2_with fail
    refine HI.out.mono ?_
    rintro e w1 ⟨rfl, hb⟩
    have HR1 := Lib.hid (HR.out.below hb)
    have HB := Lib.hid hb
    clear hb HI HR
    go_wp2_with fail
    refine (rfail_ok HR1.out 1 (by decide)).mono ?_
    rintro e w2 ⟨rfl, he⟩
    have HE := Lib.hid he
    clear he
    go_wp2_with fail
    exact bodyPost_ret (v := .tuple #[]) (by simp [results, Tryd.results51, go_sem]) rfl ⟨rfl, HE.out.pre (grown_of_below HB.out _)⟩

set_option maxHeartbeats 2000000 in
set_option maxRecDepth 100000 in
theorem rskip_no {w : World} {rb tb cap : Nat} {toks ts : List Tok} {i : Nat} {a k : Int} (h : RR w rb tb cap toks ts i a k) (hk : k ≠ 0) (s : List UInt8) :
    Calls Tryd.prog 51 #[.pointer (some ⟨rb, 0, none⟩), .string (bs s)] w fun e w' => e = .returned (.tuple #[]) ∧ Below w.heap.size w w' := by
  have HI := Lib.hid (ris_any h s)
  rw [show (k == 0 && isT ts s) = false from by rw [beq_eq_false_iff_ne.2 hk]; rfl] at HI
  have HR := Lib.hid h
  have HK := Lib.hid hk
  clear h hk
  go_enter Tryd.func51, Tryd.ntmps51
  go_wp2_with fail
  refine HI.out.mono ?_
  rintro e w1 ⟨rfl, hb⟩
  have HR1 := Lib.hid (HR.out.below hb)
  have HB := Lib.hid hb
  clear hb HI HR
  go_wp2_with fail
  refine (rfail_no HR1.out HK.out 1).mono ?_
  rintro e w2 ⟨rfl, rfl⟩
  go_wp2_with fail
  exact bodyPost_ret (v := .tuple #[]) (by simp [results, Tryd.results51, go_sem]) rfl ⟨rfl, HB.out⟩

set_option maxHeartbeats 4000000 in
set_option maxRecDepth 100000 in
theorem rbegins_any {w : World} {rb tb cap : Nat} {toks ts : List Tok} {i : Nat} {a e0 : Int} (h : RR w rb tb cap toks ts i a e0) :
    Calls Tryd.prog 59 #[.pointer (some ⟨rb, 0, none⟩)] w fun e w' => e = .returned (.bool (begT ts)) ∧ Below w.heap.size w w' := by
  obtain ⟨c0, c1, c2, c3, f1, f2, f3⟩ := h.facts
  have hi : (i : Int) < (toks.length : Int) := by have := h.lt; omega
  have hi0 : (0 : Int) ≤ (i : Int) := by omega
  obtain ⟨t0, t1, t2⟩ := h.tk.2 i _ h.hd
  have hI : begT ts = ((hd ts).kind == 1 || (hd ts).kind == 2 || (hd ts).kind == 3) := rfl
  clear h f1 f2 f3 c2 c3 t1 t2
  cases h1 : (hd ts).kind == 1 <;> cases h2 : (hd ts).kind == 2 <;> cases h3 : (hd ts).kind == 3
  all_goals
    rw [h1, h2, h3] at hI
    have HI := Lib.hid hI
    clear hI
    generalize (hd ts).kind = k at *
    go_enter Tryd.func59, Tryd.ntmps59
    go_wp2_with fail
    go_region
    go_wp2_with fail
    go_ret
    exact ⟨ret_bool (by rw [HI.out]; try rfl), (Below.refl _ _).drew⟩
end Go.Proofs.YtnlphgpcpdfjhaaDoor
