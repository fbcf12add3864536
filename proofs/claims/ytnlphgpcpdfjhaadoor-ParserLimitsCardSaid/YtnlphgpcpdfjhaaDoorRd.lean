/- The parser's reader: its two cells, the tokens; the walks of token, fail, is, accept, begins, expect. -/
import Derived.Test.YtnlphgpcpdfjhaaDoorPm
import Derived.Test.YtnlphgpcpdfjhaaDoorAd
import Derived.Deep.QuietTactic
import Derived.BigQuiet
namespace Go.Proofs.YtnlphgpcpdfjhaaDoor
open Go Go.RowKit

/-- block tb holds the tokens -/
def Tk (w : World) (tb : Nat) (toks : List Tok) : Prop :=
  tb < w.heap.size ∧ ∀ (i : Nat) (t : Tok), toks[i]? = some t → w.cell? ⟨tb, i * 3, none⟩ = some (.int .i64 t.kind) ∧ w.cell? ⟨tb, i * 3 + 1, none⟩ = some (.string (bs t.text)) ∧ w.cell? ⟨tb, i * 3 + 2, none⟩ = some (.int .i64 t.pos)
theorem Tk.keep {w w' : World} {tb : Nat} {toks : List Tok} (h : Tk w tb toks) (hb : w'.heap[tb]? = w.heap[tb]?) (hs : w.heap.size ≤ w'.heap.size) : Tk w' tb toks := by
  refine ⟨Nat.lt_of_lt_of_le h.1 hs, fun i t ht => ?_⟩
  obtain ⟨h1, h2, h3⟩ := h.2 i t ht
  refine ⟨?_, ?_, ?_⟩ <;> (rw [World.cell?_of_block (by exact hb)]; assumption)
theorem tokCells_get (toks : List Tok) : ∀ (i : Nat) (t : Tok), toks[i]? = some t → (toksCells toks)[i * 3]? = some (.int .i64 t.kind) ∧ (toksCells toks)[i * 3 + 1]? = some (.string (bs t.text)) ∧ (toksCells toks)[i * 3 + 2]? = some (.int .i64 t.pos) := by
  induction toks with
  | nil => intro i t h; simp at h
  | cons a l ih =>
    intro i t h
    cases i with
    | zero => simp at h; subst h; exact ⟨rfl, rfl, rfl⟩
    | succ i =>
      have := ih i t (by simpa using h)
      have e : ∀ m, (toksCells (a :: l))[(i + 1) * 3 + m]? = (toksCells l)[i * 3 + m]? := fun m => by
        rw [show toksCells (a :: l) = tokCells a ++ toksCells l from rfl, List.getElem?_append_right (by simp [tokCells]; omega)]
        congr 1
        simp [tokCells]; omega
      exact ⟨(e 0).trans this.1, (e 1).trans this.2.1, (e 2).trans this.2.2⟩
theorem Tk.of_own {w : World} {base g n cap : Nat} {toks : List Tok} (h : w.ownsRow base 61 3 (.slice (some ⟨g, 0, none⟩) n cap) n (toksCells toks)) (hn : 0 < n) : Tk w g toks := by
  obtain ⟨g', cp, hv, hb, hlt⟩ := h.form hn
  have hg : g = g' := by injection hv with hv; injection hv with hv; injection hv
  subst hg
  have hc := h.cells (g := g) rfl
  have hadd : ∀ j, (⟨g, 0, none⟩ : Addr).add j = ⟨g, j, none⟩ := fun j => by unfold Addr.add; split <;> simp_all
  refine ⟨hlt, fun i t ht => ?_⟩
  obtain ⟨h1, h2, h3⟩ := tokCells_get toks i t ht
  exact ⟨by rw [← hadd]; exact hc _ _ h1, by rw [← hadd]; exact hc _ _ h2, by rw [← hadd]; exact hc _ _ h3⟩

/-- the reader in block rb stands before the tokens ts -/
structure Rd (w : World) (rb tb cap : Nat) (toks ts : List Tok) (i : Nat) : Prop where
  lt : i < toks.length
  ts_ : toks.drop i = ts
  blk : w.heap[rb]? = some (.cells #[.slice (some ⟨tb, 0, none⟩) toks.length cap, .int .i64 i] 78 (0, 0))
  tk : Tk w tb toks
  ne : tb ≠ rb
  big : toks.length < 20000
  fin : EndL ts

theorem heap_lt {w : World} {b : Nat} {o : Obj} (h : w.heap[b]? = some o) : b < w.heap.size := (Array.getElem?_eq_some_iff.1 h).1
theorem Rd.rlt {w : World} {rb tb cap : Nat} {toks ts : List Tok} {i : Nat} (h : Rd w rb tb cap toks ts i) : rb < w.heap.size := heap_lt h.blk
theorem Rd.below {w w' : World} {rb tb cap : Nat} {toks ts : List Tok} {i : Nat} (h : Rd w rb tb cap toks ts i) (hb : Below w.heap.size w w') : Rd w' rb tb cap toks ts i :=
  ⟨h.lt, h.ts_, (hb.block rb h.rlt).trans h.blk, h.tk.keep (hb.block tb h.tk.1) hb.size, h.ne, h.big, h.fin⟩
theorem Rd.c0 {w : World} {rb tb cap : Nat} {toks ts : List Tok} {i : Nat} (h : Rd w rb tb cap toks ts i) : w.cell? ⟨rb, 0, none⟩ = some (.slice (some ⟨tb, 0, none⟩) toks.length cap) := by
  rw [cell_of_row w rb 0 _ _ _ h.blk]; rfl
theorem Rd.c1 {w : World} {rb tb cap : Nat} {toks ts : List Tok} {i : Nat} (h : Rd w rb tb cap toks ts i) : w.cell? ⟨rb, 1, none⟩ = some (.int .i64 i) := by
  rw [cell_of_row w rb 1 _ _ _ h.blk]; rfl
theorem Rd.f1 {w : World} {rb tb cap : Nat} {toks ts : List Tok} {i : Nat} (h : Rd w rb tb cap toks ts i) : w.frozen? ⟨rb, 1, none⟩ = false := by
  simp [World.frozen?, h.blk]
theorem Rd.hd {w : World} {rb tb cap : Nat} {toks ts : List Tok} {i : Nat} (h : Rd w rb tb cap toks ts i) : toks[i]? = some (hd ts) := by
  have h1 := h.ts_
  rw [List.drop_eq_getElem_cons h.lt] at h1
  rw [← h1, List.getElem?_eq_getElem h.lt]
  rfl
theorem Rd.step {w : World} {rb tb cap : Nat} {toks ts : List Tok} {i : Nat} (h : Rd w rb tb cap toks ts i) (hk : (Go.Proofs.YtnlphgpcpdfjhaaDoor.hd ts).kind ≠ 0) :
    Rd (w.setCell ⟨rb, 1, none⟩ (.int .i64 (i + 1 : Nat))) rb tb cap toks ts.tail (i + 1) ∧ w.grownBy (w.setCell ⟨rb, 1, none⟩ (.int .i64 (i + 1 : Nat))) (some rb) := by
  have hf := h.fin.hdtail hk
  have ht : toks.drop (i + 1) = ts.tail := by rw [← h.ts_, List.tail_drop]
  have hl : i + 1 < toks.length := by
    rcases Nat.lt_or_ge (i + 1) toks.length with h1 | h1
    · exact h1
    · rw [List.drop_eq_nil_of_le h1] at ht
      rw [← ht] at hf
      exact hf.elim
  refine ⟨⟨hl, ht, ?_, h.tk.keep (Below.heap_setCell _ _ _ _ h.ne) (by simp [World.setCell]), h.ne, h.big, hf⟩, ⟨rfl, rfl, rfl, by simp [World.setCell], fun k _ hk => Below.heap_setCell _ _ _ _ (fun e => hk (by rw [e]))⟩⟩
  simp [World.setCell, Array.getElem?_modify, h.blk]

theorem grown_refl (w : World) (row : Option Nat) : w.grownBy w row := World.grownBy.refl w row
theorem grown_trans {a b c : World} {row : Option Nat} (h : a.grownBy b row) (k : b.grownBy c row) : a.grownBy c row :=
  ⟨k.os.trans h.os, k.tape.trans h.tape, k.output.trans h.output, Nat.le_trans h.size k.size, fun i hi hne => (k.block i (Nat.lt_of_lt_of_le hi h.size) hne).trans (h.block i hi hne)⟩
theorem grown_of_below {a w : World} (h : Below a.heap.size a w) (row : Option Nat) : a.grownBy w row := ⟨h.os, h.tape, h.output, h.size, fun i hi _ => h.block i hi⟩
theorem Rd.grown_rb {w w' : World} {rb tb cap : Nat} {toks ts : List Tok} {i : Nat} (h : Rd w rb tb cap toks ts i) (hg : w.grownBy w' (some rb)) : rb < w'.heap.size := Nat.lt_of_lt_of_le h.rlt hg.size

set_option maxHeartbeats 400000 in
theorem token_any {w : World} {rb tb cap : Nat} {toks ts : List Tok} {i : Nat} (h : Rd w rb tb cap toks ts i) :
    Calls Tryd.prog 46 #[.pointer (some ⟨rb, 0, none⟩)] w fun e w' => e = .returned (.agg #[.int .i64 (hd ts).kind, .string (bs (hd ts).text), .int .i64 (hd ts).pos]) ∧ Below w.heap.size w w' := by
  have hrb := h.rlt
  have htb := h.tk.1
  have h0 := h.c0
  have h1 := h.c1
  have hi : (i : Int) < (toks.length : Int) := by have := h.lt; omega
  have hi0 : (0 : Int) ≤ (i : Int) := by omega
  obtain ⟨c0, c1, c2⟩ := h.tk.2 i _ h.hd
  clear h
  generalize (hd ts).kind = k at *
  generalize (hd ts).text = x at *
  generalize (hd ts).pos = p at *
  go_enter Tryd.func46, Tryd.ntmps46
  go_wp2_with fail
  go_region
  go_wp2_with fail
  refine bodyPost_ret (v := .agg #[.int .i64 k, .string (bs x), .int .i64 p]) (by simp [results, Tryd.results46, go_sem]) rfl ⟨rfl, ((Below.refl _ _).alloc (Nat.le_refl _) _).drew⟩

theorem fld0 (k p : Int) (s : ByteArray) (w : World) : (Instr.field 61 (.agg #[.int .i64 k, .string s, .int .i64 p]) 0).run Tryd.prog w = .ok (.int .i64 k) w := by kernel_rfl
theorem fld1 (k p : Int) (s : ByteArray) (w : World) : (Instr.field 61 (.agg #[.int .i64 k, .string s, .int .i64 p]) 1).run Tryd.prog w = .ok (.string s) w := by kernel_rfl
theorem fld2 (k p : Int) (s : ByteArray) (w : World) : (Instr.field 61 (.agg #[.int .i64 k, .string s, .int .i64 p]) 2).run Tryd.prog w = .ok (.int .i64 p) w := by kernel_rfl

/-- a panic with a violation -/
def Viol (p : Nat) (x : Int) : Ending := .panicked [{ v := .iface 75 (.agg #[.int .i64 p, .int .i64 x]), recovered := false }]

set_option maxHeartbeats 400000 in
set_option maxRecDepth 100000 in
theorem fail_any {w : World} {rb tb cap : Nat} {toks ts : List Tok} {i : Nat} (h : Rd w rb tb cap toks ts i) (x : Int) :
    Calls Tryd.prog 47 #[.pointer (some ⟨rb, 0, none⟩), .int .i64 x] w fun e w' => e = Viol (hd ts).pos x ∧ Below w.heap.size w w' := by
  have HT := Lib.hid (token_any h)
  have f2 := fld2
  go_enter Tryd.func47, Tryd.ntmps47
  go_wp2_with fail
  refine HT.out.mono ?_
  rintro e w1 ⟨rfl, hb⟩
  go_wp2_with fail
  exact ⟨rfl, rfl, hb⟩

theorem bsList (l : List UInt8) : (bs l).toList = l := by rw [ByteArray.toList_eq, toList_bs]

set_option maxHeartbeats 1000000 in
set_option maxRecDepth 100000 in
theorem is_any {w : World} {rb tb cap : Nat} {toks ts : List Tok} {i : Nat} (h : Rd w rb tb cap toks ts i) (s : List UInt8) :
    Calls Tryd.prog 76 #[.pointer (some ⟨rb, 0, none⟩), .string (bs s)] w fun e w' => e = .returned (.bool (isT ts s)) ∧ Below w.heap.size w w' := by
  have HT := Lib.hid (token_any h)
  have hI : isT ts s = (((hd ts).kind == 4 || (hd ts).kind == 5) && ((bs (hd ts).text).toList == (bs s).toList)) := by rw [bsList, bsList]; rfl
  cases h4 : (hd ts).kind == 4 <;> cases h5 : (hd ts).kind == 5 <;> cases hs : ((bs (hd ts).text).toList == (bs s).toList)
  all_goals
    rw [h4, h5, hs] at hI
    have HI := Lib.hid hI
    clear hI
    generalize (hd ts).kind = k at *
    go_enter Tryd.func76, Tryd.ntmps76
    go_wp2_with fail
    refine HT.out.mono ?_
    rintro e w1 ⟨rfl, hb⟩
    have HB : Hid (Below w.heap.size w w1) := hb
    clear hb
    go_wp2_with fail
    go_ret
    exact ⟨ret_bool (by rw [HI.out]; try rfl), HB.out.alloc HB.out.size _⟩

/-- the reader moved on by a token -/
def Moved (w : World) (rb tb cap : Nat) (toks ts : List Tok) (w' : World) : Prop := (∃ i, Rd w' rb tb cap toks ts i) ∧ w.grownBy w' (some rb)
theorem Moved.trans {a b c : World} {rb tb cap : Nat} {toks ts ts' : List Tok} (h : Moved a rb tb cap toks ts b) (k : Moved b rb tb cap toks ts' c) : Moved a rb tb cap toks ts' c := ⟨k.1, grown_trans h.2 k.2⟩
theorem Moved.below {a b c : World} {rb tb cap : Nat} {toks ts : List Tok} (h : Moved a rb tb cap toks ts b) (k : Below b.heap.size b c) : Moved a rb tb cap toks ts c := by
  obtain ⟨⟨i, hi⟩, hg⟩ := h
  exact ⟨⟨i, hi.below k⟩, grown_trans hg (grown_of_below k _)⟩

set_option maxHeartbeats 1000000 in
set_option maxRecDepth 100000 in
theorem accept_any {w : World} {rb tb cap : Nat} {toks ts : List Tok} {i : Nat} (h : Rd w rb tb cap toks ts i) (s : List UInt8) :
    Calls Tryd.prog 54 #[.pointer (some ⟨rb, 0, none⟩), .string (bs s)] w fun e w' => e = .returned (.bool (isT ts s)) ∧ Moved w rb tb cap toks (if isT ts s then ts.tail else ts) w' := by
  have HT := Lib.hid (is_any h s)
  cases hI : isT ts s with
  | false =>
    rw [hI] at HT
    have HR := Lib.hid h
    clear h hI
    go_enter Tryd.func54, Tryd.ntmps54
    go_wp2_with fail
    refine HT.out.mono ?_
    rintro e w1 ⟨rfl, hb⟩
    have HB := Lib.hid hb
    clear hb
    go_wp2_with fail
    go_ret
    exact ⟨rfl, ⟨i, HR.out.below HB.out⟩, grown_of_below HB.out _⟩
  | true =>
    rw [hI] at HT
    have hk := Lib.hid (isT_kind hI)
    have HR := Lib.hid h
    have hsm : (i : Int) < 20000 := by have := h.lt; have := h.big; omega
    clear h hI
    go_enter Tryd.func54, Tryd.ntmps54
    go_wp2_with fail
    refine HT.out.mono ?_
    rintro e w1 ⟨rfl, hb⟩
    have HR1 := Lib.hid (HR.out.below hb)
    have HB := Lib.hid hb
    have c1 := HR1.out.c1
    have f1 := HR1.out.f1
    clear hb
    go_wp2_with fail
    go_ret
    have := HR1.out.step hk.out
    exact ⟨rfl, ⟨i + 1, this.1⟩, grown_trans (grown_of_below HB.out _) this.2⟩

set_option maxHeartbeats 1000000 in
set_option maxRecDepth 100000 in
theorem begins_any {w : World} {rb tb cap : Nat} {toks ts : List Tok} {i : Nat} (h : Rd w rb tb cap toks ts i) :
    Calls Tryd.prog 77 #[.pointer (some ⟨rb, 0, none⟩)] w fun e w' => e = .returned (.bool (begT ts)) ∧ Below w.heap.size w w' := by
  have HT := Lib.hid (token_any h)
  have f0 := fld0
  have hI : begT ts = ((hd ts).kind == 1 || (hd ts).kind == 2 || (hd ts).kind == 3) := rfl
  cases h1 : (hd ts).kind == 1 <;> cases h2 : (hd ts).kind == 2 <;> cases h3 : (hd ts).kind == 3
  all_goals
    rw [h1, h2, h3] at hI
    have HI := Lib.hid hI
    clear hI
    generalize (hd ts).kind = k at *
    go_enter Tryd.func77, Tryd.ntmps77
    go_wp2_with fail
    refine HT.out.mono ?_
    rintro e w1 ⟨rfl, hb⟩
    have HB : Hid (Below w.heap.size w w1) := hb
    clear hb
    go_wp2_with fail
    go_ret
    exact ⟨ret_bool (by rw [HI.out]; try rfl), HB.out⟩

set_option maxHeartbeats 1000000 in
set_option maxRecDepth 100000 in
theorem expect_any {w : World} {rb tb cap : Nat} {toks ts : List Tok} {i : Nat} (h : Rd w rb tb cap toks ts i) (s : List UInt8) :
    Calls Tryd.prog 56 #[.pointer (some ⟨rb, 0, none⟩), .string (bs s)] w fun e w' =>
      if isT ts s then (e = .returned (.tuple #[]) ∧ Moved w rb tb cap toks ts.tail w') else (e = Viol (hd ts).pos 1 ∧ w.grownBy w' (some rb)) := by
  have HT := Lib.hid (accept_any h s)
  cases hI : isT ts s with
  | true =>
    rw [hI] at HT
    clear h hI
    go_enter Tryd.func56, Tryd.ntmps56
    go_wp2_with fail
    refine HT.out.mono ?_
    rintro e w1 ⟨rfl, hm⟩
    have HM := Lib.hid hm
    clear hm
    go_wp2_with fail
    go_end0
    exact ⟨rfl, HM.out⟩
  | false =>
    rw [hI] at HT
    clear h hI
    go_enter Tryd.func56, Tryd.ntmps56
    go_wp2_with fail
    refine HT.out.mono ?_
    rintro e w1 ⟨rfl, hm⟩
    have HM := Lib.hid hm
    clear hm
    go_wp2_with fail
    obtain ⟨⟨j, hj⟩, hg⟩ := HM.out
    refine (fail_any hj 1).mono ?_
    rintro e w2 ⟨rfl, hb⟩
    exact ⟨rfl, rfl, grown_trans hg (grown_of_below hb _)⟩
end Go.Proofs.YtnlphgpcpdfjhaaDoor
