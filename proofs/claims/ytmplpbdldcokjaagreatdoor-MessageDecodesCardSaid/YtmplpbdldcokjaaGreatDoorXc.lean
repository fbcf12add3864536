/- Merged texts: The parser's reader: its two cells, the tokens; the walks of token, fail, is, accept, begins, expect. A region that draws its order: some operations only read (the same value in every world that meets S), the others come in one forced order and keep S, but for the last one. Then one walk serves: the reads first, the others behind them. -/
import Derived.Test.YtmplpbdldcokjaaGreatDoorXa
import Derived.Test.YtmplpbdldcokjaaGreatDoorX3
import Derived.Deep.QuietTactic
import Derived.BigQuiet
import Derived.OrdersHeld
import Derived.Tactics
import Derived.KernelRfl
namespace Go.Proofs.YtmplpbdldcokjaaGreatDoor
/- The parser's reader: its two cells, the tokens; the walks of token, fail, is, accept, begins, expect. -/
section
open Go Go.RowKit

/-- block tb holds the tokens -/
def Tk (w : World) (tb : Nat) (toks : List Tok) : Prop :=
  tb < w.heap.size ∧ ∀ (i : Nat) (t : Tok), toks[i]? = some t → w.cell? ⟨tb, i * 3, none⟩ = some (.int .i64 t.kind) ∧ w.cell? ⟨tb, i * 3 + 1, none⟩ = some (.string (bs t.text)) ∧ w.cell? ⟨tb, i * 3 + 2, none⟩ = some (.int .i64 t.pos)
theorem Tk.keep {w w' : World} {tb : Nat} {toks : List Tok} (h : Tk w tb toks) (hb : w'.heap[tb]? = w.heap[tb]?) (hs : w.heap.size ≤ w'.heap.size) : Tk w' tb toks := by
  refine ⟨Nat.lt_of_lt_of_le h.1 hs, fun i t ht => ?_⟩
  obtain ⟨h1, h2, h3⟩ := h.2 i t ht
  refine ⟨?_, ?_, ?_⟩ <;> (rw [World.cell?_of_block (by exact hb)]; assumption)
theorem tokCells_get (toks : List Tok) : ∀ (i : Nat) (t : Tok), toks[i]? = some t → (toksCells toks)[i * 3]? = some (.int .i64 t.kind) ∧ (toksCells toks)[i * 3 + 1]? = some (.string (bs t.text)) ∧ (toksCells toks)[i * 3 + 2]? = some (.int .i64 t.pos) := by
  induction toks with
  | nil => intro i t h; simp at h
  | cons a l ih =>
    intro i t h
    cases i with
    | zero => simp at h; subst h; exact ⟨rfl, rfl, rfl⟩
    | succ i =>
      have := ih i t (by simpa using h)
      have e : ∀ m, (toksCells (a :: l))[(i + 1) * 3 + m]? = (toksCells l)[i * 3 + m]? := fun m => by
        rw [show toksCells (a :: l) = tokCells a ++ toksCells l from rfl, List.getElem?_append_right (by simp [tokCells]; omega)]
        congr 1
        simp [tokCells]; omega
      exact ⟨(e 0).trans this.1, (e 1).trans this.2.1, (e 2).trans this.2.2⟩
theorem Tk.of_own {w : World} {base g n cap : Nat} {toks : List Tok} (h : w.ownsRow base 118 3 (.slice (some ⟨g, 0, none⟩) n cap) n (toksCells toks)) (hn : 0 < n) : Tk w g toks := by
  obtain ⟨g', cp, hv, hb, hlt⟩ := h.form hn
  have hg : g = g' := by injection hv with hv; injection hv with hv; injection hv
  subst hg
  have hc := h.cells (g := g) rfl
  have hadd : ∀ j, (⟨g, 0, none⟩ : Addr).add j = ⟨g, j, none⟩ := fun j => by unfold Addr.add; split <;> simp_all
  refine ⟨hlt, fun i t ht => ?_⟩
  obtain ⟨h1, h2, h3⟩ := tokCells_get toks i t ht
  exact ⟨by rw [← hadd]; exact hc _ _ h1, by rw [← hadd]; exact hc _ _ h2, by rw [← hadd]; exact hc _ _ h3⟩

/-- the reader in block rb stands before the tokens ts -/
structure Rd (w : World) (rb tb cap : Nat) (toks ts : List Tok) (i : Nat) : Prop where
  lt : i < toks.length
  ts_ : toks.drop i = ts
  blk : w.heap[rb]? = some (.cells #[.slice (some ⟨tb, 0, none⟩) toks.length cap, .int .i64 i] 116 (0, 0))
  tk : Tk w tb toks
  ne : tb ≠ rb
  big : toks.length < 20000
  fin : EndL ts

theorem heap_lt {w : World} {b : Nat} {o : Obj} (h : w.heap[b]? = some o) : b < w.heap.size := (Array.getElem?_eq_some_iff.1 h).1
theorem Rd.rlt {w : World} {rb tb cap : Nat} {toks ts : List Tok} {i : Nat} (h : Rd w rb tb cap toks ts i) : rb < w.heap.size := heap_lt h.blk
theorem Rd.below {w w' : World} {rb tb cap : Nat} {toks ts : List Tok} {i : Nat} (h : Rd w rb tb cap toks ts i) (hb : Below w.heap.size w w') : Rd w' rb tb cap toks ts i :=
  ⟨h.lt, h.ts_, (hb.block rb h.rlt).trans h.blk, h.tk.keep (hb.block tb h.tk.1) hb.size, h.ne, h.big, h.fin⟩
theorem Rd.c0 {w : World} {rb tb cap : Nat} {toks ts : List Tok} {i : Nat} (h : Rd w rb tb cap toks ts i) : w.cell? ⟨rb, 0, none⟩ = some (.slice (some ⟨tb, 0, none⟩) toks.length cap) := by
  rw [cell_of_row w rb 0 _ _ _ h.blk]; rfl
theorem Rd.c1 {w : World} {rb tb cap : Nat} {toks ts : List Tok} {i : Nat} (h : Rd w rb tb cap toks ts i) : w.cell? ⟨rb, 1, none⟩ = some (.int .i64 i) := by
  rw [cell_of_row w rb 1 _ _ _ h.blk]; rfl
theorem Rd.f1 {w : World} {rb tb cap : Nat} {toks ts : List Tok} {i : Nat} (h : Rd w rb tb cap toks ts i) : w.frozen? ⟨rb, 1, none⟩ = false := by
  simp [World.frozen?, h.blk]
theorem Rd.hd {w : World} {rb tb cap : Nat} {toks ts : List Tok} {i : Nat} (h : Rd w rb tb cap toks ts i) : toks[i]? = some (hd ts) := by
  have h1 := h.ts_
  rw [List.drop_eq_getElem_cons h.lt] at h1
  rw [← h1, List.getElem?_eq_getElem h.lt]
  rfl
theorem Rd.step {w : World} {rb tb cap : Nat} {toks ts : List Tok} {i : Nat} (h : Rd w rb tb cap toks ts i) (hk : (Go.Proofs.YtmplpbdldcokjaaGreatDoor.hd ts).kind ≠ 0) :
    Rd (w.setCell ⟨rb, 1, none⟩ (.int .i64 (i + 1 : Nat))) rb tb cap toks ts.tail (i + 1) ∧ w.grownBy (w.setCell ⟨rb, 1, none⟩ (.int .i64 (i + 1 : Nat))) (some rb) := by
  have hf := h.fin.hdtail hk
  have ht : toks.drop (i + 1) = ts.tail := by rw [← h.ts_, List.tail_drop]
  have hl : i + 1 < toks.length := by
    rcases Nat.lt_or_ge (i + 1) toks.length with h1 | h1
    · exact h1
    · rw [List.drop_eq_nil_of_le h1] at ht
      rw [← ht] at hf
      exact hf.elim
  refine ⟨⟨hl, ht, ?_, h.tk.keep (Below.heap_setCell _ _ _ _ h.ne) (by simp [World.setCell]), h.ne, h.big, hf⟩, ⟨rfl, rfl, rfl, by simp [World.setCell], fun k _ hk => Below.heap_setCell _ _ _ _ (fun e => hk (by rw [e]))⟩⟩
  simp [World.setCell, Array.getElem?_modify, h.blk]

theorem grown_refl (w : World) (row : Option Nat) : w.grownBy w row := World.grownBy.refl w row
theorem grown_trans {a b c : World} {row : Option Nat} (h : a.grownBy b row) (k : b.grownBy c row) : a.grownBy c row :=
  ⟨k.os.trans h.os, k.tape.trans h.tape, k.output.trans h.output, Nat.le_trans h.size k.size, fun i hi hne => (k.block i (Nat.lt_of_lt_of_le hi h.size) hne).trans (h.block i hi hne)⟩
theorem grown_of_below {a w : World} (h : Below a.heap.size a w) (row : Option Nat) : a.grownBy w row := ⟨h.os, h.tape, h.output, h.size, fun i hi _ => h.block i hi⟩
theorem Rd.grown_rb {w w' : World} {rb tb cap : Nat} {toks ts : List Tok} {i : Nat} (h : Rd w rb tb cap toks ts i) (hg : w.grownBy w' (some rb)) : rb < w'.heap.size := Nat.lt_of_lt_of_le h.rlt hg.size

set_option maxHeartbeats 400000 in
theorem token_any {w : World} {rb tb cap : Nat} {toks ts : List Tok} {i : Nat} (h : Rd w rb tb cap toks ts i) :
    Calls Tryz.prog 97 #[.pointer (some ⟨rb, 0, none⟩)] w fun e w' => e = .returned (.agg #[.int .i64 (hd ts).kind, .string (bs (hd ts).text), .int .i64 (hd ts).pos]) ∧ Below w.heap.size w w' := by
  have hrb := h.rlt
  have htb := h.tk.1
  have h0 := h.c0
  have h1 := h.c1
  have hi : (i : Int) < (toks.length : Int) := by have := h.lt; omega
  have hi0 : (0 : Int) ≤ (i : Int) := by omega
  obtain ⟨c0, c1, c2⟩ := h.tk.2 i _ h.hd
  clear h
  generalize (hd ts).kind = k at *
  generalize (hd ts).text = x at *
  generalize (hd ts).pos = p at *
  go_enter Tryz.func97, Tryz.ntmps97
  go_wp2_with fail
  go_region
  go_wp2_with fail
  refine bodyPost_ret (v := .agg #[.int .i64 k, .string (bs x), .int .i64 p]) (by simp [results, Tryz.results97, go_sem]) rfl ⟨rfl, ((Below.refl _ _).alloc (Nat.le_refl _) _).drew⟩

theorem fld0 (k p : Int) (s : ByteArray) (w : World) : (Instr.field 118 (.agg #[.int .i64 k, .string s, .int .i64 p]) 0).run Tryz.prog w = .ok (.int .i64 k) w := by kernel_rfl
theorem fld1 (k p : Int) (s : ByteArray) (w : World) : (Instr.field 118 (.agg #[.int .i64 k, .string s, .int .i64 p]) 1).run Tryz.prog w = .ok (.string s) w := by kernel_rfl
theorem fld2 (k p : Int) (s : ByteArray) (w : World) : (Instr.field 118 (.agg #[.int .i64 k, .string s, .int .i64 p]) 2).run Tryz.prog w = .ok (.int .i64 p) w := by kernel_rfl

/-- a panic with a violation -/
def Viol (p : Nat) (x : Int) : Ending := .panicked [{ v := .iface 113 (.agg #[.int .i64 p, .int .i64 x]), recovered := false }]

set_option maxHeartbeats 400000 in
set_option maxRecDepth 100000 in
theorem fail_any {w : World} {rb tb cap : Nat} {toks ts : List Tok} {i : Nat} (h : Rd w rb tb cap toks ts i) (x : Int) :
    Calls Tryz.prog 98 #[.pointer (some ⟨rb, 0, none⟩), .int .i64 x] w fun e w' => e = Viol (hd ts).pos x ∧ Below w.heap.size w w' := by
  have HT := Lib.hid (token_any h)
  have f2 := fld2
  go_enter Tryz.func98, Tryz.ntmps98
  go_wp2_with fail
  refine HT.out.mono ?_
  rintro e w1 ⟨rfl, hb⟩
  go_wp2_with fail
  exact ⟨rfl, rfl, hb⟩

theorem bsList (l : List UInt8) : (bs l).toList = l := by rw [ByteArray.toList_eq, toList_bs]

set_option maxHeartbeats 1000000 in
set_option maxRecDepth 100000 in
theorem is_any {w : World} {rb tb cap : Nat} {toks ts : List Tok} {i : Nat} (h : Rd w rb tb cap toks ts i) (s : List UInt8) :
    Calls Tryz.prog 144 #[.pointer (some ⟨rb, 0, none⟩), .string (bs s)] w fun e w' => e = .returned (.bool (isT ts s)) ∧ Below w.heap.size w w' := by
  have HT := Lib.hid (token_any h)
  have hI : isT ts s = (((hd ts).kind == 4 || (hd ts).kind == 5) && ((bs (hd ts).text).toList == (bs s).toList)) := by rw [bsList, bsList]; rfl
  cases h4 : (hd ts).kind == 4 <;> cases h5 : (hd ts).kind == 5 <;> cases hs : ((bs (hd ts).text).toList == (bs s).toList)
  all_goals
    rw [h4, h5, hs] at hI
    have HI := Lib.hid hI
    clear hI
    generalize (hd ts).kind = k at *
    go_enter Tryz.func144, Tryz.ntmps144
    go_wp2_with fail
    refine HT.out.mono ?_
    rintro e w1 ⟨rfl, hb⟩
    have HB : Hid (Below w.heap.size w w1) := hb
    clear hb
    go_wp2_with fail
    go_ret
    exact ⟨ret_bool (by rw [HI.out]; try rfl), HB.out.alloc HB.out.size _⟩

/-- the reader moved on by a token -/
def Moved (w : World) (rb tb cap : Nat) (toks ts : List Tok) (w' : World) : Prop := (∃ i, Rd w' rb tb cap toks ts i) ∧ w.grownBy w' (some rb)
theorem Moved.trans {a b c : World} {rb tb cap : Nat} {toks ts ts' : List Tok} (h : Moved a rb tb cap toks ts b) (k : Moved b rb tb cap toks ts' c) : Moved a rb tb cap toks ts' c := ⟨k.1, grown_trans h.2 k.2⟩
theorem Moved.below {a b c : World} {rb tb cap : Nat} {toks ts : List Tok} (h : Moved a rb tb cap toks ts b) (k : Below b.heap.size b c) : Moved a rb tb cap toks ts c := by
  obtain ⟨⟨i, hi⟩, hg⟩ := h
  exact ⟨⟨i, hi.below k⟩, grown_trans hg (grown_of_below k _)⟩

set_option maxHeartbeats 1000000 in
set_option maxRecDepth 100000 in
theorem accept_any {w : World} {rb tb cap : Nat} {toks ts : List Tok} {i : Nat} (h : Rd w rb tb cap toks ts i) (s : List UInt8) :
    Calls Tryz.prog 125 #[.pointer (some ⟨rb, 0, none⟩), .string (bs s)] w fun e w' => e = .returned (.bool (isT ts s)) ∧ Moved w rb tb cap toks (if isT ts s then ts.tail else ts) w' := by
  have HT := Lib.hid (is_any h s)
  cases hI : isT ts s with
  | false =>
    rw [hI] at HT
    have HR := Lib.hid h
    clear h hI
    go_enter Tryz.func125, Tryz.ntmps125
    go_wp2_with fail
    refine HT.out.mono ?_
    rintro e w1 ⟨rfl, hb⟩
    have HB := Lib.hid hb
    clear hb
    go_wp2_with fail
    go_ret
    exact ⟨rfl, ⟨i, HR.out.below HB.out⟩, grown_of_below HB.out _⟩
  | true =>
    rw [hI] at HT
    have hk := Lib.hid (isT_kind hI)
    have HR := Lib.hid h
    have hsm : (i : Int) < 20000 := by have := h.lt; have := h.big; omega
    clear h hI
    go_enter Tryz.func125, Tryz.ntmps125
    go_wp2_with fail
    refine HT.out.mono ?_
    rintro e w1 ⟨rfl, hb⟩
    have HR1 := Lib.hid (HR.out.below hb)
    have HB := Lib.hid hb
    have c1 := HR1.out.c1
    have f1 := HR1.out.f1
    clear hb
    go_wp2_with fail
    go_ret
    have := HR1.out.step hk.out
    exact ⟨rfl, ⟨i + 1, this.1⟩, grown_trans (grown_of_below HB.out _) this.2⟩

set_option maxHeartbeats 1000000 in
set_option maxRecDepth 100000 in
theorem begins_any {w : World} {rb tb cap : Nat} {toks ts : List Tok} {i : Nat} (h : Rd w rb tb cap toks ts i) :
    Calls Tryz.prog 126 #[.pointer (some ⟨rb, 0, none⟩)] w fun e w' => e = .returned (.bool (begT ts)) ∧ Below w.heap.size w w' := by
  have HT := Lib.hid (token_any h)
  have f0 := fld0
  have hI : begT ts = ((hd ts).kind == 1 || (hd ts).kind == 2 || (hd ts).kind == 3) := rfl
  cases h1 : (hd ts).kind == 1 <;> cases h2 : (hd ts).kind == 2 <;> cases h3 : (hd ts).kind == 3
  all_goals
    rw [h1, h2, h3] at hI
    have HI := Lib.hid hI
    clear hI
    generalize (hd ts).kind = k at *
    go_enter Tryz.func126, Tryz.ntmps126
    go_wp2_with fail
    refine HT.out.mono ?_
    rintro e w1 ⟨rfl, hb⟩
    have HB : Hid (Below w.heap.size w w1) := hb
    clear hb
    go_wp2_with fail
    go_ret
    exact ⟨ret_bool (by rw [HI.out]; try rfl), HB.out⟩

set_option maxHeartbeats 1000000 in
set_option maxRecDepth 100000 in
theorem expect_any {w : World} {rb tb cap : Nat} {toks ts : List Tok} {i : Nat} (h : Rd w rb tb cap toks ts i) (s : List UInt8) :
    Calls Tryz.prog 127 #[.pointer (some ⟨rb, 0, none⟩), .string (bs s)] w fun e w' =>
      if isT ts s then (e = .returned (.tuple #[]) ∧ Moved w rb tb cap toks ts.tail w') else (e = Viol (hd ts).pos 1 ∧ w.grownBy w' (some rb)) := by
  have HT := Lib.hid (accept_any h s)
  cases hI : isT ts s with
  | true =>
    rw [hI] at HT
    clear h hI
    go_enter Tryz.func127, Tryz.ntmps127
    go_wp2_with fail
    refine HT.out.mono ?_
    rintro e w1 ⟨rfl, hm⟩
    have HM := Lib.hid hm
    clear hm
    go_wp2_with fail
    go_end0
    exact ⟨rfl, HM.out⟩
  | false =>
    rw [hI] at HT
    clear h hI
    go_enter Tryz.func127, Tryz.ntmps127
    go_wp2_with fail
    refine HT.out.mono ?_
    rintro e w1 ⟨rfl, hm⟩
    have HM := Lib.hid hm
    clear hm
    go_wp2_with fail
    obtain ⟨⟨j, hj⟩, hg⟩ := HM.out
    refine (fail_any hj 1).mono ?_
    rintro e w2 ⟨rfl, hb⟩
    exact ⟨rfl, rfl, grown_trans hg (grown_of_below hb _)⟩

end
/- A region that draws its order: some operations only read (the same value in every world that meets S), the others come in one forced order and keep S, but for the last one. Then one walk serves: the reads first, the others behind them. -/
section
open Go

section
variable {P : Program} {ops : Array Oper} {Q : Exit → Act → World → Prop} {S : World → Prop}

/-- whatever order is drawn; S holds behind each operation but t, the last one -/
def AnyT (P : Program) (ops : Array Oper) (Q : Exit → Act → World → Prop) (S : World → Prop) (t : Nat) : Nat → Array Bool → Act → World → Prop
  | 0, listed, a, w => Region.ready .any ops listed = [] ∧ Q .normal a w
  | n + 1, listed, a, w => (Region.ready .any ops listed = [] → Q .normal a w) ∧
      ∀ i ∈ Region.ready .any ops listed, wpOp P ops Q i (fun a' w' => (i ≠ t → S w') ∧ AnyT P ops Q S t n (listed.setIfInBounds i true) a' w') a w

theorem anyT_sound {t : Nat} : ∀ (n : Nat) (listed : Array Bool) (a : Act) (w : World), AnyT P ops Q S t n listed a w → wpAny P .any ops Q n listed a w
  | 0, _, _, _, h => h
  | n + 1, _, _, _, h => ⟨h.1, fun i hi => wpOp_mono (fun a' w' h' => anyT_sound n _ a' w' h'.2) (h.2 i hi)⟩

theorem not_on {listed : Array Bool} {i : Nat} {oj : Oper} (hi : i ∈ Region.ready .any ops listed) (hj : ∀ e ∈ oj.after, Region.binds .any e = true → listed.getD e.on false = true) :
    ∀ e ∈ oj.after, Region.binds .any e = true → e.on ≠ i := by
  intro e he hb heq
  have h1 := hj e he hb
  rw [heq] at h1
  have h0 := (mem_ready.1 hi).1
  rcases Nat.lt_or_ge i listed.size with hlt | hge
  · simp [hlt] at h0 h1
    rw [h0] at h1
    cases h1
  · simp [Array.getElem?_eq_none hge] at h1

/-- t waits for every other operation -/
def waitsAll (ops : Array Oper) (t : Nat) : Bool :=
  match ops[t]? with
  | none => false
  | some o => (List.range ops.size).all fun i => i == t || o.after.any fun e => Region.binds .any e && e.on == i
theorem waitsAll_spec {t i : Nat} {o : Oper} (h : waitsAll ops t = true) (ho : ops[t]? = some o) (hi : i < ops.size) (hne : i ≠ t) : ∃ e ∈ o.after, Region.binds .any e = true ∧ e.on = i := by
  unfold waitsAll at h
  rw [ho] at h
  have h1 := List.all_eq_true.1 h i (List.mem_range.2 hi)
  simp only [Bool.or_eq_true, beq_iff_eq, hne, false_or] at h1
  obtain ⟨e, he, hb⟩ := Array.any_eq_true'.1 h1
  simp only [Bool.and_eq_true, beq_iff_eq] at hb
  exact ⟨e, he, hb.1, hb.2⟩

/-- a read that may come up now is as well taken first -/
theorem anyT_first {i t : Nat} {oi : Oper} {v : Value} (hi : ops[i]? = some oi) (hsel : Region.noSelect ops = true) (hwt : waitsAll ops t = true) (hit : i ≠ t)
    (hQ : ∀ c a w, Q (.panic c) (a.put oi.dst v) w → Q (.panic c) a w) :
    ∀ (n : Nat) (listed : Array Bool) (a : Act) (w : World),
      (∀ j oj, ops[j]? = some oj → j ≠ i → listed.getD j true = false → (∀ e ∈ oj.after, Region.binds .any e = true → e.on ≠ i) → oi.apart ops oj = true) →
      i ∈ Region.ready .any ops listed → YieldsIf P ops S oi v a → S w →
      AnyT P ops Q S t n (listed.setIfInBounds i true) (a.put oi.dst v) w → AnyT P ops Q S t (n + 1) listed a w := by
  intro n
  induction n with
  | zero =>
    intro listed a w _ hr hy hS H
    refine ⟨fun h => absurd hr (by rw [h]; exact List.not_mem_nil), fun j hj => ?_⟩
    rcases Decidable.em (j = i) with rfl | hji
    · exact hy.wpOp hi hS ⟨fun _ => hS, H⟩
    · exact absurd (ready_mono hj hji) (by rw [H.1]; exact List.not_mem_nil)
  | succ n ih =>
    intro listed a w hfree hr hy hS H
    refine ⟨fun h => absurd hr (by rw [h]; exact List.not_mem_nil), fun j hj => ?_⟩
    rcases Decidable.em (j = i) with rfl | hji
    · exact hy.wpOp hi hS ⟨fun _ => hS, H⟩
    · obtain ⟨hun, oj, hoj, hall⟩ := mem_ready.1 hj
      have hno := not_on hr hall
      have hjt : j ≠ t := by
        rintro rfl
        obtain ⟨e, he, hb, hon⟩ := waitsAll_spec hwt hoj (Array.getElem?_eq_some_iff.1 hi).1 hit
        exact hno e he hb hon
      have hap := hfree j oj hoj hji hun hno
      have hstep := wpOp_putIf (S := S) hoj hap (Region.noSelect_spec hsel i oi · · hi) (Region.noSelect_spec hsel j oj · · hoj) hQ hy (H.2 j (ready_mono hj hji))
      refine wpOp_mono (fun a' w' h3 => ⟨h3.2.1, ?_⟩) hstep
      refine ih (listed.setIfInBounds j true) a' w' (fun k ok hk hki hunk hno => hfree k ok hk hki ?_ hno) (ready_mono hr (Ne.symm hji)) h3.1 (h3.2.1 hjt) ?_
      · rcases Decidable.em (j = k) with rfl | hjk
        · exact hun
        · rwa [getD_set_ne true hjk] at hunk
      · rw [Array.setIfInBounds_comm _ _ hji]
        exact h3.2.2

/-- the operations of an index list -/
def picks (ops : Array Oper) (l : List Nat) : List Oper := l.filterMap fun i => ops[i]?
/-- the others, in their forced order -/
def Eff (P : Program) (ops : Array Oper) (Q : Exit → Act → World → Prop) (S : World → Prop) : List Oper → Act → World → Prop
  | [], a, w => Q .normal a w
  | o :: rest, a, w =>
    if Region.wanted o (yielded ops a.tmps) = true then Oper.wp P o a w (fun a' w' => (rest ≠ [] → S w') ∧ Eff P ops Q S rest a' w') Q
    else (rest ≠ [] → S w) ∧ Eff P ops Q S rest (a.put o.dst undef) w
/-- the reads -/
def Reads1 (P : Program) (ops : Array Oper) (S : World → Prop) (K : Act → Prop) : List Oper → Act → Prop
  | [], a => K a
  | o :: rest, a => ∃ v, YieldsIf P ops S o v a ∧ Reads1 P ops S K rest (a.put o.dst v)

def tailOk (ops : Array Oper) (t : Nat) : List Nat → Array Bool → Bool
  | [], _ => false
  | [k], listed => decide (Region.ready .any ops listed = [k]) && k == t && (Region.ready .any ops (listed.setIfInBounds k true)).isEmpty
  | k :: k2 :: l, listed => decide (Region.ready .any ops listed = [k]) && tailOk ops t (k2 :: l) (listed.setIfInBounds k true)
def headOk (ops : Array Oper) (t : Nat) (tl : List Nat) : List Nat → Array Bool → Bool
  | [], listed => tailOk ops t tl listed
  | k :: l, listed => (Region.ready .any ops listed).contains k && Region.free .any ops listed k && k != t && headOk ops t tl l (listed.setIfInBounds k true)
def mixOk (ops : Array Oper) (hd tl : List Nat) : Bool :=
  Region.noSelect ops && decide (hd.length + tl.length = ops.size) && waitsAll ops (ops.size - 1) && headOk ops (ops.size - 1) tl hd (Array.replicate ops.size false)

theorem ready_op {listed : Array Bool} {i : Nat} (h : i ∈ Region.ready .any ops listed) : ∃ o, ops[i]? = some o := let ⟨_, o, ho, _⟩ := mem_ready.1 h; ⟨o, ho⟩

theorem eff_step {t k : Nat} {o : Oper} {rest : List Oper} {listed : Array Bool} {a : Act} {w : World} {n : Nat} (ho : ops[k]? = some o) (hr : Region.ready .any ops listed = [k]) (hkt : k ≠ t → rest ≠ [])
    (h : Eff P ops Q S (o :: rest) a w) (hn : ∀ a' w', Eff P ops Q S rest a' w' → AnyT P ops Q S t n (listed.setIfInBounds k true) a' w') : AnyT P ops Q S t (n + 1) listed a w := by
  refine ⟨fun h0 => (by rw [hr] at h0; cases h0), fun i hi => ?_⟩
  rw [hr] at hi
  obtain rfl := List.mem_singleton.1 hi
  unfold wpOp
  simp only [ho]
  simp only [Eff] at h
  split
  · rename_i hw
    rw [if_pos hw] at h
    exact .inl (Oper.wp_mono (fun a' w' h' => ⟨fun hne => h'.1 (hkt hne), hn a' w' h'.2⟩) h)
  · rename_i hw
    rw [if_neg hw] at h
    exact ⟨fun hne => h.1 (hkt hne), hn _ w h.2⟩

theorem anyT_tail {t : Nat} : ∀ (tl : List Nat) (listed : Array Bool) (a : Act) (w : World), tailOk ops t tl listed = true → Eff P ops Q S (picks ops tl) a w → AnyT P ops Q S t tl.length listed a w
  | [], _, _, _, hb, _ => by simp [tailOk] at hb
  | [k], listed, a, w, hb, h => by
    simp only [tailOk, Bool.and_eq_true, decide_eq_true_eq, beq_iff_eq] at hb
    obtain ⟨o, ho⟩ := ready_op (ops := ops) (listed := listed) (i := k) (by rw [hb.1.1]; exact List.mem_singleton.2 rfl)
    have hp : picks ops [k] = [o] := by simp [picks, ho]
    rw [hp] at h
    exact eff_step ho hb.1.1 (fun hne => absurd hb.1.2 hne) h (fun a' w' h' => ⟨by simpa using hb.2, h'⟩)
  | k :: k2 :: tl, listed, a, w, hb, h => by
    simp only [tailOk, Bool.and_eq_true, decide_eq_true_eq] at hb
    obtain ⟨o, ho⟩ := ready_op (ops := ops) (listed := listed) (i := k) (by rw [hb.1]; exact List.mem_singleton.2 rfl)
    have hp : picks ops (k :: k2 :: tl) = o :: picks ops (k2 :: tl) := by simp [picks, ho]
    rw [hp] at h
    have hr2 : Region.ready .any ops (listed.setIfInBounds k true) = [k2] := by
      have hb2 := hb.2
      cases tl with
      | nil => simp only [tailOk, Bool.and_eq_true, decide_eq_true_eq] at hb2; exact hb2.1.1
      | cons k3 tl => simp only [tailOk, Bool.and_eq_true, decide_eq_true_eq] at hb2; exact hb2.1
    obtain ⟨o2, ho2⟩ := ready_op (ops := ops) (listed := listed.setIfInBounds k true) (i := k2) (by rw [hr2]; exact List.mem_singleton.2 rfl)
    exact eff_step ho hb.1 (fun _ => by simp [picks, ho2]) h (fun a' w' h' => anyT_tail (k2 :: tl) _ a' w' hb.2 h')

theorem anyT_head {t : Nat} (tl : List Nat) (hsel : Region.noSelect ops = true) (hwt : waitsAll ops t = true) (hQ : ∀ c a d v w, Q (.panic c) (Act.put a d v) w → Q (.panic c) a w) (w : World) (hS : S w) :
    ∀ (hd : List Nat) (listed : Array Bool) (a : Act), headOk ops t tl hd listed = true → Reads1 P ops S (fun a' => Eff P ops Q S (picks ops tl) a' w) (picks ops hd) a →
      AnyT P ops Q S t (hd.length + tl.length) listed a w
  | [], listed, a, hb, h => by
    rw [List.length_nil, Nat.zero_add]
    exact anyT_tail tl listed a w hb h
  | k :: hd, listed, a, hb, h => by
    simp only [headOk, Bool.and_eq_true, bne_iff_ne] at hb
    have hr : k ∈ Region.ready .any ops listed := by simpa using hb.1.1.1
    obtain ⟨o, ho⟩ := ready_op hr
    have hp : picks ops (k :: hd) = o :: picks ops hd := by simp [picks, ho]
    rw [hp] at h
    obtain ⟨v, hy, h⟩ := h
    rw [List.length_cons, show hd.length + 1 + tl.length = (hd.length + tl.length) + 1 from by omega]
    exact anyT_first ho hsel hwt hb.1.2 (fun c a w => hQ c a _ _ w) _ listed a w (Region.free_spec ho hb.1.1.2) hr hy hS (anyT_head tl hsel hwt hQ w hS hd _ _ hb.2 h)

/-- THE LAW -/
theorem region_mix {id : Nat} {a : Act} {w : World} {l : List Oper} (S : World → Prop) (hd tl : List Nat) (hm : P.follows .mixedOrders = true) (hB : mixOk l.toArray hd tl = true)
    (hQ : ∀ c a d v w, Q (.panic c) (Act.put a d v) w → Q (.panic c) a w) (hS : S w.drew)
    (h : Reads1 P l.toArray S (fun a' => Eff P l.toArray Q S (picks l.toArray tl) a' w.drew) (picks l.toArray hd) a) : (Code.region id l.toArray true).wp P Q a w := by
  simp only [mixOk, Bool.and_eq_true, decide_eq_true_eq] at hB
  obtain ⟨⟨⟨h1, h2⟩, h4⟩, h3⟩ := hB
  refine wp_region_any hm ?_
  have := anyT_sound _ _ _ _ (anyT_head tl h1 h4 hQ w.drew hS hd _ a h3 h)
  rw [h2] at this
  exact this

/-! the steps -/
theorem rd_next {K : Act → Prop} {o : Oper} {rest : List Oper} {a : Act} (v : Value) (hw : Region.wanted o (yielded ops a.tmps) = true) (hv : ∀ w, S w → (execOp a.eval o).run P w = .ok (.value v) w)
    (h : Reads1 P ops S K rest (a.put o.dst v)) : Reads1 P ops S K (o :: rest) a := ⟨v, .inl ⟨hw, hv⟩, h⟩
theorem rd_skip {K : Act → Prop} {o : Oper} {rest : List Oper} {a : Act} (hw : Region.wanted o (yielded ops a.tmps) = false)
    (h : Reads1 P ops S K rest (a.put o.dst undef)) : Reads1 P ops S K (o :: rest) a := ⟨undef, .inr ⟨hw, rfl⟩, h⟩
theorem rd_done {K : Act → Prop} {a : Act} (h : K a) : Reads1 P ops S K [] a := h
theorem eff_next {o : Oper} {rest : List Oper} {a : Act} {w : World} (hw : Region.wanted o (yielded ops a.tmps) = true)
    (h : ∀ K : Act → World → Prop, (∀ a' w', (rest ≠ [] → S w') → Eff P ops Q S rest a' w' → K a' w') → Oper.wp P o a w K Q) : Eff P ops Q S (o :: rest) a w := by
  simp only [Eff]
  rw [if_pos hw]
  exact h _ (fun a' w' h1 h2 => ⟨h1, h2⟩)
theorem eff_done {a : Act} {w : World} (h : Q .normal a w) : Eff P ops Q S [] a w := h
end

end
end Go.Proofs.YtmplpbdldcokjaaGreatDoor
