/- end and begin of the reference's reader. -/
import Derived.Test.YthkbnjojkeeffaaDoorWy
import Derived.Test.YthkbnjojkeeffaaDoorRl
namespace Go.Proofs.YthkbnjojkeeffaaDoor
open Go Go.RowKit
set_option linter.unusedSimpArgs false

/-- an error stands in the reader's block -/
def RZ (w : World) (rb : Nat) (p x : Int) : Prop := x ≠ 0 ∧ ∃ c0 c1, w.heap[rb]? = some (.cells #[c0, c1, .int .i64 p, .int .i64 x] 85 (0, 0))
theorem RR.z {w : World} {rb tb cap : Nat} {toks ts : List Tok} {i : Nat} {p x : Int} (h : RR w rb tb cap toks ts i p x) (hx : x ≠ 0) : RZ w rb p x := ⟨hx, _, _, h.blk⟩
theorem RErr.z {w0 w : World} {rb tb cap : Nat} {toks : List Tok} {p : Nat} {x : Int} (h : RErr w0 rb tb cap toks p x w) : RZ w rb p x := by
  obtain ⟨⟨ts, i, hi⟩, hx, _⟩ := h
  exact hi.z hx
section
variable {w w' : World} {rb : Nat} {p x : Int}
theorem RZ.facts (h : RZ w rb p x) : w.cell? ⟨rb, 2, none⟩ = some (.int .i64 p) ∧ w.cell? ⟨rb, 3, none⟩ = some (.int .i64 x) ∧ (x == 0) = false ∧ (x != 0) = true ∧ rb < w.heap.size := by
  obtain ⟨hx, c0, c1, h⟩ := h
  have h0 : (x == 0) = false := beq_eq_false_iff_ne.2 hx
  refine ⟨?_, ?_, h0, by rw [bne, h0]; rfl, heap_lt h⟩
  · rw [cell_of_row w rb 2 _ _ _ h]; rfl
  · rw [cell_of_row w rb 3 _ _ _ h]; rfl
theorem RZ.grow (h : RZ w rb p x) {row : Option Nat} (hg : w.grownBy w' row) (hr : row ≠ some rb) : RZ w' rb p x := by
  obtain ⟨hx, c0, c1, h⟩ := h
  exact ⟨hx, c0, c1, (hg.block rb (heap_lt h) (Ne.symm hr)).trans h⟩
theorem RZ.below (h : RZ w rb p x) (hb : Below w.heap.size w w') : RZ w' rb p x := h.grow (grown_of_below hb none) (by simp)
end

/-- what end leaves -/
def REnd (w : World) (rb tb cap : Nat) (toks ts : List Tok) (w' : World) : Prop := if (hd ts).kind == 0 then Below w.heap.size w w' else RErr w rb tb cap toks (hd ts).pos 1 w'
/-- what begin leaves -/
def RBPost (w : World) (r : LexR) (e : Ending) (w' : World) : Prop :=
  Below w.heap.size w w' ∧ ∃ rb, e = .returned (.pointer (some ⟨rb, 0, none⟩)) ∧ w.heap.size ≤ rb ∧ match r with
    | .ok ts => ∃ tb cap, RR w' rb tb cap ts ts 0 0 0 ∧ w.heap.size ≤ tb
    | .err p x => RZ w' rb p x

set_option maxHeartbeats 2000000 in
set_option maxRecDepth 100000 in
theorem rbegin_any (w : World) (s : ByteArray) (hs : s.size ≤ 9223372036854775807) :
    Calls Tryd.prog 57 #[.string s] w (RBPost w (lexF s.data.toList)) := by
  go_enter Tryd.func57, Tryd.ntmps57
  go_wp2_with fail
  refine (rLex_any w s hs).mono ?_
  cases hlx : lexF s.data.toList with
  | err p x =>
    have hx0 := Lib.hid (lexF_err hlx)
    have HF := Lib.hid hlx
    clear hlx
    rintro e w1 ⟨hb, he⟩
    subst he
    have HB := Lib.hid hb
    clear hb
    go_wp2_with fail
    go_ret
    unfold RBPost
    rw [HF.out]
    exact ⟨HB.out.alloc HB.out.size _, _, rfl, HB.out.size, hx0.out, _, _, heap_alloc_new _ _⟩
  | ok ts =>
    have HEN := Lib.hid (lexF_end hlx)
    have HLN := Lib.hid (lexF_len hlx)
    have HF := Lib.hid hlx
    clear hlx
    rintro e w1 ⟨hb, g, cap, he, hown⟩
    subst he
    have HB := Lib.hid hb
    have hlp : 0 < ts.length := List.length_pos_iff.2 HEN.out.ne
    have HTK := Lib.hid (Tk.of_own hown hlp)
    have HGL := Lib.hid (hown.lt g rfl)
    clear hb hown
    go_wp2_with fail
    go_ret
    have hgl := HGL.out.2
    unfold RBPost
    rw [HF.out]
    exact ⟨HB.out.alloc HB.out.size _, _, rfl, HB.out.size, g, cap, ⟨hlp, rfl, heap_alloc_new _ _, HTK.out.keep (Below.heap_alloc _ _ _ hgl) (by simp), by omega, HLN.out, HEN.out⟩, HGL.out.1⟩
end Go.Proofs.YthkbnjojkeeffaaDoor
