/- Merged texts: The walks of atom and literal of the reference's reader. The walk of literal of the reference's reader. The state inside rule of the reference's reader; its literal behind an error. The walk of rule of the reference's reader. end and begin of the reference's reader. -/
import Derived.Test.YtmplpbdldcokjaaGreatDoorWv
import Derived.Deep.RegionHeld3
import Derived.Test.YtmplpbdldcokjaaGreatDoorRl
namespace Go.Proofs.YtmplpbdldcokjaaGreatDoor
/- The walks of atom and literal of the reference's reader. -/
section
open Go Go.RowKit
set_option linter.unusedSimpArgs false


end
/- The walk of literal of the reference's reader. -/
section
open Go Go.RowKit
set_option linter.unusedSimpArgs false

/-- what reading a literal leaves -/
def RLPost (w : World) (rb tb cap : Nat) (toks : List Tok) (r : PR Li) (e : Ending) (w' : World) : Prop :=
  match r with
  | .ok t rest => ∃ x : List Value, e = .returned (.agg x.toArray) ∧ LiV w' (fun b => w.heap.size ≤ b) x t ∧ RMoved w rb tb cap toks rest w'
  | .err p k => ∃ (b : Bool) (nm : ByteArray) (A : Option Addr) (n cp : Nat), e = .returned (.agg #[.bool b, .string nm, .slice A n cp]) ∧ RErr w rb tb cap toks p k w'


end
/- The state inside rule of the reference's reader; its literal behind an error. -/
section
open Go Go.RowKit
set_option linter.unusedSimpArgs false

section
variable {w0 w w' : World} {rb tb cap : Nat} {toks : List Tok} {r2 bo : Nat} {c0 c1 : Value} {h : Tm} {v : Value} {acc : List Li} {ts ts' : List Tok}
end


section
variable {w0 w w' : World} {rb tb cap : Nat} {toks : List Tok} {r2 bo : Nat} {c0 c1 c2 : Value} {p : Nat} {x : Int}
end

/-- what reading a rule leaves -/
def RRPost (w : World) (rb tb cap : Nat) (toks : List Tok) (r : PR Ru) (e : Ending) (w' : World) : Prop :=
  match r with
  | .ok t rest => ∃ x : List Value, e = .returned (.agg x.toArray) ∧ RuV w' (fun b => w.heap.size ≤ b) x t ∧ RMoved w rb tb cap toks rest w'
  | .err p k => ∃ (nm : ByteArray) (A : Option Addr) (n cp : Nat) (A2 : Option Addr) (n2 cp2 : Nat), e = .returned (.agg #[.string nm, .slice A n cp, .slice A2 n2 cp2]) ∧ RErr w rb tb cap toks p k w'


end
/- The walk of rule of the reference's reader. -/
section
open Go Go.RowKit
set_option linter.unusedSimpArgs false

theorem litF_zero {o : Nat} {ts : List Tok} (h : (o == 8 && (isT ts [110, 111, 116] || (hd ts).kind == 1)) = false) : litF o ts = litF 0 ts := by
  rw [litF_go h, litF_go (o := 0) rfl]
section
variable {P : Program} {md : Region.Mode} {l : List Oper} {Q : Exit → Act → World → Prop} {S : World → Prop}
theorem held_take {i : Nat} {oi : Oper} {v : Value} {fuel : Nat} {listed : Array Bool} {a : Act} {w : World} (hi : l[i]? = some oi)
    (hs : Region.noSelect l.toArray = true) (hf : Region.free md l.toArray listed i = true) (hr : (Region.ready md l.toArray listed).contains i = true)
    (hQ : ∀ c a w, Q (.panic c) (a.put oi.dst v) w → Q (.panic c) a w) (hw : Region.wanted oi (yielded l.toArray a.tmps) = true) (hy : ∀ w', S w' → (execOp a.eval oi).run P w' = .ok (.value v) w') (hS : S w)
    (h : wpAnyH P md l.toArray Q S fuel (listed.setIfInBounds i true) (a.put oi.dst v) w) : wpAnyH P md l.toArray Q S (fuel + 1) listed a w :=
  wpAnyH_take (by rw [List.getElem?_toArray]; exact hi) hs hf hr hQ (.inl ⟨hw, hy⟩) hS h
theorem held_skip {i : Nat} {oi : Oper} {fuel : Nat} {listed : Array Bool} {a : Act} {w : World} (hi : l[i]? = some oi)
    (hs : Region.noSelect l.toArray = true) (hf : Region.free md l.toArray listed i = true) (hr : (Region.ready md l.toArray listed).contains i = true)
    (hQ : ∀ c a w, Q (.panic c) (a.put oi.dst undef) w → Q (.panic c) a w) (hw : Region.wanted oi (yielded l.toArray a.tmps) = false) (hS : S w)
    (h : wpAnyH P md l.toArray Q S fuel (listed.setIfInBounds i true) (a.put oi.dst undef) w) : wpAnyH P md l.toArray Q S (fuel + 1) listed a w :=
  wpAnyH_take (by rw [List.getElem?_toArray]; exact hi) hs hf hr hQ (.inr ⟨hw, rfl⟩) hS h
theorem held_one {fuel : Nat} {listed : Array Bool} {a : Act} {w : World} {i : Nat} {o : Oper} (ho : l[i]? = some o)
    (h : ∀ K' : Act → World → Prop, Shut (∀ a w, S w → (S w → wpAnyH P md l.toArray Q S fuel (listed.setIfInBounds i true) a w) → K' a w) → if Region.wanted o (yielded l.toArray a.tmps) = true then Oper.wp P o a w K' Q else K' (a.put o.dst undef) w) : AllReadyH P md l.toArray Q S fuel listed a w [i] :=
  AllReadyH.cons (by rw [List.getElem?_toArray]; exact ho) h AllReadyH.nil
end
theorem keep5w {w4 x : World} {a b c d : Addr} {va vb vc vd : Value} (h : w4.cell? a = some va ∧ w4.cell? b = some vb ∧ w4.cell? c = some vc ∧ w4.cell? d = some vd ∧ a.block < w4.heap.size ∧ b.block < w4.heap.size ∧ c.block < w4.heap.size ∧ d.block < w4.heap.size)
    (hb : Below w4.heap.size w4 x) : x.cell? a = some va ∧ x.cell? b = some vb ∧ x.cell? c = some vc ∧ x.cell? d = some vd ∧ Hid (Below w4.heap.size w4 x) := by
  obtain ⟨h1, h2, h3, h4, l1, l2, l3, l4⟩ := h
  exact ⟨(hb.cell l1).trans h1, (hb.cell l2).trans h2, (hb.cell l3).trans h3, (hb.cell l4).trans h4, hb⟩
theorem trans5 {w4 x y : World} (h : Below w4.heap.size w4 x) (hb : Below x.heap.size x y) : Below w4.heap.size w4 y := h.trans (hb.mono h.size)
theorem own_grown {w w' : World} {base n : Nat} {v : Value} {e : TypeId} {sz : Nat} {ys : List Value} (h : w.ownsRow base e sz v n ys) (hg : w.grownBy w' none) : w'.ownsRow base e sz v n ys :=
  h.kept hg (by cases v.ownBlock with | none => exact .inl rfl | some k => exact .inr (by simp))


end
/- end and begin of the reference's reader. -/
section
open Go Go.RowKit
set_option linter.unusedSimpArgs false

/-- an error stands in the reader's block -/
def RZ (w : World) (rb : Nat) (p x : Int) : Prop := x ≠ 0 ∧ ∃ c0 c1, w.heap[rb]? = some (.cells #[c0, c1, .int .i64 p, .int .i64 x] 153 (0, 0))
theorem RR.z {w : World} {rb tb cap : Nat} {toks ts : List Tok} {i : Nat} {p x : Int} (h : RR w rb tb cap toks ts i p x) (hx : x ≠ 0) : RZ w rb p x := ⟨hx, _, _, h.blk⟩
theorem RErr.z {w0 w : World} {rb tb cap : Nat} {toks : List Tok} {p : Nat} {x : Int} (h : RErr w0 rb tb cap toks p x w) : RZ w rb p x := by
  obtain ⟨⟨ts, i, hi⟩, hx, _⟩ := h
  exact hi.z hx
section
variable {w w' : World} {rb : Nat} {p x : Int}
theorem RZ.facts (h : RZ w rb p x) : w.cell? ⟨rb, 2, none⟩ = some (.int .i64 p) ∧ w.cell? ⟨rb, 3, none⟩ = some (.int .i64 x) ∧ (x == 0) = false ∧ (x != 0) = true ∧ rb < w.heap.size := by
  obtain ⟨hx, c0, c1, h⟩ := h
  have h0 : (x == 0) = false := beq_eq_false_iff_ne.2 hx
  refine ⟨?_, ?_, h0, by rw [bne, h0]; rfl, heap_lt h⟩
  · rw [cell_of_row w rb 2 _ _ _ h]; rfl
  · rw [cell_of_row w rb 3 _ _ _ h]; rfl
theorem RZ.grow (h : RZ w rb p x) {row : Option Nat} (hg : w.grownBy w' row) (hr : row ≠ some rb) : RZ w' rb p x := by
  obtain ⟨hx, c0, c1, h⟩ := h
  exact ⟨hx, c0, c1, (hg.block rb (heap_lt h) (Ne.symm hr)).trans h⟩
theorem RZ.below (h : RZ w rb p x) (hb : Below w.heap.size w w') : RZ w' rb p x := h.grow (grown_of_below hb none) (by simp)
end

set_option maxHeartbeats 2000000 in
set_option maxRecDepth 100000 in
theorem rend_no {w : World} {rb : Nat} {p x : Int} (h : RZ w rb p x) :
    Calls Tryz.prog 141 #[.pointer (some ⟨rb, 0, none⟩)] w fun e w' => e = .returned (.tuple #[]) ∧ Below w.heap.size w w' := by
  -- only where 114 is there
  obtain ⟨_, c3, h0, _, hl⟩ := h.facts
  clear h
  go_enter Tryz.func141, Tryz.ntmps141
  go_wp2_with fail
  go_region
  go_wp2_with fail
  go_end0
  exact ⟨rfl, (Below.refl _ _).drew⟩

/-- what end leaves -/
def REnd (w : World) (rb tb cap : Nat) (toks ts : List Tok) (w' : World) : Prop := if (hd ts).kind == 0 then Below w.heap.size w w' else RErr w rb tb cap toks (hd ts).pos 1 w'
set_option maxHeartbeats 2000000 in
set_option maxRecDepth 100000 in
theorem rend_ok {w : World} {rb tb cap : Nat} {toks ts : List Tok} {i : Nat} (h : RR w rb tb cap toks ts i 0 0) :
    Calls Tryz.prog 141 #[.pointer (some ⟨rb, 0, none⟩)] w fun e w' => e = .returned (.tuple #[]) ∧ REnd w rb tb cap toks ts w' := by
  -- only where 114 is there
  obtain ⟨c0, c1, _, c3, _, _, _⟩ := h.facts
  have hi : (i : Int) < (toks.length : Int) := by have := h.lt; omega
  have hi0 : (0 : Int) ≤ (i : Int) := by omega
  obtain ⟨t0, _, _⟩ := h.tk.2 i _ h.hd
  have hrl := h.rlt
  have htl := h.tk.1
  have HR := Lib.hid h
  clear h
  cases hk : (hd ts).kind == 0
  all_goals
    have hk' : ((hd ts).kind != 0) = !((hd ts).kind == 0) := rfl
    rw [hk] at hk'
    simp only [Bool.not_false, Bool.not_true] at hk'
    have HR1 := Lib.hid (HR.out.below (w' := w.drew) (Below.refl _ _).drew)
    generalize hkd : (hd ts).kind = kd at *
    have HKD := Lib.hid hkd
    clear hkd HR
    go_enter Tryz.func141, Tryz.ntmps141
    go_wp2_with fail
    go_region
  focus
    clear c0 c1 c3 t0
    go_wp2_with fail
    refine (rfail_ok HR1.out 1 (by decide)).mono ?_
    rintro e w2 ⟨rfl, he⟩
    have HE := Lib.hid he
    clear he
    go_wp2_with fail
    go_end0
    exact ⟨rfl, by unfold REnd; rw [HKD.out, hk]; exact HE.out.pre (grown_of_below (Below.refl _ _).drew _)⟩
  focus
    go_wp2_with fail
    go_end0
    exact ⟨rfl, by unfold REnd; rw [HKD.out, hk]; exact (Below.refl _ _).drew⟩

/-- what begin leaves -/
def RBPost (w : World) (r : LexR) (e : Ending) (w' : World) : Prop :=
  Below w.heap.size w w' ∧ ∃ rb, e = .returned (.pointer (some ⟨rb, 0, none⟩)) ∧ w.heap.size ≤ rb ∧ match r with
    | .ok ts => ∃ tb cap, RR w' rb tb cap ts ts 0 0 0 ∧ w.heap.size ≤ tb
    | .err p x => RZ w' rb p x

set_option maxHeartbeats 2000000 in
set_option maxRecDepth 100000 in
theorem rbegin_any (w : World) (s : ByteArray) (hs : s.size ≤ 9223372036854775807) :
    Calls Tryz.prog 139 #[.string s] w (RBPost w (lexF s.data.toList)) := by
  go_enter Tryz.func139, Tryz.ntmps139
  go_wp2_with fail
  refine (rLex_any w s hs).mono ?_
  cases hlx : lexF s.data.toList with
  | err p x =>
    have hx0 := Lib.hid (lexF_err hlx)
    have HF := Lib.hid hlx
    clear hlx
    rintro e w1 ⟨hb, he⟩
    subst he
    have HB := Lib.hid hb
    clear hb
    go_wp2_with fail
    go_ret
    unfold RBPost
    rw [HF.out]
    exact ⟨HB.out.alloc HB.out.size _, _, rfl, HB.out.size, hx0.out, _, _, heap_alloc_new _ _⟩
  | ok ts =>
    have HEN := Lib.hid (lexF_end hlx)
    have HLN := Lib.hid (lexF_len hlx)
    have HF := Lib.hid hlx
    clear hlx
    rintro e w1 ⟨hb, g, cap, he, hown⟩
    subst he
    have HB := Lib.hid hb
    have hlp : 0 < ts.length := List.length_pos_iff.2 HEN.out.ne
    have HTK := Lib.hid (Tk.of_own hown hlp)
    have HGL := Lib.hid (hown.lt g rfl)
    clear hb hown
    go_wp2_with fail
    go_ret
    have hgl := HGL.out.2
    unfold RBPost
    rw [HF.out]
    exact ⟨HB.out.alloc HB.out.size _, _, rfl, HB.out.size, g, cap, ⟨hlp, rfl, heap_alloc_new _ _, HTK.out.keep (Below.heap_alloc _ _ _ hgl) (by simp), by omega, HLN.out, HEN.out⟩, HGL.out.1⟩

end
end Go.Proofs.YtmplpbdldcokjaaGreatDoor
