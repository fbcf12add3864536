/- Merged texts: The deferred closures of parser.read: what they do when the frame panics and when it returns. parser.read: a whole text is lexed and read. parser.read of one rule, one term. -/
import Derived.Test.YtmplpbdldcokjaaGreatDoorXe
import Derived.Recover
import Derived.Defers
import Derived.Test.YtmplpbdldcokjaaGreatDoorLe
namespace Go.Proofs.YtmplpbdldcokjaaGreatDoor
/- The deferred closures of parser.read: what they do when the frame panics and when it returns. -/
section
open Go Go.RowKit
set_option linter.unusedSimpArgs false

section
variable {P : Program} {ops : Array Oper} {Q : Exit → Act → List Frame → World → Prop} {a : Act} {cs cs' : List Frame} {w : World} {rest : List Oper} {o : Oper}
def WpL (P : Program) (ops : Array Oper) (Q : Exit → Act → List Frame → World → Prop) : List Oper → Act → List Frame → World → Prop
  | [], a, cs, w => Q .normal a cs w
  | o :: rest, a, cs, w =>
      if Region.wanted o (yielded ops a.tmps) then
        match (execOp a.eval o).run P w with
        | .ok .recover w' =>
          match recoverD cs with
          | some (v, cs') => WpL P ops Q rest (a.put o.dst v) cs' w'
          | none => WpL P ops Q rest (a.put o.dst .nilIface) cs w'
        | r => o.upon P a (fun a' w' => WpL P ops Q rest a' cs w') (fun e a' w' => Q e a' cs w') r
      else WpL P ops Q rest (a.put o.dst undef) cs w
theorem wpOpsS_eq_WpL (l : List Oper) : ∀ k, (∀ j, l[j]? = ops[k + j]?) → wpOpsS P ops Q (List.range' k l.length) = WpL P ops Q l := by
  induction l with
  | nil => intro k _; funext a cs w; simp [wpOpsS, WpL]
  | cons o l ih =>
    intro k h
    have h0 : ops[k]? = some o := by simpa using (h 0).symm
    have ih' := ih (k + 1) (fun j => by have := h (j + 1); simpa [Nat.add_assoc, Nat.add_comm 1 j] using this)
    funext a cs w
    simp only [List.length_cons, List.range'_succ, wpOpsS, h0, WpL, ih']
    rfl
theorem WpL_wp (hw : Region.wanted o (yielded ops a.tmps) = true) (h : o.wp P a w (fun a' w' => WpL P ops Q rest a' cs w') (fun e a' w' => Q e a' cs w')) :
    WpL P ops Q (o :: rest) a cs w := by
  unfold Oper.wp at h
  unfold WpL
  simp only [hw, if_true]
  split
  · rename_i w' hr
    rw [hr] at h
    exact h.elim
  · exact h
theorem WpL_recover {v : Value} {w' : World} (hw : Region.wanted o (yielded ops a.tmps) = true) (hr : (execOp a.eval o).run P w = .ok .recover w') (hc : recoverD cs = some (v, cs'))
    (h : WpL P ops Q rest (a.put o.dst v) cs' w') : WpL P ops Q (o :: rest) a cs w := by
  unfold WpL
  simp only [hw, if_true, hr, hc]
  exact h
theorem WpL_recover_none {w' : World} (hw : Region.wanted o (yielded ops a.tmps) = true) (hr : (execOp a.eval o).run P w = .ok .recover w') (hc : recoverD cs = none)
    (h : WpL P ops Q rest (a.put o.dst .nilIface) cs w') : WpL P ops Q (o :: rest) a cs w := by
  unfold WpL
  simp only [hw, if_true, hr, hc]
  exact h
theorem WpL_done (h : Q .normal a cs w) : WpL P ops Q [] a cs w := h
attribute [irreducible] WpL
theorem wpS_region_of {id : Nat} {l : List Oper} (h : WpL P l.toArray Q l a cs w) : (Code.region id l.toArray false).wpS P Q a cs w := by
  refine wpS_region ?_
  rw [List.range_eq_range', List.size_toArray, wpOpsS_eq_WpL l 0 (by simp)]
  exact h
end
theorem recoverD_p {c₀ : Frame} {cs : List Frame} {v : Value} {older : List PanicEntry} (hu : c₀.mode = .panicking ({ v := v, recovered := false } :: older)) :
    recoverD (c₀ :: cs) = some (v, { c₀ with mode := .panicking ({ v := v, recovered := true } :: older) } :: cs) := by
  simp [recoverD, hu]
theorem recoverD_r {c₀ : Frame} {cs : List Frame} (hu : c₀.mode = .returning) : recoverD (c₀ :: cs) = none := by
  simp [recoverD, hu]
theorem run_recover (a : Act) (w : World) (dst : Option Nat) (ty : TypeId) (pos : String) (after : Array Edge) :
    (execOp a.eval { dst := dst, op := .call { callee := .builtin .recover, args := #[], argTypes := #[] }, type := ty, pos := pos, after := after, guard := none }).run Tryz.prog w = .ok .recover w := by
  simp [go_sem]
theorem ta_yes (w : World) (v : Value) : (Instr.typeAssert (.iface 113 v) 20 113 true).run Tryz.prog w = .ok (.tuple #[v, .bool true]) w := by kernel_rfl
theorem ta_no (w : World) : (Instr.typeAssert .nilIface 20 113 true).run Tryz.prog w = .ok (.tuple #[.agg #[.int .i64 0, .int .i64 0], .bool false]) w := by kernel_rfl

theorem cells_one {w : World} {b : Nat} {x : Value} {t : TypeId} (h : w.heap[b]? = some (.cells #[x] t (0, 0))) : w.cell? ⟨b, 0, none⟩ = some x ∧ w.frozen? ⟨b, 0, none⟩ = false := by
  refine ⟨?_, ?_⟩
  · rw [cell_of_row w b 0 _ _ _ h]; rfl
  · simp [World.frozen?, h]
theorem below_set {n : Nat} {a w : World} (h : Below n a w) (b o : Nat) (u : Value) (hb : n ≤ b) : Below n a (w.setCell ⟨b, o, none⟩ u) := h.setCell (p := ⟨b, o, none⟩) hb u

set_option maxHeartbeats 4000000 in
set_option maxRecDepth 100000 in
theorem rc_term (q0 q1 q2 : Nat) (hq1 : q1 = q0 + 1) (hq2 : q2 = q0 + 2) (p k : Int) (older : List PanicEntry) (w : World) (x0' x1' x1 x2 : Value) (t0 : TypeId)
    (h0 : w.heap[q0]? = some (.cells #[x0', x1'] t0 (0, 0))) (h1 : w.heap[q1]? = some (.cells #[x1] 3 (0, 0))) (h2 : w.heap[q2]? = some (.cells #[x2] 28 (0, 0))) :
    CallsD Tryz.prog 96 #[.pointer (some ⟨q0, 0, none⟩), .pointer (some ⟨q1, 0, none⟩), .pointer (some ⟨q2, 0, none⟩)] (.panicking ({ v := .iface 113 (.agg #[.int .i64 p, .int .i64 k]), recovered := false } :: older)) w fun e u' w' =>
      e = .returned (.tuple #[]) ∧ u' = .panicking ({ v := .iface 113 (.agg #[.int .i64 p, .int .i64 k]), recovered := true } :: older) ∧
      w'.cell? ⟨q0, 0, none⟩ = some (.string ⟨#[]⟩) ∧ w'.cell? ⟨q0, 1, none⟩ = some (.slice none 0 0) ∧ w'.cell? ⟨q1, 0, none⟩ = some (.int .i64 p) ∧ w'.cell? ⟨q2, 0, none⟩ = some (.int .i64 k) ∧ Below q0 w w' := by
  have hl0 := heap_lt h0
  have hl1 := heap_lt h1
  have hl2 := heap_lt h2
  have hb : Below w.heap.size w ((w.alloc (.cells #[.int .i64 p, .int .i64 k] 113)).alloc (.cells #[.string ⟨#[]⟩, .slice none 0 0] 25)) := ((Below.refl _ _).alloc (Nat.le_refl _) _).alloc (by simp) _
  have HB := Lib.hid (hb.mono (Nat.le_of_lt hl0))
  obtain ⟨c0, d1, f0, g1⟩ := cells_two ((hb.block q0 hl0).trans h0)
  obtain ⟨c1, f1⟩ := cells_one ((hb.block q1 hl1).trans h1)
  obtain ⟨c2, f2⟩ := cells_one ((hb.block q2 hl2).trans h2)
  obtain ⟨e0, e1, _, _⟩ := cells_two ((Below.heap_alloc (w.alloc (.cells #[.int .i64 p, .int .i64 k] 113)) (.cells #[.string ⟨#[]⟩, .slice none 0 0] 25) w.heap.size (by simp)).trans (heap_alloc_new w (.cells #[.int .i64 p, .int .i64 k] 113)))
  obtain ⟨z0, z1, _, _⟩ := cells_two (heap_alloc_new (w.alloc (.cells #[.int .i64 p, .int .i64 k] 113)) (.cells #[.string ⟨#[]⟩, .slice none 0 0] 25))
  have hs1 : (w.alloc (.cells #[.int .i64 p, .int .i64 k] 113)).heap.size = w.heap.size + 1 := by simp
  rw [hs1] at z0 z1
  have hm0 : q0 ≠ w.heap.size + 1 := by omega
  have hm1 : q1 ≠ w.heap.size + 1 := by omega
  have hm2 : q2 ≠ w.heap.size + 1 := by omega
  have hn0 : q0 ≠ w.heap.size := by omega
  have hn1 : q1 ≠ w.heap.size := by omega
  have hn2 : q2 ≠ w.heap.size := by omega
  have h01 : q0 ≠ q1 := by omega
  have h02 : q0 ≠ q2 := by omega
  have h12 : q1 ≠ q2 := by omega
  have hqb1 : q0 ≤ q1 := by omega
  have hqb2 : q0 ≤ q2 := by omega
  have HQ := Lib.hid (And.intro hqb1 hqb2)
  clear h0 h1 h2 hb hq1 hq2 hl0 hl1 hl2 hqb1 hqb2
  refine callsD_of_wpS Tryz.func96 rfl fun c₀ cs hu => ?_
  simp only [Tryz.ntmps96, List.size_toArray, List.length_cons, List.length_nil, Nat.reduceAdd, Nat.reduceSub, Array.replicate_succ, Array.replicate_zero, List.push_toArray, List.append_toArray, List.nil_append, List.cons_append]
  apply wpS_seq
  apply wpS_region_of
  have hrc := recoverD_p (cs := cs) hu
  refine WpL_recover (by rfl) (run_recover _ _ _ _ _ _) hrc ?_
  clear hrc
  have hta := ta_yes
  simp only [Act.put, List.setIfInBounds_toArray, List.set_cons_zero, List.set_cons_succ]
  repeat (refine WpL_wp (by rfl) ?_; go_simp)
  refine WpL_done ?_
  simp only [Exit.thenS]
  refine wpS_of_wp ?_
  go_wp2_with fail
  generalize (w.alloc (.cells #[.int .i64 p, .int .i64 k] 113)).alloc (.cells #[.string ⟨#[]⟩, .slice none 0 0] 25) = w1 at *
  generalize w.heap.size = bt at *
  go_region
  go_wp2_with fail
  refine ⟨rfl, _, rfl, .tuple #[], by simp [results, Tryz.results96, go_sem], rfl, rfl, ?_, ?_, ?_, ?_, ?_⟩
  · simp [go_sem, c0, d1, c1, c2, h01, h02, h12, Ne.symm h01, Ne.symm h02, Ne.symm h12]
  · simp [go_sem, c0, d1, c1, c2, h01, h02, h12, Ne.symm h01, Ne.symm h02, Ne.symm h12]
  · simp [go_sem, c0, d1, c1, c2, h01, h02, h12, Ne.symm h01, Ne.symm h02, Ne.symm h12]
  · simp [go_sem, c0, d1, c1, c2, h01, h02, h12, Ne.symm h01, Ne.symm h02, Ne.symm h12]
  · exact (below_set (below_set (below_set (below_set HB.out _ _ _ (Nat.le_refl _)) _ _ _ (Nat.le_refl _)) _ _ _ HQ.out.1) _ _ _ HQ.out.2).drew

set_option maxHeartbeats 4000000 in
set_option maxRecDepth 100000 in
theorem ri_term (q0 q1 q2 : Nat) (w : World) :
    CallsD Tryz.prog 96 #[.pointer (some ⟨q0, 0, none⟩), .pointer (some ⟨q1, 0, none⟩), .pointer (some ⟨q2, 0, none⟩)] .returning w fun e u' w' =>
      e = .returned (.tuple #[]) ∧ u' = .returning ∧ Below w.heap.size w w' := by
  refine callsD_of_wpS Tryz.func96 rfl fun c₀ cs hu => ?_
  simp only [Tryz.ntmps96, List.size_toArray, List.length_cons, List.length_nil, Nat.reduceAdd, Nat.reduceSub, Array.replicate_succ, Array.replicate_zero, List.push_toArray, List.append_toArray, List.nil_append, List.cons_append]
  apply wpS_seq
  apply wpS_region_of
  have hrc := recoverD_r (cs := cs) hu
  refine WpL_recover_none (by rfl) (run_recover _ _ _ _ _ _) hrc ?_
  clear hrc
  have hta := ta_no
  simp only [Act.put, List.setIfInBounds_toArray, List.set_cons_zero, List.set_cons_succ]
  repeat (refine WpL_wp (by rfl) ?_; go_simp)
  refine WpL_done ?_
  simp only [Exit.thenS]
  refine wpS_of_wp ?_
  go_wp2_with fail
  refine ⟨rfl, _, by rw [← hu], .tuple #[], by simp [results, Tryz.results96, go_sem], rfl, rfl, ?_⟩
  exact (Below.refl _ _).alloc (Nat.le_refl _) _


end
/- parser.read: a whole text is lexed and read. -/
section
open Go Go.RowKit
set_option linter.unusedSimpArgs false

theorem pre_ok {a : List Tok} {x : LexR} {ts : List Tok} (h : x.pre a = .ok ts) : ∃ r, x = .ok r ∧ ts = a ++ r := by
  cases x with
  | ok r => cases h; exact ⟨r, rfl, rfl⟩
  | err p e => cases h
theorem pre_err {a : List Tok} {x : LexR} {p : Nat} {e : Int} (h : x.pre a = .err p e) : x = .err p e := by
  cases x with
  | ok r => cases h
  | err p e => cases h; rfl
theorem lexGo_len : ∀ (f off : Nat) (l : List UInt8) (ts : List Tok), lexGo f off l = .ok ts → ts.length ≤ l.length + 1 := by
  intro f
  induction f with
  | zero => intro off l ts h; cases h
  | succ f ih =>
    intro off l ts h
    cases l with
    | nil => rw [lexGo_nil] at h; cases h; simp
    | cons c r =>
      cases hb : blankB (bInt c) with
      | true => rw [lexGo_blank _ _ _ _ hb] at h; have := ih _ _ _ h; simp; omega
      | false =>
        cases hh : (bInt c == 35) with
        | true =>
          rw [lexGo_hash _ _ _ _ hb hh] at h
          have := ih _ _ _ h
          rw [dropWhile_drop, List.length_drop] at this
          omega
        | false =>
          cases hr : runB (bInt c) with
          | true =>
            cases hk : (kindF ((c :: r).takeWhile (fun c => runB (bInt c))) == 0) with
            | true => rw [lexGo_badrun _ _ _ _ hb hh hr hk] at h; cases h
            | false =>
              rw [lexGo_run _ _ _ _ hb hh hr hk] at h
              obtain ⟨ts', h1, rfl⟩ := pre_ok h
              have := ih _ _ _ h1
              rw [dropWhile_drop, List.length_drop] at this
              have h0 : 0 < ((c :: r).takeWhile (fun c => runB (bInt c))).length := by rw [List.takeWhile_cons_of_pos (p := fun c => runB (bInt c)) hr]; simp
              have h2 : 0 < (c :: r).length := by simp
              rw [List.length_append, List.length_singleton]
              omega
          | false =>
            cases hs : symB (bInt c) with
            | true =>
              rw [lexGo_sym _ _ _ _ hb hh hr hs] at h
              obtain ⟨ts', h1, rfl⟩ := pre_ok h
              have := ih _ _ _ h1
              simp; omega
            | false => rw [lexGo_bad _ _ _ _ hb hh hr hs] at h; cases h
theorem lexGo_err : ∀ (f off : Nat) (l : List UInt8) (p : Nat) (e : Int), lexGo f off l = .err p e → e ≠ 0 := by
  intro f
  induction f with
  | zero => intro off l p e h; cases h; decide
  | succ f ih =>
    intro off l p e h
    cases l with
    | nil => rw [lexGo_nil] at h; cases h
    | cons c r =>
      cases hb : blankB (bInt c) with
      | true => rw [lexGo_blank _ _ _ _ hb] at h; exact ih _ _ _ _ h
      | false =>
        cases hh : (bInt c == 35) with
        | true => rw [lexGo_hash _ _ _ _ hb hh] at h; exact ih _ _ _ _ h
        | false =>
          cases hr : runB (bInt c) with
          | true =>
            cases hk : (kindF ((c :: r).takeWhile (fun c => runB (bInt c))) == 0) with
            | true => rw [lexGo_badrun _ _ _ _ hb hh hr hk] at h; cases h; decide
            | false => rw [lexGo_run _ _ _ _ hb hh hr hk] at h; exact ih _ _ _ _ (pre_err h)
          | false =>
            cases hs : symB (bInt c) with
            | true => rw [lexGo_sym _ _ _ _ hb hh hr hs] at h; exact ih _ _ _ _ (pre_err h)
            | false => rw [lexGo_bad _ _ _ _ hb hh hr hs] at h; cases h; decide
theorem lexF_len {l : List UInt8} {ts : List Tok} (h : lexF l = .ok ts) : ts.length < 20000 := by
  unfold lexF at h
  split at h
  · cases h
  · have := lexGo_len _ _ _ _ h
    omega
theorem lexF_err {l : List UInt8} {p : Nat} {e : Int} (h : lexF l = .err p e) : e ≠ 0 := by
  unfold lexF at h
  split at h
  · cases h; decide
  · exact lexGo_err _ _ _ _ _ h

theorem Rd.other {w w' : World} {rb tb cap : Nat} {toks ts : List Tok} {i q : Nat} (hi : Rd w rb tb cap toks ts i) (hg : w.grownBy w' (some q)) (h1 : q ≠ rb) (h2 : q ≠ tb) : Rd w' rb tb cap toks ts i :=
  ⟨hi.lt, hi.ts_, (hg.block _ hi.rlt (fun e => h1 (by injection e with e; exact e.symm))).trans hi.blk, hi.tk.keep (hg.block _ hi.tk.1 (fun e => h2 (by injection e with e; exact e.symm))) hg.size, hi.ne, hi.big, hi.fin⟩

/-- what a whole reading gives: V says how a value of the program shows a value of the specification; z is the nothing that stands beside an error -/
def OutP {α : Type} (V : World → (Nat → Prop) → Value → α → Prop) (z : Value) (w : World) (r : Rs α) (e : Ending) (w' : World) : Prop :=
  Below w.heap.size w w' ∧ match r with
  | .ok a => ∃ v, e = .returned (.tuple #[v, .int .i64 0, .int .i64 0]) ∧ V w' (fun b => w.heap.size ≤ b) v a
  | .err p k => e = .returned (.tuple #[z, .int .i64 p, .int .i64 k])
def VL {α : Type} (R : Rdr α) (sz : Nat) (w : World) (P : Nat → Prop) (v : Value) (l : List α) : Prop := ∃ A cp, v = .slice A l.length cp ∧ SlV R sz w P A l
def VS {α : Type} (R : Rdr α) (w : World) (P : Nat → Prop) (v : Value) (a : α) : Prop := ∃ x : List Value, v = .agg x.toArray ∧ R w P x a

/-- the three results' blocks -/
structure Q3 (w0 w : World) (n q1 q2 : Nat) (x : List Value) (t0 : TypeId) (x1 x2 : Value) : Prop where
  a : w.heap[n]? = some (.cells x.toArray t0 (0, 0))
  b : w.heap[q1]? = some (.cells #[x1] 3 (0, 0))
  c : w.heap[q2]? = some (.cells #[x2] 28 (0, 0))
  d : Below n w0 w
  e1 : q1 = n + 1
  e2 : q2 = n + 2
section
variable {w0 w w' : World} {n q1 q2 : Nat} {t0 : TypeId} {x1 x2 : Value}
theorem Q3.grow {x : List Value} (h : Q3 w0 w n q1 q2 x t0 x1 x2) {row : Option Nat} (hg : w.grownBy w' row) (hr : ∀ k, row = some k → q2 < k) : Q3 w0 w' n q1 q2 x t0 x1 x2 := by
  have hl := heap_lt h.c
  have e1 := h.e1
  have e2 := h.e2
  refine ⟨(hg.block _ (by omega) (fun e => ?_)).trans h.a, (hg.block _ (by omega) (fun e => ?_)).trans h.b, (hg.block _ hl (fun e => ?_)).trans h.c, h.d.grown hg (by omega) (fun k hk => by have := hr k hk; omega), e1, e2⟩
  · have := hr _ e.symm; omega
  · have := hr _ e.symm; omega
  · have := hr _ e.symm; omega
theorem Q3.set1 {x : List Value} (h : Q3 w0 w n q1 q2 x t0 x1 x2) (u : Value) : Q3 w0 (w.setCell ⟨q1, 0, none⟩ u) n q1 q2 x t0 u x2 := by
  have e1 := h.e1
  have e2 := h.e2
  exact ⟨(Below.heap_setCell _ _ _ _ (by simp; omega)).trans h.a, by simp [World.setCell, Array.getElem?_modify, h.b], (Below.heap_setCell _ _ _ _ (by simp; omega)).trans h.c, below_set h.d _ _ _ (by omega), e1, e2⟩
theorem Q3.set2 {x : List Value} (h : Q3 w0 w n q1 q2 x t0 x1 x2) (u : Value) : Q3 w0 (w.setCell ⟨q2, 0, none⟩ u) n q1 q2 x t0 x1 u := by
  have e1 := h.e1
  have e2 := h.e2
  exact ⟨(Below.heap_setCell _ _ _ _ (by simp; omega)).trans h.a, (Below.heap_setCell _ _ _ _ (by simp; omega)).trans h.b, by simp [World.setCell, Array.getElem?_modify, h.c], below_set h.d _ _ _ (by omega), e1, e2⟩
theorem Q3.set0 {x : List Value} (h : Q3 w0 w n q1 q2 x t0 x1 x2) (o : Nat) (u : Value) : Q3 w0 (w.setCell ⟨n, o, none⟩ u) n q1 q2 (x.set o u) t0 x1 x2 := by
  have e1 := h.e1
  have e2 := h.e2
  exact ⟨by simp [World.setCell, Array.getElem?_modify, h.a], (Below.heap_setCell _ _ _ _ (by simp; omega)).trans h.b, (Below.heap_setCell _ _ _ _ (by simp; omega)).trans h.c, below_set h.d _ _ _ (Nat.le_refl _), e1, e2⟩
theorem Q3.facts1 {x0 : Value} (h : Q3 w0 w n q1 q2 [x0] t0 x1 x2) :
    (w.cell? ⟨n, 0, none⟩ = some x0 ∧ w.frozen? ⟨n, 0, none⟩ = false) ∧ (w.cell? ⟨q1, 0, none⟩ = some x1 ∧ w.frozen? ⟨q1, 0, none⟩ = false) ∧ (w.cell? ⟨q2, 0, none⟩ = some x2 ∧ w.frozen? ⟨q2, 0, none⟩ = false) :=
  ⟨cells_one h.a, cells_one h.b, cells_one h.c⟩
theorem Q3.facts2 {x0 y0 : Value} (h : Q3 w0 w n q1 q2 [x0, y0] t0 x1 x2) :
    (w.cell? ⟨n, 0, none⟩ = some x0 ∧ w.cell? ⟨n, 1, none⟩ = some y0 ∧ w.frozen? ⟨n, 0, none⟩ = false ∧ w.frozen? ⟨n, 1, none⟩ = false) ∧ (w.cell? ⟨q1, 0, none⟩ = some x1 ∧ w.frozen? ⟨q1, 0, none⟩ = false) ∧ (w.cell? ⟨q2, 0, none⟩ = some x2 ∧ w.frozen? ⟨q2, 0, none⟩ = false) :=
  ⟨cells_two h.a, cells_one h.b, cells_one h.c⟩
theorem Q3.facts3 {x0 y0 z0 : Value} (h : Q3 w0 w n q1 q2 [x0, y0, z0] t0 x1 x2) :
    (w.cell? ⟨n, 0, none⟩ = some x0 ∧ w.cell? ⟨n, 1, none⟩ = some y0 ∧ w.cell? ⟨n, 2, none⟩ = some z0 ∧ w.frozen? ⟨n, 0, none⟩ = false ∧ w.frozen? ⟨n, 1, none⟩ = false ∧ w.frozen? ⟨n, 2, none⟩ = false) ∧ (w.cell? ⟨q1, 0, none⟩ = some x1 ∧ w.frozen? ⟨q1, 0, none⟩ = false) ∧ (w.cell? ⟨q2, 0, none⟩ = some x2 ∧ w.frozen? ⟨q2, 0, none⟩ = false) :=
  ⟨cells_three h.a, cells_one h.b, cells_one h.c⟩
end


end
/- parser.read of one rule, one term. -/
section
open Go Go.RowKit
set_option linter.unusedSimpArgs false

set_option maxHeartbeats 8000000 in
set_option maxRecDepth 100000 in
theorem read_term (w : World) (s : ByteArray) (hs : s.size ≤ 9223372036854775807) (hw : Wd w) :
    Calls Tryz.prog 77 #[.string s, .func (.func 78) #[] #[]] w (OutP (VS TmV) (.agg #[.string ⟨#[]⟩, .slice none 0 0]) w (readF (termF 4) s.data.toList)) := by
  have hmf : ∀ (fn : Fn) (first cap : Array Value) (w : World), (Instr.makeFunc fn first cap).run Tryz.prog w = .ok (.func fn first cap) w := fun _ _ _ _ => rfl
  have hq0 : Q3 w (((w.alloc (.cells #[.string ⟨#[]⟩, .slice none 0 0] 25)).alloc (.cells #[.int .i64 0] 3)).alloc (.cells #[.int .i64 0] 28)) w.heap.size (w.heap.size + 1) (w.heap.size + 1 + 1) [.string ⟨#[]⟩, .slice none 0 0] 25 (.int .i64 0) (.int .i64 0) := by
    have s1 : (w.alloc (.cells #[.string ⟨#[]⟩, .slice none 0 0] 25)).heap.size = w.heap.size + 1 := by simp
    have s2 : ((w.alloc (.cells #[.string ⟨#[]⟩, .slice none 0 0] 25)).alloc (.cells #[.int .i64 0] 3)).heap.size = w.heap.size + 2 := by simp
    refine ⟨?_, ?_, ?_, (((Below.refl _ _).alloc (Nat.le_refl _) _).alloc (by omega) _).alloc (by omega) _, rfl, rfl⟩
    · rw [Below.heap_alloc _ _ _ (by omega), Below.heap_alloc _ _ _ (by omega)]; exact heap_alloc_new _ _
    · rw [Below.heap_alloc _ _ _ (by omega), ← s1]; exact heap_alloc_new _ _
    · rw [← s2]; exact heap_alloc_new _ _
  have HQ0 := Lib.hid hq0
  have HW := Lib.hid (hw.below hq0.d hw.1)
  clear hq0 hw
  go_enter_defers Tryz.func77, Tryz.ntmps77
  go_wp2_with fail
  generalize ((w.alloc (.cells #[.string ⟨#[]⟩, .slice none 0 0] 25)).alloc (.cells #[.int .i64 0] 3)).alloc (.cells #[.int .i64 0] 28) = w0 at *
  refine (lex_any w0 s hs HW.out).mono ?_
  cases hlx : lexF s.data.toList with
  | err p x =>
    have HF : Hid (readF (termF 4) s.data.toList = .err p x) := by unfold Hid readF; rw [hlx]
    have hx0 : (x == 0) = false := beq_eq_false_iff_ne.2 (lexF_err hlx)
    clear hlx
    rintro e w1 ⟨hb, he⟩
    subst he
    have HQ1 := Lib.hid (HQ0.out.grow (grown_of_below hb none) (fun k hk => by cases hk))
    clear hb
    obtain ⟨⟨a1, aa1, y1, yy1⟩, ⟨b1, b2⟩, ⟨d1, d2⟩⟩ := HQ1.out.facts2
    generalize w.heap.size + 1 + 1 = q2 at *
    generalize w.heap.size + 1 = q1 at *
    have h01 : w.heap.size ≠ q1 := by have := HQ1.out.e1; omega
    have h02 : w.heap.size ≠ q2 := by have := HQ1.out.e2; omega
    have h12 : q1 ≠ q2 := by have := HQ1.out.e1; have := HQ1.out.e2; omega
    generalize hn : w.heap.size = n at *
    go_wp2_with fail
    have HQ2 := Lib.hid ((HQ1.out.set1 (.int .i64 p)).set2 (.int .i64 x))
    clear HQ1 a1 aa1 y1 yy1 b1 b2 d1 d2
    generalize (w1.setCell ⟨q1, 0, none⟩ (.int .i64 p)).setCell ⟨q2, 0, none⟩ (.int .i64 x) = w2 at *
    obtain ⟨⟨a1, aa1, y1, yy1⟩, ⟨b1, b2⟩, ⟨d1, d2⟩⟩ := HQ2.out.facts2
    go_region
    go_wp2_with fail
    have HQ3 : Hid (Q3 w ((((w2.setCell ⟨n, 0, none⟩ (.string ⟨#[]⟩)).setCell ⟨n, 1, none⟩ (.slice none 0 0)).setCell ⟨q1, 0, none⟩ (.int .i64 p)).setCell ⟨q2, 0, none⟩ (.int .i64 x)) n q1 q2 [.string ⟨#[]⟩, .slice none 0 0] _ _ _) := ((((HQ2.out.set0 0 (.string ⟨#[]⟩)).set0 1 (.slice none 0 0)).set1 (.int .i64 p)).set2 (.int .i64 x))
    obtain ⟨⟨a3, aa3, y3, yy3⟩, ⟨b3, _⟩, ⟨d3, _⟩⟩ := HQ3.out.facts2
    refine ⟨.tuple #[.agg #[.string ⟨#[]⟩, .slice none 0 0], .int .i64 p, .int .i64 x], by simp [results, Tryz.results77, go_sem, a3, aa3, b3, d3], ?_⟩
    unfold OutP
    rw [HF.out, hn]
    exact ⟨HQ3.out.d.drew, rfl⟩
  | ok ts =>
    have HF : Hid (readF (termF 4) s.data.toList = endF ((termF 4) ts)) := by unfold Hid readF; rw [hlx]
    have HEN := Lib.hid (lexF_end hlx)
    have HLN := Lib.hid (lexF_len hlx)
    clear hlx
    rintro e w1 ⟨hb, g, cap, he, hown⟩
    subst he
    have HQ1 := Lib.hid (HQ0.out.grow (grown_of_below hb none) (fun k hk => by cases hk))
    have hlp : 0 < ts.length := List.length_pos_iff.2 HEN.out.ne
    have HTK := Lib.hid (Tk.of_own hown hlp)
    have HGL := Lib.hid (hown.lt g rfl)
    have HQL := Lib.hid (heap_lt HQ0.out.c)
    have HB := Lib.hid hb
    clear hb hown
    obtain ⟨⟨a1, aa1, y1, yy1⟩, ⟨b1, b2⟩, ⟨d1, d2⟩⟩ := HQ1.out.facts2
    generalize w.heap.size + 1 + 1 = q2 at *
    generalize w.heap.size + 1 = q1 at *
    have h01 : w.heap.size ≠ q1 := by have := HQ1.out.e1; omega
    have h02 : w.heap.size ≠ q2 := by have := HQ1.out.e2; omega
    have h12 : q1 ≠ q2 := by have := HQ1.out.e1; have := HQ1.out.e2; omega
    generalize hn : w.heap.size = n at *
    go_wp2_with fail
    have HQ2 := Lib.hid ((HQ1.out.set1 (.int .i64 0)).set2 (.int .i64 0))
    have hsz : ((w1.setCell ⟨q1, 0, none⟩ (.int .i64 0)).setCell ⟨q2, 0, none⟩ (.int .i64 0)).heap.size = w1.heap.size := by simp
    have HTK2 : Hid (Tk ((w1.setCell ⟨q1, 0, none⟩ (.int .i64 0)).setCell ⟨q2, 0, none⟩ (.int .i64 0)) g ts) := by
      have h1 := HGL.out.1
      have h2 := HQL.out
      have h3 := HQ1.out.e1
      have h4 := HQ1.out.e2
      exact HTK.out.keep ((Below.heap_setCell _ _ _ _ (by simp; omega)).trans (Below.heap_setCell _ _ _ _ (by simp; omega))) (by omega)
    have hgl := HGL.out.2
    have hql : q2 < w1.heap.size := heap_lt HQ1.out.c
    have hqg : q2 < g := by have h1 := HGL.out.1; have h2 := HQL.out; omega
    clear HQ1 HTK HGL HQL HB HQ0 a1 aa1 y1 yy1 b1 b2 d1 d2
    generalize (w1.setCell ⟨q1, 0, none⟩ (.int .i64 0)).setCell ⟨q2, 0, none⟩ (.int .i64 0) = w2 at *
    have hRD : Rd (w2.alloc (.cells #[.slice (some ⟨g, 0, none⟩) ts.length cap, .int .i64 0] 116)) w1.heap.size g cap ts ts 0 :=
      ⟨hlp, rfl, by rw [← hsz]; exact heap_alloc_new _ _, HTK2.out.keep (Below.heap_alloc _ _ _ (by omega)) (by simp), by omega, HLN.out, HEN.out⟩
    have HRD := Lib.hid hRD
    have HQ3 := Lib.hid (HQ2.out.grow (World.grownBy_alloc w2 (.cells #[.slice (some ⟨g, 0, none⟩) ts.length cap, .int .i64 0] 116) none) (fun k hk => by cases hk))
    have hs3 : (w2.alloc (.cells #[.slice (some ⟨g, 0, none⟩) ts.length cap, .int .i64 0] 116)).heap.size = w1.heap.size + 1 := by simp [hsz]
    clear hRD HQ2 HTK2 hsz
    generalize w2.alloc (.cells #[.slice (some ⟨g, 0, none⟩) ts.length cap, .int .i64 0] 116) = w3 at *
    generalize w1.heap.size = rb at *
    refine (term1_any w3 rb g cap ts ts 0 HRD.out).mono ?_
    cases hpf : (termF 4) ts with
    | err p x =>
      rw [hpf] at HF
      clear hpf
      rintro e' w4 ⟨rfl, hg4⟩
      have HQ4 := Lib.hid (HQ3.out.grow hg4 (fun k hk => by injection hk; omega))
      refine leaves_cons (f := 96) (args := #[.pointer (some ⟨n, 0, none⟩), .pointer (some ⟨q1, 0, none⟩), .pointer (some ⟨q2, 0, none⟩)]) (by simp) (by simp [go_sem]) ?_
      refine (rc_term n q1 q2 HQ4.out.e1 HQ4.out.e2 p x [] w4 _ _ _ _ _ HQ4.out.a HQ4.out.b HQ4.out.c).mono ?_
      rintro e u' w5 ⟨rfl, rfl, c0_0, c0_1, c1, c2, hb5⟩
      refine ⟨.tuple #[.agg #[.string ⟨#[]⟩, .slice none 0 0], .int .i64 p, .int .i64 x], by simp [results, Tryz.results77, go_sem, c0_0, c0_1, c1, c2], ?_⟩
      unfold OutP
      rw [HF.out, hn]
      exact ⟨HQ4.out.d.trans hb5, rfl⟩
    | ok l rest =>
      rw [hpf] at HF
      clear hpf
      rintro e' w4 ⟨x, rfl, hsl, ⟨⟨i4, hr4⟩, hg4⟩⟩
      obtain ⟨nm, A, cp, a, rfl, rfl⟩ := hsl.form
      have HQ4 := Lib.hid (HQ3.out.grow hg4 (fun k hk => by injection hk; omega))
      obtain ⟨⟨a1, aa1, y1, yy1⟩, ⟨b1, b2⟩, ⟨d1, d2⟩⟩ := HQ4.out.facts2
      have HQ5 : Hid (Q3 w ((w4.setCell ⟨n, 0, none⟩ (.string (bs nm))).setCell ⟨n, 1, none⟩ (.slice A a.length cp)) n q1 q2 [.string (bs nm), .slice A a.length cp] _ _ _) := ((HQ4.out.set0 0 (.string (bs nm))).set0 1 (.slice A a.length cp))
      have he1 := HQ4.out.e1
      have he2 := HQ4.out.e2
      have HR5 := Lib.hid (hr4.other (w' := ((w4.setCell ⟨n, 0, none⟩ (.string (bs nm))).setCell ⟨n, 1, none⟩ (.slice A a.length cp))) (grown_trans (grown_set _ n 0 _) (grown_set _ n 1 _)) (by omega) (by omega))
      have HS5 : Hid (TmV ((w4.setCell ⟨n, 0, none⟩ (.string (bs nm))).setCell ⟨n, 1, none⟩ (.slice A a.length cp)) (fun b => q2 < b) [.string (bs nm), .slice A a.length cp] (.mk nm a)) := keeps_tm _ _ _ _ _ _ hsl (fun b hb hlt => ⟨by omega, ((Below.heap_setCell _ _ _ _ (by simp; omega)).trans (Below.heap_setCell _ _ _ _ (by simp; omega)))⟩) (by simp)
      clear hsl hr4 hg4 HQ3 HRD he1 he2
      go_wp2_with fail
      clear a1 aa1 y1 yy1 b1 b2 d1 d2 HQ4
      generalize ((w4.setCell ⟨n, 0, none⟩ (.string (bs nm))).setCell ⟨n, 1, none⟩ (.slice A a.length cp)) = w5 at *
      clear w4
      have f0 := fld0
      refine (token_any HR5.out).mono ?_
      rintro e w6 ⟨rfl, hb6⟩
      have HQ6 := Lib.hid (HQ5.out.grow (grown_of_below hb6 none) (fun k hk => by cases hk))
      have HR6 := Lib.hid (HR5.out.below hb6)
      have HS6 : Hid (TmV w6 (fun b => q2 < b) [.string (bs nm), .slice A a.length cp] (.mk nm a)) := keeps_tm _ _ _ _ _ _ HS5.out (fun b hb hlt => ⟨hb, hb6.block b hlt⟩) hb6.size
      clear hb6 HQ5 HR5 HS5
      cases hk0 : (hd rest).kind == 0 with
      | true =>
        have HF2 : Hid (readF (termF 4) s.data.toList = .ok (.mk nm a)) := by unfold Hid; rw [HF.out]; unfold endF; simp only []; rw [if_pos hk0]
        clear HF
        generalize (hd rest).kind = kd at *
        obtain ⟨⟨a1, aa1, y1, yy1⟩, ⟨b1, b2⟩, ⟨d1, d2⟩⟩ := HQ6.out.facts2
        go_wp2_with fail
        have HQ7 : Hid (Q3 w ((((w6.setCell ⟨n, 0, none⟩ (.string (bs nm))).setCell ⟨n, 1, none⟩ (.slice A a.length cp)).setCell ⟨q1, 0, none⟩ (.int .i64 0)).setCell ⟨q2, 0, none⟩ (.int .i64 0)) n q1 q2 [.string (bs nm), .slice A a.length cp] _ _ _) := (((HQ6.out.set0 0 (.string (bs nm))).set0 1 (.slice A a.length cp)).set1 (.int .i64 0)).set2 (.int .i64 0)
        have HS7 : Hid (TmV ((((w6.setCell ⟨n, 0, none⟩ (.string (bs nm))).setCell ⟨n, 1, none⟩ (.slice A a.length cp)).setCell ⟨q1, 0, none⟩ (.int .i64 0)).setCell ⟨q2, 0, none⟩ (.int .i64 0)) (fun b => q2 < b) [.string (bs nm), .slice A a.length cp] (.mk nm a)) := by
          have e1 := HQ6.out.e1
          have e2 := HQ6.out.e2
          exact keeps_tm _ _ _ _ _ _ HS6.out (fun b hb hlt => ⟨hb, ((Below.heap_setCell _ _ _ _ (by simp; omega)).trans ((Below.heap_setCell _ _ _ _ (by simp; omega)).trans ((Below.heap_setCell _ _ _ _ (by simp; omega)).trans (Below.heap_setCell _ _ _ _ (by simp; omega)))))⟩) (by simp)
        clear HQ6 HS6 HR6 a1 aa1 y1 yy1 b1 b2 d1 d2
        generalize (((w6.setCell ⟨n, 0, none⟩ (.string (bs nm))).setCell ⟨n, 1, none⟩ (.slice A a.length cp)).setCell ⟨q1, 0, none⟩ (.int .i64 0)).setCell ⟨q2, 0, none⟩ (.int .i64 0) = w7 at *
        refine leaves_cons (f := 96) (args := #[.pointer (some ⟨n, 0, none⟩), .pointer (some ⟨q1, 0, none⟩), .pointer (some ⟨q2, 0, none⟩)]) (by simp) (by simp [go_sem]) ?_
        refine (ri_term n q1 q2 w7).mono ?_
        rintro e u' w8 ⟨rfl, rfl, hb8⟩
        have HQ8 := HQ7.out.grow (grown_of_below hb8 none) (fun k hk => by cases hk)
        obtain ⟨⟨a1, aa1, y1, yy1⟩, ⟨b1, _⟩, ⟨d1, _⟩⟩ := HQ8.facts2
        refine ⟨.tuple #[.agg #[.string (bs nm), .slice A a.length cp], .int .i64 0, .int .i64 0], by simp [results, Tryz.results77, go_sem, a1, aa1, b1, d1], ?_⟩
        unfold OutP
        rw [HF2.out, hn]
        refine ⟨HQ8.d, _, rfl, [.string (bs nm), .slice A a.length cp], rfl, keeps_tm _ _ _ _ _ _ HS7.out (fun b hb hlt => ⟨by have := HQ8.e2; omega, hb8.block b hlt⟩) hb8.size⟩
      | false =>
        have HF2 : Hid (readF (termF 4) s.data.toList = .err (hd rest).pos 1) := by unfold Hid; rw [HF.out]; unfold endF; simp only []; rw [if_neg (by rw [hk0]; exact Bool.false_ne_true)]
        clear HF
        generalize (hd rest).kind = kd at *
        go_wp2_with fail
        refine (fail_any HR6.out 1).mono ?_
        rintro e' w7 ⟨rfl, hb7⟩
        have HQ7 := Lib.hid (HQ6.out.grow (grown_of_below hb7 none) (fun k hk => by cases hk))
        refine leaves_cons (f := 96) (args := #[.pointer (some ⟨n, 0, none⟩), .pointer (some ⟨q1, 0, none⟩), .pointer (some ⟨q2, 0, none⟩)]) (by simp) (by simp [go_sem]) ?_
        refine (rc_term n q1 q2 HQ7.out.e1 HQ7.out.e2 (hd rest).pos 1 [] w7 _ _ _ _ _ HQ7.out.a HQ7.out.b HQ7.out.c).mono ?_
        rintro e u' w8 ⟨rfl, rfl, c0_0, c0_1, c1, c2, hb8⟩
        refine ⟨.tuple #[.agg #[.string ⟨#[]⟩, .slice none 0 0], .int .i64 (hd rest).pos, .int .i64 1], by simp [results, Tryz.results77, go_sem, c0_0, c0_1, c1, c2], ?_⟩
        unfold OutP
        rw [HF2.out, hn]
        exact ⟨HQ7.out.d.trans hb8, rfl⟩

end
end Go.Proofs.YtmplpbdldcokjaaGreatDoor
