/- The deferred closures of parser.read: what they do when the frame panics and when it returns. -/
import Derived.Test.YthkbnjojkeeffaaDoorTs
import Derived.Recover
import Derived.Defers
namespace Go.Proofs.YthkbnjojkeeffaaDoor
open Go Go.RowKit
set_option linter.unusedSimpArgs false

section
variable {P : Program} {ops : Array Oper} {Q : Exit → Act → List Frame → World → Prop} {a : Act} {cs cs' : List Frame} {w : World} {rest : List Oper} {o : Oper}
def WpL (P : Program) (ops : Array Oper) (Q : Exit → Act → List Frame → World → Prop) : List Oper → Act → List Frame → World → Prop
  | [], a, cs, w => Q .normal a cs w
  | o :: rest, a, cs, w =>
      if Region.wanted o (yielded ops a.tmps) then
        match (execOp a.eval o).run P w with
        | .ok .recover w' =>
          match recoverD cs with
          | some (v, cs') => WpL P ops Q rest (a.put o.dst v) cs' w'
          | none => WpL P ops Q rest (a.put o.dst .nilIface) cs w'
        | r => o.upon P a (fun a' w' => WpL P ops Q rest a' cs w') (fun e a' w' => Q e a' cs w') r
      else WpL P ops Q rest (a.put o.dst undef) cs w
theorem wpOpsS_eq_WpL (l : List Oper) : ∀ k, (∀ j, l[j]? = ops[k + j]?) → wpOpsS P ops Q (List.range' k l.length) = WpL P ops Q l := by
  induction l with
  | nil => intro k _; funext a cs w; simp [wpOpsS, WpL]
  | cons o l ih =>
    intro k h
    have h0 : ops[k]? = some o := by simpa using (h 0).symm
    have ih' := ih (k + 1) (fun j => by have := h (j + 1); simpa [Nat.add_assoc, Nat.add_comm 1 j] using this)
    funext a cs w
    simp only [List.length_cons, List.range'_succ, wpOpsS, h0, WpL, ih']
    rfl
theorem WpL_wp (hw : Region.wanted o (yielded ops a.tmps) = true) (h : o.wp P a w (fun a' w' => WpL P ops Q rest a' cs w') (fun e a' w' => Q e a' cs w')) :
    WpL P ops Q (o :: rest) a cs w := by
  unfold Oper.wp at h
  unfold WpL
  simp only [hw, if_true]
  split
  · rename_i w' hr
    rw [hr] at h
    exact h.elim
  · exact h
theorem WpL_recover {v : Value} {w' : World} (hw : Region.wanted o (yielded ops a.tmps) = true) (hr : (execOp a.eval o).run P w = .ok .recover w') (hc : recoverD cs = some (v, cs'))
    (h : WpL P ops Q rest (a.put o.dst v) cs' w') : WpL P ops Q (o :: rest) a cs w := by
  unfold WpL
  simp only [hw, if_true, hr, hc]
  exact h
theorem WpL_recover_none {w' : World} (hw : Region.wanted o (yielded ops a.tmps) = true) (hr : (execOp a.eval o).run P w = .ok .recover w') (hc : recoverD cs = none)
    (h : WpL P ops Q rest (a.put o.dst .nilIface) cs w') : WpL P ops Q (o :: rest) a cs w := by
  unfold WpL
  simp only [hw, if_true, hr, hc]
  exact h
theorem WpL_done (h : Q .normal a cs w) : WpL P ops Q [] a cs w := h
attribute [irreducible] WpL
theorem wpS_region_of {id : Nat} {l : List Oper} (h : WpL P l.toArray Q l a cs w) : (Code.region id l.toArray false).wpS P Q a cs w := by
  refine wpS_region ?_
  rw [List.range_eq_range', List.size_toArray, wpOpsS_eq_WpL l 0 (by simp)]
  exact h
end
theorem recoverD_p {c₀ : Frame} {cs : List Frame} {v : Value} {older : List PanicEntry} (hu : c₀.mode = .panicking ({ v := v, recovered := false } :: older)) :
    recoverD (c₀ :: cs) = some (v, { c₀ with mode := .panicking ({ v := v, recovered := true } :: older) } :: cs) := by
  simp [recoverD, hu]
theorem recoverD_r {c₀ : Frame} {cs : List Frame} (hu : c₀.mode = .returning) : recoverD (c₀ :: cs) = none := by
  simp [recoverD, hu]
theorem run_recover (a : Act) (w : World) (dst : Option Nat) (ty : TypeId) (pos : String) (after : Array Edge) :
    (execOp a.eval { dst := dst, op := .call { callee := .builtin .recover, args := #[], argTypes := #[] }, type := ty, pos := pos, after := after, guard := none }).run Tryd.prog w = .ok .recover w := by
  simp [go_sem]
theorem ta_yes (w : World) (v : Value) : (Instr.typeAssert (.iface 92 v) 20 92 true).run Tryd.prog w = .ok (.tuple #[v, .bool true]) w := by kernel_rfl
theorem ta_no (w : World) : (Instr.typeAssert .nilIface 20 92 true).run Tryd.prog w = .ok (.tuple #[.agg #[.int .i64 0, .int .i64 0], .bool false]) w := by kernel_rfl

theorem cells_one {w : World} {b : Nat} {x : Value} {t : TypeId} (h : w.heap[b]? = some (.cells #[x] t (0, 0))) : w.cell? ⟨b, 0, none⟩ = some x ∧ w.frozen? ⟨b, 0, none⟩ = false := by
  refine ⟨?_, ?_⟩
  · rw [cell_of_row w b 0 _ _ _ h]; rfl
  · simp [World.frozen?, h]
theorem below_set {n : Nat} {a w : World} (h : Below n a w) (b o : Nat) (u : Value) (hb : n ≤ b) : Below n a (w.setCell ⟨b, o, none⟩ u) := h.setCell (p := ⟨b, o, none⟩) hb u

set_option maxHeartbeats 4000000 in
set_option maxRecDepth 100000 in
theorem rc_parse (q0 q1 q2 : Nat) (hq1 : q1 = q0 + 1) (hq2 : q2 = q0 + 2) (p k : Int) (older : List PanicEntry) (w : World) (x0' x1 x2 : Value) (t0 : TypeId)
    (h0 : w.heap[q0]? = some (.cells #[x0'] t0 (0, 0))) (h1 : w.heap[q1]? = some (.cells #[x1] 3 (0, 0))) (h2 : w.heap[q2]? = some (.cells #[x2] 38 (0, 0))) :
    CallsD Tryd.prog 61 #[.pointer (some ⟨q0, 0, none⟩), .pointer (some ⟨q1, 0, none⟩), .pointer (some ⟨q2, 0, none⟩)] (.panicking ({ v := .iface 92 (.agg #[.int .i64 p, .int .i64 k]), recovered := false } :: older)) w fun e u' w' =>
      e = .returned (.tuple #[]) ∧ u' = .panicking ({ v := .iface 92 (.agg #[.int .i64 p, .int .i64 k]), recovered := true } :: older) ∧
      w'.cell? ⟨q0, 0, none⟩ = some (.slice none 0 0) ∧ w'.cell? ⟨q1, 0, none⟩ = some (.int .i64 p) ∧ w'.cell? ⟨q2, 0, none⟩ = some (.int .i64 k) ∧ Below q0 w w' := by
  have hl0 := heap_lt h0
  have hl1 := heap_lt h1
  have hl2 := heap_lt h2
  have hb : Below w.heap.size w (w.alloc (.cells #[.int .i64 p, .int .i64 k] 92)) := (Below.refl _ _).alloc (Nat.le_refl _) _
  have HB := Lib.hid (hb.mono (Nat.le_of_lt hl0))
  obtain ⟨c0, f0⟩ := cells_one ((hb.block q0 hl0).trans h0)
  obtain ⟨c1, f1⟩ := cells_one ((hb.block q1 hl1).trans h1)
  obtain ⟨c2, f2⟩ := cells_one ((hb.block q2 hl2).trans h2)
  obtain ⟨e0, e1, _, _⟩ := cells_two (heap_alloc_new w (.cells #[.int .i64 p, .int .i64 k] 92))
  have hn0 : q0 ≠ w.heap.size := by omega
  have hn1 : q1 ≠ w.heap.size := by omega
  have hn2 : q2 ≠ w.heap.size := by omega
  have h01 : q0 ≠ q1 := by omega
  have h02 : q0 ≠ q2 := by omega
  have h12 : q1 ≠ q2 := by omega
  have hqb1 : q0 ≤ q1 := by omega
  have hqb2 : q0 ≤ q2 := by omega
  have HQ := Lib.hid (And.intro hqb1 hqb2)
  clear h0 h1 h2 hb hq1 hq2 hl0 hl1 hl2 hqb1 hqb2
  refine callsD_of_wpS Tryd.func61 rfl fun c₀ cs hu => ?_
  simp only [Tryd.ntmps61, List.size_toArray, List.length_cons, List.length_nil, Nat.reduceAdd, Nat.reduceSub, Array.replicate_succ, Array.replicate_zero, List.push_toArray, List.append_toArray, List.nil_append, List.cons_append]
  apply wpS_seq
  apply wpS_region_of
  have hrc := recoverD_p (cs := cs) hu
  refine WpL_recover (by rfl) (run_recover _ _ _ _ _ _) hrc ?_
  clear hrc
  have hta := ta_yes
  simp only [Act.put, List.setIfInBounds_toArray, List.set_cons_zero, List.set_cons_succ]
  repeat (refine WpL_wp (by rfl) ?_; go_simp)
  refine WpL_done ?_
  simp only [Exit.thenS]
  refine wpS_of_wp ?_
  go_wp2_with fail
  generalize w.alloc (.cells #[.int .i64 p, .int .i64 k] 92) = w1 at *
  generalize w.heap.size = bt at *
  go_region
  go_wp2_with fail
  refine ⟨rfl, _, rfl, .tuple #[], by simp [results, Tryd.results61, go_sem], rfl, rfl, ?_, ?_, ?_, ?_⟩
  · simp [go_sem, c0, c1, c2, h01, h02, h12, Ne.symm h01, Ne.symm h02, Ne.symm h12]
  · simp [go_sem, c0, c1, c2, h01, h02, h12, Ne.symm h01, Ne.symm h02, Ne.symm h12]
  · simp [go_sem, c0, c1, c2, h01, h02, h12, Ne.symm h01, Ne.symm h02, Ne.symm h12]
  · exact (below_set (below_set (below_set HB.out _ _ _ (Nat.le_refl _)) _ _ _ HQ.out.1) _ _ _ HQ.out.2).drew

set_option maxHeartbeats 4000000 in
set_option maxRecDepth 100000 in
theorem ri_parse (q0 q1 q2 : Nat) (w : World) :
    CallsD Tryd.prog 61 #[.pointer (some ⟨q0, 0, none⟩), .pointer (some ⟨q1, 0, none⟩), .pointer (some ⟨q2, 0, none⟩)] .returning w fun e u' w' =>
      e = .returned (.tuple #[]) ∧ u' = .returning ∧ Below w.heap.size w w' := by
  refine callsD_of_wpS Tryd.func61 rfl fun c₀ cs hu => ?_
  simp only [Tryd.ntmps61, List.size_toArray, List.length_cons, List.length_nil, Nat.reduceAdd, Nat.reduceSub, Array.replicate_succ, Array.replicate_zero, List.push_toArray, List.append_toArray, List.nil_append, List.cons_append]
  apply wpS_seq
  apply wpS_region_of
  have hrc := recoverD_r (cs := cs) hu
  refine WpL_recover_none (by rfl) (run_recover _ _ _ _ _ _) hrc ?_
  clear hrc
  have hta := ta_no
  simp only [Act.put, List.setIfInBounds_toArray, List.set_cons_zero, List.set_cons_succ]
  repeat (refine WpL_wp (by rfl) ?_; go_simp)
  refine WpL_done ?_
  simp only [Exit.thenS]
  refine wpS_of_wp ?_
  go_wp2_with fail
  refine ⟨rfl, _, by rw [← hu], .tuple #[], by simp [results, Tryd.results61, go_sem], rfl, rfl, ?_⟩
  exact (Below.refl _ _).alloc (Nat.le_refl _) _

set_option maxHeartbeats 4000000 in
set_option maxRecDepth 100000 in
theorem rc_rule (q0 q1 q2 : Nat) (hq1 : q1 = q0 + 1) (hq2 : q2 = q0 + 2) (p k : Int) (older : List PanicEntry) (w : World) (x0' x1' x2' x1 x2 : Value) (t0 : TypeId)
    (h0 : w.heap[q0]? = some (.cells #[x0', x1', x2'] t0 (0, 0))) (h1 : w.heap[q1]? = some (.cells #[x1] 3 (0, 0))) (h2 : w.heap[q2]? = some (.cells #[x2] 38 (0, 0))) :
    CallsD Tryd.prog 64 #[.pointer (some ⟨q0, 0, none⟩), .pointer (some ⟨q1, 0, none⟩), .pointer (some ⟨q2, 0, none⟩)] (.panicking ({ v := .iface 92 (.agg #[.int .i64 p, .int .i64 k]), recovered := false } :: older)) w fun e u' w' =>
      e = .returned (.tuple #[]) ∧ u' = .panicking ({ v := .iface 92 (.agg #[.int .i64 p, .int .i64 k]), recovered := true } :: older) ∧
      w'.cell? ⟨q0, 0, none⟩ = some (.string ⟨#[]⟩) ∧ w'.cell? ⟨q0, 1, none⟩ = some (.slice none 0 0) ∧ w'.cell? ⟨q0, 2, none⟩ = some (.slice none 0 0) ∧ w'.cell? ⟨q1, 0, none⟩ = some (.int .i64 p) ∧ w'.cell? ⟨q2, 0, none⟩ = some (.int .i64 k) ∧ Below q0 w w' := by
  have hl0 := heap_lt h0
  have hl1 := heap_lt h1
  have hl2 := heap_lt h2
  have hb : Below w.heap.size w ((w.alloc (.cells #[.int .i64 p, .int .i64 k] 92)).alloc (.cells #[.string ⟨#[]⟩, .slice none 0 0, .slice none 0 0] 27)) := ((Below.refl _ _).alloc (Nat.le_refl _) _).alloc (by simp) _
  have HB := Lib.hid (hb.mono (Nat.le_of_lt hl0))
  obtain ⟨c0, d1, d2, f0, g1, g2⟩ := cells_three ((hb.block q0 hl0).trans h0)
  obtain ⟨c1, f1⟩ := cells_one ((hb.block q1 hl1).trans h1)
  obtain ⟨c2, f2⟩ := cells_one ((hb.block q2 hl2).trans h2)
  obtain ⟨e0, e1, _, _⟩ := cells_two ((Below.heap_alloc (w.alloc (.cells #[.int .i64 p, .int .i64 k] 92)) (.cells #[.string ⟨#[]⟩, .slice none 0 0, .slice none 0 0] 27) w.heap.size (by simp)).trans (heap_alloc_new w (.cells #[.int .i64 p, .int .i64 k] 92)))
  obtain ⟨z0, z1, z2, _, _, _⟩ := cells_three (heap_alloc_new (w.alloc (.cells #[.int .i64 p, .int .i64 k] 92)) (.cells #[.string ⟨#[]⟩, .slice none 0 0, .slice none 0 0] 27))
  have hs1 : (w.alloc (.cells #[.int .i64 p, .int .i64 k] 92)).heap.size = w.heap.size + 1 := by simp
  rw [hs1] at z0 z1 z2
  have hm0 : q0 ≠ w.heap.size + 1 := by omega
  have hm1 : q1 ≠ w.heap.size + 1 := by omega
  have hm2 : q2 ≠ w.heap.size + 1 := by omega
  have hn0 : q0 ≠ w.heap.size := by omega
  have hn1 : q1 ≠ w.heap.size := by omega
  have hn2 : q2 ≠ w.heap.size := by omega
  have h01 : q0 ≠ q1 := by omega
  have h02 : q0 ≠ q2 := by omega
  have h12 : q1 ≠ q2 := by omega
  have hqb1 : q0 ≤ q1 := by omega
  have hqb2 : q0 ≤ q2 := by omega
  have HQ := Lib.hid (And.intro hqb1 hqb2)
  clear h0 h1 h2 hb hq1 hq2 hl0 hl1 hl2 hqb1 hqb2
  refine callsD_of_wpS Tryd.func64 rfl fun c₀ cs hu => ?_
  simp only [Tryd.ntmps64, List.size_toArray, List.length_cons, List.length_nil, Nat.reduceAdd, Nat.reduceSub, Array.replicate_succ, Array.replicate_zero, List.push_toArray, List.append_toArray, List.nil_append, List.cons_append]
  apply wpS_seq
  apply wpS_region_of
  have hrc := recoverD_p (cs := cs) hu
  refine WpL_recover (by rfl) (run_recover _ _ _ _ _ _) hrc ?_
  clear hrc
  have hta := ta_yes
  simp only [Act.put, List.setIfInBounds_toArray, List.set_cons_zero, List.set_cons_succ]
  repeat (refine WpL_wp (by rfl) ?_; go_simp)
  refine WpL_done ?_
  simp only [Exit.thenS]
  refine wpS_of_wp ?_
  go_wp2_with fail
  generalize (w.alloc (.cells #[.int .i64 p, .int .i64 k] 92)).alloc (.cells #[.string ⟨#[]⟩, .slice none 0 0, .slice none 0 0] 27) = w1 at *
  generalize w.heap.size = bt at *
  go_region
  go_wp2_with fail
  refine ⟨rfl, _, rfl, .tuple #[], by simp [results, Tryd.results64, go_sem], rfl, rfl, ?_, ?_, ?_, ?_, ?_, ?_⟩
  · simp [go_sem, c0, d1, d2, c1, c2, h01, h02, h12, Ne.symm h01, Ne.symm h02, Ne.symm h12]
  · simp [go_sem, c0, d1, d2, c1, c2, h01, h02, h12, Ne.symm h01, Ne.symm h02, Ne.symm h12]
  · simp [go_sem, c0, d1, d2, c1, c2, h01, h02, h12, Ne.symm h01, Ne.symm h02, Ne.symm h12]
  · simp [go_sem, c0, d1, d2, c1, c2, h01, h02, h12, Ne.symm h01, Ne.symm h02, Ne.symm h12]
  · simp [go_sem, c0, d1, d2, c1, c2, h01, h02, h12, Ne.symm h01, Ne.symm h02, Ne.symm h12]
  · exact (below_set (below_set (below_set (below_set (below_set HB.out _ _ _ (Nat.le_refl _)) _ _ _ (Nat.le_refl _)) _ _ _ (Nat.le_refl _)) _ _ _ HQ.out.1) _ _ _ HQ.out.2).drew

set_option maxHeartbeats 4000000 in
set_option maxRecDepth 100000 in
theorem ri_rule (q0 q1 q2 : Nat) (w : World) :
    CallsD Tryd.prog 64 #[.pointer (some ⟨q0, 0, none⟩), .pointer (some ⟨q1, 0, none⟩), .pointer (some ⟨q2, 0, none⟩)] .returning w fun e u' w' =>
      e = .returned (.tuple #[]) ∧ u' = .returning ∧ Below w.heap.size w w' := by
  refine callsD_of_wpS Tryd.func64 rfl fun c₀ cs hu => ?_
  simp only [Tryd.ntmps64, List.size_toArray, List.length_cons, List.length_nil, Nat.reduceAdd, Nat.reduceSub, Array.replicate_succ, Array.replicate_zero, List.push_toArray, List.append_toArray, List.nil_append, List.cons_append]
  apply wpS_seq
  apply wpS_region_of
  have hrc := recoverD_r (cs := cs) hu
  refine WpL_recover_none (by rfl) (run_recover _ _ _ _ _ _) hrc ?_
  clear hrc
  have hta := ta_no
  simp only [Act.put, List.setIfInBounds_toArray, List.set_cons_zero, List.set_cons_succ]
  repeat (refine WpL_wp (by rfl) ?_; go_simp)
  refine WpL_done ?_
  simp only [Exit.thenS]
  refine wpS_of_wp ?_
  go_wp2_with fail
  refine ⟨rfl, _, by rw [← hu], .tuple #[], by simp [results, Tryd.results64, go_sem], rfl, rfl, ?_⟩
  exact (Below.refl _ _).alloc (Nat.le_refl _) _

end Go.Proofs.YthkbnjojkeeffaaDoor
