/- Merged texts: The walk of the reference's Rules: the text of a description. printer.must, and the deferred closure of printer.Rules: what it does when the frame panics and when it returns. -/
import Derived.Test.YthkbnjojkeeffaaDoorGh
namespace Go.Proofs.YthkbnjojkeeffaaDoor
/- The walk of the reference's Rules: the text of a description. -/
section
open Go Go.RowKit Go.Shelf
set_option linter.unusedSimpArgs false

/-- the text of a description -/
def rulesT : List Ru → List UInt8
  | [] => []
  | r :: l => ruleT r ++ 10 :: rulesT l
theorem rulesT_take {l : List Ru} {k : Nat} {r : Ru} (h : l[k]? = some r) : rulesT (l.take (k + 1)) = rulesT (l.take k) ++ (ruleT r ++ [10]) := by
  induction l generalizing k with
  | nil => simp at h
  | cons a l ih =>
    cases k with
    | zero => simp at h; subst h; simp [rulesT]
    | succ k =>
      have := ih (k := k) (by simpa using h)
      simp [rulesT, this]
theorem rulesT_ok {l : List Ru} (h : l.all ruleOk = true) : (rulesT l).length ≤ l.length * 16385 := by
  induction l with
  | nil => simp [rulesT]
  | cons r l ih =>
    rw [List.all_cons, Bool.and_eq_true] at h
    have h1 := ok_len h.1
    have h2 := ih h.2
    rw [rulesT, List.length_cons, Nat.succ_mul]
    simp only [List.length_append, List.length_cons]
    omega
/-- what Rules returns -/
def rulesO (l : List Ru) : List UInt8 × Nat :=
  if 128 < l.length then ([], 2) else if l.all ruleOk = false then ([], 13) else if 16384 < (rulesT l).length then ([], 2) else (rulesT l, 0)

set_option maxHeartbeats 8000000 in
set_option maxRecDepth 100000 in
theorem rrules_any (w : World) (P : Nat → Prop) (A : Option Addr) (cp : Nat) (l : List Ru) (ha : SlV RuV 3 w P A l) (hP : ∀ b, P b → b < w.heap.size) (hl : l.length ≤ 9223372036854775807) (hw : ∀ r ∈ l, RuB r) :
    Calls Tryd.prog 23 #[.slice A l.length cp] w (OutB w (.tuple #[.string (bs (rulesO l).1), .int .i64 (rulesO l).2])) := by
  obtain ⟨xs', hxl, harr, hel⟩ := ha
  have HV := Lib.hid (And.intro hxl (And.intro harr (And.intro hel (And.intro hP hw))))
  have HR : Hid (∀ a (b : Nat), rulesO l = (a, b) → Ending.returned (Value.tuple #[.string (bs a), .int .i64 b]) = Ending.returned (Value.tuple #[.string (bs (rulesO l).1), .int .i64 (rulesO l).2])) := fun a b h => by rw [h]
  have HD : Hid (rulesO l = if 128 < l.length then ([], 2) else if l.all ruleOk = false then ([], 13) else if 16384 < (rulesT l).length then ([], 2) else (rulesT l, 0)) := rfl
  clear hxl harr hel hP hw
  by_cases h8 : 128 < l.length
  · have e1 : decide ((128 : Int) < (l.length : Int)) = true := decide_eq_true (by omega)
    go_enter Tryd.func23, Tryd.ntmps23
    go_wp2_with fail
    go_ret2
    exact ⟨HR.out [] 2 (by rw [HD.out, if_pos h8]), Below.refl _ _⟩
  have e1 : decide ((128 : Int) < (l.length : Int)) = false := decide_eq_false (by omega)
  go_enter Tryd.func23, Tryd.ntmps23
  go_wp2_with fail
  go_loopw [4, 5] (fun s i wr => ∃ k : Nat, k ≤ l.length ∧ i = .int .i64 k ∧ s = .string (bs (rulesT (l.take k))) ∧ Hid ((l.take k).all ruleOk = true ∧ Below w.heap.size w wr)) (fun _ i _ => l.length - (intOf i).toNat)
  case atStart => exact ⟨0, Nat.zero_le _, rfl, rfl, rfl, Below.refl _ _⟩
  case round =>
    obtain ⟨k, hk, rfl, rfl, HI⟩ := hrel
    by_cases hlk : k < l.length
    rotate_left
    focus
      obtain rfl : k = l.length := by omega
      have HA := Lib.hid HI.out.1
      have HB0 := Lib.hid HI.out.2
      clear HI
      rw [List.take_length] at HA ⊢
      have hsz : (bs (rulesT l)).size = (rulesT l).length := size_bs _
      by_cases h16 : 16384 < (rulesT l).length
      · have HRU := Lib.hid (HR.out [] 2 (by rw [HD.out, if_neg h8, if_neg (by rw [HA.out]; decide), if_pos h16]))
        have e2 : decide ((16384 : Int) < ((bs (rulesT l)).size : Int)) = true := decide_eq_true (by omega)
        have e3 : 16384 < (bs (rulesT l)).size := by omega
        clear hsz h16
        generalize bs (rulesT l) = s0 at *
        go_wp2_with fail
        go_ret2
        exact ⟨HRU.out, HB0.out⟩
      · have HRU := Lib.hid (HR.out (rulesT l) 0 (by rw [HD.out, if_neg h8, if_neg (by rw [HA.out]; decide), if_neg h16]))
        have e2 : decide ((16384 : Int) < ((bs (rulesT l)).size : Int)) = false := decide_eq_false (by omega)
        have e3 : ¬ 16384 < (bs (rulesT l)).size := by omega
        clear hsz h16
        generalize bs (rulesT l) = s0 at *
        go_wp2_with fail
        go_ret2
        exact ⟨HRU.out, HB0.out⟩
    obtain ⟨r, hr⟩ : ∃ r, l[k]? = some r := ⟨_, List.getElem?_eq_getElem hlk⟩
    obtain ⟨x, hx⟩ : ∃ x, xs'[k]? = some x := ⟨_, List.getElem?_eq_getElem (by rw [HV.out.1]; exact hlk)⟩
    have hv := HV.out.2.2.1 k x r hx hr
    have hrw := HV.out.2.2.2.2 _ (List.mem_of_getElem? hr)
    obtain ⟨hd, body⟩ := r
    obtain ⟨y', A2, cp2, rfl, hvt, hsl⟩ := hv
    obtain ⟨nm', A', cp', l', rfl, hh⟩ := hvt.form
    simp only at hh hvt hsl
    subst hh
    obtain ⟨b0, o0, rfl, hb0, hbl, hc⟩ := HV.out.2.1 (by rw [HV.out.1]; omega)
    have F := Lib.hid (fun (y : World) (hy : Below w.heap.size w y) => And.intro ((hy.cell (p := ⟨b0, o0 + k * 3, none⟩) hbl).trans (hc k _ hx 0 _ rfl)) (And.intro ((hy.cell (p := ⟨b0, o0 + k * 3 + 1, none⟩) hbl).trans (hc k _ hx 1 _ rfl)) ((hy.cell (p := ⟨b0, o0 + k * 3 + 2, none⟩) hbl).trans (hc k _ hx 2 _ rfl))))
    have hst := rulesT_take hr
    have CV := Lib.hid (fun (y : World) (hy : Below w.heap.size w y) => rrvalidx_any y P nm' A' cp' l' A2 cp2 body (hvt.keep (fun b' hp hb' => ⟨hp, hy.block b' hb'⟩) hy.size) (hsl.keep keeps_li (fun b' hp hb' => ⟨hp, hy.block b' hb'⟩) hy.size) (fun b' hp => Nat.lt_of_lt_of_le (HV.out.2.2.2.1 b' hp) hy.size) hrw.head hrw.len hrw.lits)
    have CT := Lib.hid (fun (hok : ruleOk ⟨.mk nm' l', body⟩ = true) (y : World) (hy : Below w.heap.size w y) => rrulex_any y P nm' A' cp' l' A2 cp2 body (hvt.keep (fun b' hp hb' => ⟨hp, hy.block b' hb'⟩) hy.size) (hsl.keep keeps_li (fun b' hp hb' => ⟨hp, hy.block b' hb'⟩) hy.size) (fun b' hp => Nat.lt_of_lt_of_le (HV.out.2.2.2.1 b' hp) hy.size) (Nat.le_trans (ok_ruw hok).head (by omega)) (Nat.le_trans (ok_ruw hok).len (by omega)) (fun t ht => Nat.le_trans ((ok_ruw hok).lits t ht) (by omega)) (fun j => Nat.le_trans ((ok_ruw hok).text j) (by omega)))
    have hml := rulesT_ok HI.out.1
    have hmk := List.length_take_le k l
    have HS := Lib.hid (fun (h : ruleOk ⟨.mk nm' l', body⟩ = true) => (show (l.take (k + 1)).all ruleOk = true from (allx_take ruleOk hr).trans (by rw [HI.out.1]; exact h)))
    have HF := Lib.hid (fun (h : ruleOk ⟨.mk nm' l', body⟩ = false) => HR.out [] 13 (by rw [HD.out, if_neg h8, if_pos (allx_no ruleOk hr h)]))
    have HB0 := Lib.hid HI.out.2
    have f := F.out wr HB0.out
    have f0 := f.1
    have f1 := f.2.1
    have f2 := f.2.2
    clear hvt hsl hx hc hr hrw HI f
    cases hqq : ruleOk ⟨.mk nm' l', body⟩
    · rw [hqq] at CV
      have HF2 := Lib.hid (HF.out hqq)
      clear hqq CT HF HS hst hml hmk
      go_wp2_with fail
      refine (CV.out _ HB0.out).mono ?_
      rintro e w4 ⟨rfl, hb⟩
      have HB5 := Lib.hid (HB0.out.trans (hb.mono HB0.out.size))
      clear hb
      go_wp2_with fail
      go_ret2
      exact ⟨HF2.out, HB5.out⟩
    · rw [hqq] at CV
      have HS2 := Lib.hid (HS.out hqq)
      have CT2 := Lib.hid (CT.out hqq)
      have hrl := ok_len hqq
      clear CT HF HS
      have HST := Lib.hid hst
      have hadd1 : ∀ y : World, (Op.stringOp .add (bs (rulesT (l.take k))) (bs (ruleT ⟨.mk nm' l', body⟩))).run Tryd.prog y = .ok (.string (bs (rulesT (l.take k) ++ ruleT ⟨.mk nm' l', body⟩))) y := fun y => str_add_l _ _ (by omega)
      have hadd2 : ∀ y : World, (Op.stringOp .add (bs (rulesT (l.take k) ++ ruleT ⟨.mk nm' l', body⟩)) ⟨#[10]⟩).run Tryd.prog y = .ok (.string (bs (rulesT (l.take (k + 1))))) y := fun y => by
        have := str_add_l (P := Tryd.prog) (w := y) (rulesT (l.take k) ++ ruleT ⟨.mk nm' l', body⟩) [10] (by simp; omega)
        rw [HST.out, ← List.append_assoc]
        exact this
      clear hst hrl hml hmk hqq
      generalize hq : bs (rulesT (l.take (k + 1))) = s2 at *
      have HQ := Lib.hid hq
      clear hq
      generalize bs (rulesT (l.take k) ++ ruleT ⟨.mk nm' l', body⟩) = s1 at *
      generalize bs (rulesT (l.take k)) = s0 at *
      generalize bs (ruleT ⟨.mk nm' l', body⟩) = st at *
      go_wp2_with fail
      refine (CV.out _ HB0.out).mono ?_
      rintro e w4 ⟨rfl, hb⟩
      have HB5 := Lib.hid (HB0.out.trans (hb.mono HB0.out.size))
      clear hb f0 f1 f2
      have f := F.out w4 HB5.out
      have f0 := f.1
      have f1 := f.2.1
      have f2 := f.2.2
      clear f
      go_wp2_with fail
      refine (CT2.out _ HB5.out).mono ?_
      rintro e w5 ⟨rfl, hb⟩
      have HB6 := Lib.hid (HB5.out.trans (hb.mono HB5.out.size))
      clear hb
      go_wp2_with fail
      go_roundw
      case rel => exact ⟨k + 1, by omega, by go_num, by rw [HQ.out], HS2.out, HB6.out⟩
      case measure => simp [intOf]; omega

end
/- printer.must, and the deferred closure of printer.Rules: what it does when the frame panics and when it returns. -/
section
open Go Go.RowKit Go.Shelf
set_option linter.unusedSimpArgs false

/-- a panic with an error number -/
def ErrP (x : Int) : Ending := .panicked [{ v := .iface 38 (.int .i64 x), recovered := false }]
set_option maxRecDepth 100000 in
theorem must_yes (w : World) (x : Int) : Calls Tryd.prog 38 #[.bool true, .int .i64 x] w fun e w' => e = .returned (.tuple #[]) ∧ Below w.heap.size w w' := by
  go_enter Tryd.func38, Tryd.ntmps38
  go_wp2_with fail
  exact ⟨rfl, .tuple #[], by simp [results, Tryd.results38, go_sem], rfl, Below.refl _ _⟩
set_option maxRecDepth 100000 in
theorem must_no (w : World) (x : Int) : Calls Tryd.prog 38 #[.bool false, .int .i64 x] w fun e w' => e = ErrP x ∧ Below w.heap.size w w' := by
  go_enter Tryd.func38, Tryd.ntmps38
  go_wp2_with fail
  exact ⟨rfl, rfl, Below.refl _ _⟩
theorem tae_yes (w : World) (k : Int) : (Instr.typeAssert (.iface 38 (.int .i64 k)) 20 38 true).run Tryd.prog w = .ok (.tuple #[.int .i64 k, .bool true]) w := by kernel_rfl
theorem tae_no (w : World) : (Instr.typeAssert .nilIface 20 38 true).run Tryd.prog w = .ok (.tuple #[.int .i64 0, .bool false]) w := by kernel_rfl

set_option maxHeartbeats 4000000 in
set_option maxRecDepth 100000 in
theorem rc_rules (q0 q1 : Nat) (hq1 : q1 = q0 + 1) (k : Int) (older : List PanicEntry) (w : World) (x0 x1 : Value) (t0 : TypeId)
    (h0 : w.heap[q0]? = some (.cells #[x0] t0 (0, 0))) (h1 : w.heap[q1]? = some (.cells #[x1] 38 (0, 0))) :
    CallsD Tryd.prog 37 #[.pointer (some ⟨q0, 0, none⟩), .pointer (some ⟨q1, 0, none⟩)] (.panicking ({ v := .iface 38 (.int .i64 k), recovered := false } :: older)) w fun e u' w' =>
      e = .returned (.tuple #[]) ∧ u' = .panicking ({ v := .iface 38 (.int .i64 k), recovered := true } :: older) ∧
      w'.cell? ⟨q0, 0, none⟩ = some (.string ⟨#[]⟩) ∧ w'.cell? ⟨q1, 0, none⟩ = some (.int .i64 k) ∧ Below q0 w w' := by
  obtain ⟨c0, f0⟩ := cells_one h0
  obtain ⟨c1, f1⟩ := cells_one h1
  have h01 : q0 ≠ q1 := by omega
  have hqb1 : q0 ≤ q1 := by omega
  have HQ := Lib.hid hqb1
  clear h0 h1 hq1 hqb1
  refine callsD_of_wpS Tryd.func37 rfl fun c₀ cs hu => ?_
  simp only [Tryd.ntmps37, List.size_toArray, List.length_cons, List.length_nil, Nat.reduceAdd, Nat.reduceSub, Array.replicate_succ, Array.replicate_zero, List.push_toArray, List.append_toArray, List.nil_append, List.cons_append]
  apply wpS_seq
  apply wpS_region_of
  have hrc := recoverD_p (cs := cs) hu
  refine WpL_recover (by rfl) (run_recover _ _ _ _ _ _) hrc ?_
  clear hrc
  have hta := tae_yes
  simp only [Act.put, List.setIfInBounds_toArray, List.set_cons_zero, List.set_cons_succ]
  repeat (refine WpL_wp (by rfl) ?_; go_simp)
  refine WpL_done ?_
  simp only [Exit.thenS]
  refine wpS_of_wp ?_
  go_wp2_with fail
  refine ⟨rfl, _, rfl, .tuple #[], by simp [results, Tryd.results37, go_sem], rfl, rfl, ?_, ?_, ?_⟩
  · simp [go_sem, c0, c1, h01, Ne.symm h01]
  · simp [go_sem, c0, c1, h01, Ne.symm h01]
  · exact below_set (below_set (Below.refl _ _) _ _ _ (Nat.le_refl _)) _ _ _ HQ.out

set_option maxHeartbeats 4000000 in
set_option maxRecDepth 100000 in
theorem ri_rules (q0 q1 : Nat) (w : World) :
    CallsD Tryd.prog 37 #[.pointer (some ⟨q0, 0, none⟩), .pointer (some ⟨q1, 0, none⟩)] .returning w fun e u' w' =>
      e = .returned (.tuple #[]) ∧ u' = .returning ∧ Below w.heap.size w w' := by
  refine callsD_of_wpS Tryd.func37 rfl fun c₀ cs hu => ?_
  simp only [Tryd.ntmps37, List.size_toArray, List.length_cons, List.length_nil, Nat.reduceAdd, Nat.reduceSub, Array.replicate_succ, Array.replicate_zero, List.push_toArray, List.append_toArray, List.nil_append, List.cons_append]
  apply wpS_seq
  apply wpS_region_of
  have hrc := recoverD_r (cs := cs) hu
  refine WpL_recover_none (by rfl) (run_recover _ _ _ _ _ _) hrc ?_
  clear hrc
  have hta := tae_no
  simp only [Act.put, List.setIfInBounds_toArray, List.set_cons_zero, List.set_cons_succ]
  repeat (refine WpL_wp (by rfl) ?_; go_simp)
  refine WpL_done ?_
  simp only [Exit.thenS]
  refine wpS_of_wp ?_
  go_wp2_with fail
  refine ⟨rfl, _, by rw [← hu], .tuple #[], by simp [results, Tryd.results37, go_sem], rfl, rfl, ?_⟩
  exact Below.refl _ _

end
end Go.Proofs.YthkbnjojkeeffaaDoor
