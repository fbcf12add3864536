/- Merged texts: The walk of printer.Rules. The walk of printer.Format. -/
import Derived.Test.YthkbnjojkeeffaaDoorXi
namespace Go.Proofs.YthkbnjojkeeffaaDoor
/- The walk of printer.Rules. -/
section
open Go Go.RowKit Go.Shelf
set_option linter.unusedSimpArgs false

/-- the two results' blocks -/
structure Q2 (w0 w : World) (n q1 : Nat) (x0 x1 : Value) : Prop where
  a : w.heap[n]? = some (.cells #[x0] 9 (0, 0))
  b : w.heap[q1]? = some (.cells #[x1] 38 (0, 0))
  d : Below n w0 w
  e1 : q1 = n + 1
section
variable {w0 w w' : World} {n q1 : Nat} {x0 x1 : Value}
theorem Q2.below (h : Q2 w0 w n q1 x0 x1) {B : Nat} (hb : Below B w w') (hB : q1 < B) : Q2 w0 w' n q1 x0 x1 :=
  ⟨(hb.block n (by have := h.e1; omega)).trans h.a, (hb.block q1 hB).trans h.b, h.d.trans (hb.mono (by have := h.e1; omega)), h.e1⟩
theorem Q2.setA (h : Q2 w0 w n q1 x0 x1) (u : Value) : Q2 w0 (w.setCell ⟨n, 0, none⟩ u) n q1 u x1 := by
  have e1 := h.e1
  exact ⟨by simp [World.setCell, Array.getElem?_modify, h.a], (Below.heap_setCell _ _ _ _ (by simp; omega)).trans h.b, below_set h.d _ _ _ (Nat.le_refl _), e1⟩
theorem Q2.setB (h : Q2 w0 w n q1 x0 x1) (u : Value) : Q2 w0 (w.setCell ⟨q1, 0, none⟩ u) n q1 x0 u := by
  have e1 := h.e1
  exact ⟨(Below.heap_setCell _ _ _ _ (by simp; omega)).trans h.a, by simp [World.setCell, Array.getElem?_modify, h.b], below_set h.d _ _ _ (by omega), e1⟩
theorem Q2.facts (h : Q2 w0 w n q1 x0 x1) : (w.cell? ⟨n, 0, none⟩ = some x0 ∧ w.frozen? ⟨n, 0, none⟩ = false) ∧ (w.cell? ⟨q1, 0, none⟩ = some x1 ∧ w.frozen? ⟨q1, 0, none⟩ = false) :=
  ⟨cells_one h.a, cells_one h.b⟩
theorem Q2.start (w : World) : Q2 w ((w.alloc (.cells #[.string ⟨#[]⟩] 9)).alloc (.cells #[.int .i64 0] 38)) w.heap.size (w.heap.size + 1) (.string ⟨#[]⟩) (.int .i64 0) := by
  have h := two_box w (.cells #[.string ⟨#[]⟩] 9) (.cells #[.int .i64 0] 38)
  exact ⟨h.2.1, h.2.2, h.1, rfl⟩
end

set_option maxHeartbeats 8000000 in
set_option maxRecDepth 100000 in
theorem prules_any (w : World) (P : Nat → Prop) (A : Option Addr) (cp : Nat) (l : List Ru) (ha : SlV RuV 3 w P A l) (hP : ∀ b, P b → b < w.heap.size) (hl : l.length ≤ 9223372036854775807) (hw : ∀ r ∈ l, RuB r) :
    Calls Tryd.prog 22 #[.slice A l.length cp] w (OutB w (.tuple #[.string (bs (rulesO l).1), .int .i64 (rulesO l).2])) := by
  have hmf : ∀ (fn : Fn) (first cap : Array Value) (w : World), (Instr.makeFunc fn first cap).run Tryd.prog w = .ok (.func fn first cap) w := fun _ _ _ _ => rfl
  obtain ⟨xs', hxl, harr, hel⟩ := ha
  have HV := Lib.hid (And.intro hxl (And.intro harr (And.intro hel (And.intro hP hw))))
  have HR : Hid (∀ a (b : Nat), rulesO l = (a, b) → Ending.returned (Value.tuple #[.string (bs a), .int .i64 b]) = Ending.returned (Value.tuple #[.string (bs (rulesO l).1), .int .i64 (rulesO l).2])) := fun a b h => by rw [h]
  have HD : Hid (rulesO l = if 128 < l.length then ([], 2) else if l.all ruleOk = false then ([], 13) else if 16384 < (rulesT l).length then ([], 2) else (rulesT l, 0)) := rfl
  have HQ0 := Lib.hid (Q2.start w)
  clear hxl harr hel hP hw
  by_cases h8 : 128 < l.length
  · have e1 : decide ((l.length : Int) ≤ 128) = false := decide_eq_false (by omega)
    have HRU := Lib.hid (HR.out [] 2 (by rw [HD.out, if_pos h8]))
    go_enter_defers Tryd.func22, Tryd.ntmps22
    go_wp2_with fail
    generalize (w.alloc (.cells #[.string ⟨#[]⟩] 9)).alloc (.cells #[.int .i64 0] 38) = w0 at *
    refine (must_no w0 2).mono ?_
    rintro e' w4 ⟨rfl, hb⟩
    have HQ4 := Lib.hid (HQ0.out.below hb (heap_lt HQ0.out.b))
    refine leaves_cons (f := 37) (args := #[.pointer (some ⟨w.heap.size, 0, none⟩), .pointer (some ⟨w.heap.size + 1, 0, none⟩)]) (by simp) (by simp [go_sem]) ?_
    refine (rc_rules w.heap.size (w.heap.size + 1) rfl 2 [] w4 _ _ _ HQ4.out.a HQ4.out.b).mono ?_
    rintro e u' w5 ⟨rfl, rfl, c0, c1, hb5⟩
    refine ⟨.tuple #[.string ⟨#[]⟩, .int .i64 2], by simp [results, Tryd.results22, go_sem, c0, c1], ?_⟩
    exact ⟨HRU.out, HQ4.out.d.trans hb5⟩
  have e1 : decide ((l.length : Int) ≤ 128) = true := decide_eq_true (by omega)
  go_enter_defers Tryd.func22, Tryd.ntmps22
  go_wp2_with fail
  generalize (w.alloc (.cells #[.string ⟨#[]⟩] 9)).alloc (.cells #[.int .i64 0] 38) = w0 at *
  refine (must_yes w0 2).mono ?_
  rintro e' w1 ⟨rfl, hb⟩
  have HQ1 := Lib.hid (HQ0.out.below hb (heap_lt HQ0.out.b))
  clear hb HQ0
  generalize hq1 : w.heap.size + 1 = q1 at *
  have HE := Lib.hid hq1
  clear hq1
  go_wp2_with fail
  have HIB := Lib.hid (builder_new w1)
  have hql := heap_lt HQ1.out.b
  have HBW := Lib.hid (one_box w1 (.cells #[.pointer none, .slice none 0 0] 61))
  have HQ2 := Lib.hid (HQ1.out.below HBW.out.1 hql)
  clear HQ1 e1
  generalize w1.alloc (.cells #[.pointer none, .slice none 0 0] 61) = wS at *
  have hbS := HBW.out.1.size
  generalize w1.heap.size = bb at *
  have HSZ := Lib.hid (And.intro hql hbS)
  clear HBW hql hbS
  go_loopw [14] (fun i wr => ∃ k : Nat, k ≤ l.length ∧ i = .int .i64 k ∧ Hid ((l.take k).all ruleOk = true ∧ IsB bb bb (rulesT (l.take k)) wr ∧ Below bb wS wr)) (fun i _ => l.length - (intOf i).toNat)
  case atStart => exact ⟨0, Nat.zero_le _, rfl, rfl, HIB.out, Below.refl _ _⟩
  case round =>
    obtain ⟨k, hk, rfl, HI⟩ := hrel
    have HQ3 := Lib.hid (HQ2.out.below HI.out.2.2 HSZ.out.1)
    have hszr : bb ≤ wr.heap.size := Nat.le_trans HSZ.out.2 HI.out.2.2.size
    by_cases hlk : k < l.length
    rotate_left
    focus
      obtain rfl : k = l.length := by omega
      have HA := Lib.hid HI.out.1
      have HIB1 := Lib.hid HI.out.2.1
      clear HI
      rw [List.take_length] at HA HIB1
      have CL := Lib.hid (Builder_Len_f bb bb (Lib.byteCells (rulesT l)) wr HIB1.out)
      rw [Lib.byteCells_length] at CL
      by_cases h16 : 16384 < (rulesT l).length
      · have HRU := Lib.hid (HR.out [] 2 (by rw [HD.out, if_neg h8, if_neg (by rw [HA.out]; decide), if_pos h16]))
        have e2 : decide (((rulesT l).length : Int) ≤ 16384) = false := decide_eq_false (by omega)
        go_wp2_with fail
        refine CL.out.mono ?_
        rintro e w4 ⟨rfl, rfl⟩
        go_wp2_with fail
        refine (must_no w4 2).mono ?_
        rintro e' w5 ⟨rfl, hb⟩
        have HQ4 := Lib.hid (HQ3.out.below hb (heap_lt HQ3.out.b))
        refine leaves_cons (f := 37) (args := #[.pointer (some ⟨w.heap.size, 0, none⟩), .pointer (some ⟨q1, 0, none⟩)]) (by simp) (by simp [go_sem]) ?_
        refine (rc_rules w.heap.size q1 HE.out.symm 2 [] w5 _ _ _ HQ4.out.a HQ4.out.b).mono ?_
        rintro e u' w6 ⟨rfl, rfl, c0, c1, hb5⟩
        refine ⟨.tuple #[.string ⟨#[]⟩, .int .i64 2], by simp [results, Tryd.results22, go_sem, c0, c1], ?_⟩
        exact ⟨HRU.out, HQ4.out.d.trans hb5⟩
      · have HRU := Lib.hid (HR.out (rulesT l) 0 (by rw [HD.out, if_neg h8, if_neg (by rw [HA.out]; decide), if_neg h16]))
        have e2 : decide (((rulesT l).length : Int) ≤ 16384) = true := decide_eq_true (by omega)
        go_wp2_with fail
        refine CL.out.mono ?_
        rintro e w4 ⟨rfl, rfl⟩
        go_wp2_with fail
        refine (must_yes w4 2).mono ?_
        rintro e' w5 ⟨rfl, hb⟩
        have HQ4 := Lib.hid (HQ3.out.below hb (heap_lt HQ3.out.b))
        have HIB2 := Lib.hid (isb_keep HIB1.out hb)
        have hsz5 : bb ≤ w5.heap.size := Nat.le_trans hszr hb.size
        clear hb
        go_wp2_with fail
        have h01 : w.heap.size ≠ q1 := by have := HE.out; omega
        refine (Builder_String_any_k _ _ _ w5 HIB2.out hsz5).mono ?_
        rintro e w6 ⟨rfl, _, hb, _⟩
        have HQ5 := Lib.hid (HQ4.out.below hb HSZ.out.1)
        clear hb
        obtain ⟨⟨a1, a2⟩, ⟨b1, b2⟩⟩ := HQ5.out.facts
        go_wp2_with fail
        have HQ7 := Lib.hid ((HQ5.out.setA (.string ⟨(rulesT l).toArray⟩)).setB (.int .i64 0))
        clear HQ5 a1 a2 b1 b2
        generalize (w6.setCell ⟨w.heap.size, 0, none⟩ (.string ⟨(rulesT l).toArray⟩)).setCell ⟨q1, 0, none⟩ (.int .i64 0) = w7 at *
        refine leaves_cons (f := 37) (args := #[.pointer (some ⟨w.heap.size, 0, none⟩), .pointer (some ⟨q1, 0, none⟩)]) (by simp) (by simp [go_sem]) ?_
        refine (ri_rules w.heap.size q1 w7).mono ?_
        rintro e u' w8 ⟨rfl, rfl, hb8⟩
        have HQ8 := HQ7.out.below hb8 (heap_lt HQ7.out.b)
        obtain ⟨⟨a1, _⟩, ⟨b1, _⟩⟩ := HQ8.facts
        refine ⟨.tuple #[.string ⟨(rulesT l).toArray⟩, .int .i64 0], by simp [results, Tryd.results22, go_sem, a1, b1], ?_⟩
        exact ⟨HRU.out, HQ8.d⟩
    obtain ⟨r, hr⟩ : ∃ r, l[k]? = some r := ⟨_, List.getElem?_eq_getElem hlk⟩
    obtain ⟨x, hx⟩ : ∃ x, xs'[k]? = some x := ⟨_, List.getElem?_eq_getElem (by rw [HV.out.1]; exact hlk)⟩
    have hv := HV.out.2.2.1 k x r hx hr
    have hrw := HV.out.2.2.2.2 _ (List.mem_of_getElem? hr)
    obtain ⟨hd, body⟩ := r
    obtain ⟨y', A2, cp2, rfl, hvt, hsl⟩ := hv
    obtain ⟨nm', A', cp', l', rfl, hh⟩ := hvt.form
    simp only at hh hvt hsl
    subst hh
    obtain ⟨b0, o0, rfl, hb0, hbl, hc⟩ := HV.out.2.1 (by rw [HV.out.1]; omega)
    have f0 := (HQ3.out.d.cell (p := ⟨b0, o0 + k * 3, none⟩) hbl).trans (hc k _ hx 0 _ rfl)
    have f1 := (HQ3.out.d.cell (p := ⟨b0, o0 + k * 3 + 1, none⟩) hbl).trans (hc k _ hx 1 _ rfl)
    have f2 := (HQ3.out.d.cell (p := ⟨b0, o0 + k * 3 + 2, none⟩) hbl).trans (hc k _ hx 2 _ rfl)
    have HST := Lib.hid (rulesT_take hr)
    have CV := Lib.hid (fun (y : World) (hy : Below w.heap.size w y) => rvalidx_any y P nm' A' cp' l' A2 cp2 body (hvt.keep (fun b' hp hb' => ⟨hp, hy.block b' hb'⟩) hy.size) (hsl.keep keeps_li (fun b' hp hb' => ⟨hp, hy.block b' hb'⟩) hy.size) (fun b' hp => Nat.lt_of_lt_of_le (HV.out.2.2.2.1 b' hp) hy.size) hrw.head hrw.len hrw.lits)
    have CT := Lib.hid (fun (hok : ruleOk ⟨.mk nm' l', body⟩ = true) (y : World) (hy : Below w.heap.size w y) => rulex_any y P nm' A' cp' l' A2 cp2 body (hvt.keep (fun b' hp hb' => ⟨hp, hy.block b' hb'⟩) hy.size) (hsl.keep keeps_li (fun b' hp hb' => ⟨hp, hy.block b' hb'⟩) hy.size) (fun b' hp => Nat.lt_of_lt_of_le (HV.out.2.2.2.1 b' hp) hy.size) (Nat.le_trans (ok_ruw hok).head (by omega)) (Nat.le_trans (ok_ruw hok).len (by omega)) (fun t ht => Nat.le_trans ((ok_ruw hok).lits t ht) (by omega)) (Nat.le_trans (ok_ruw hok).body (by omega)))
    have hml := rulesT_ok HI.out.1
    have hmk := List.length_take_le k l
    have HL := Lib.hid (fun (hok : ruleOk ⟨.mk nm' l', body⟩ = true) => And.intro (ok_len hok) (show (rulesT (l.take k)).length ≤ 100000000 by omega))
    have HS := Lib.hid (fun (h : ruleOk ⟨.mk nm' l', body⟩ = true) => (show (l.take (k + 1)).all ruleOk = true from (allx_take ruleOk hr).trans (by rw [HI.out.1]; exact h)))
    have HF := Lib.hid (fun (h : ruleOk ⟨.mk nm' l', body⟩ = false) => HR.out [] 13 (by rw [HD.out, if_neg h8, if_pos (allx_no ruleOk hr h)]))
    have HB3 := Lib.hid (one_box wr (.cells #[.string (bs nm'), .slice A' l'.length cp', .slice A2 body.length cp2] 27))
    have HIB1 := Lib.hid (isb_keep HI.out.2.1 HB3.out.1)
    have HBS := Lib.hid (HI.out.2.2.trans (HB3.out.1.mono hszr))
    have HQ4 := Lib.hid (HQ3.out.below (HB3.out.1.mono hszr) HSZ.out.1)
    have hsz2 : bb ≤ (wr.alloc (.cells #[.string (bs nm'), .slice A' l'.length cp', .slice A2 body.length cp2] 27)).heap.size := Nat.le_trans hszr HB3.out.1.size
    clear hvt hsl hx hc hr hrw HI hml hmk HQ3
    cases hqq : ruleOk ⟨.mk nm' l', body⟩
    · rw [hqq] at CV
      have HF2 := Lib.hid (HF.out hqq)
      clear hqq CT HF HS HL
      go_wp2_with fail
      have g0 := cell_blk HB3.out.2 0
      have g1 := cell_blk HB3.out.2 1
      have g2 := cell_blk HB3.out.2 2
      go_wp2_with fail
      clear g0 g1 g2 f0 f1 f2
      generalize wr.alloc (.cells #[.string (bs nm'), .slice A' l'.length cp', .slice A2 body.length cp2] 27) = w3 at *
      refine (CV.out w3 HQ4.out.d).mono ?_
      rintro e w4 ⟨rfl, hb⟩
      have HQ5 := Lib.hid (HQ4.out.below hb (heap_lt HQ4.out.b))
      clear hb
      go_wp2_with fail
      refine (must_no w4 13).mono ?_
      rintro e' w5 ⟨rfl, hb⟩
      have HQ6 := Lib.hid (HQ5.out.below hb (heap_lt HQ5.out.b))
      refine leaves_cons (f := 37) (args := #[.pointer (some ⟨w.heap.size, 0, none⟩), .pointer (some ⟨q1, 0, none⟩)]) (by simp) (by simp [go_sem]) ?_
      refine (rc_rules w.heap.size q1 HE.out.symm 13 [] w5 _ _ _ HQ6.out.a HQ6.out.b).mono ?_
      rintro e u' w6 ⟨rfl, rfl, c0, c1, hb5⟩
      refine ⟨.tuple #[.string ⟨#[]⟩, .int .i64 13], by simp [results, Tryd.results22, go_sem, c0, c1], ?_⟩
      exact ⟨HF2.out, HQ6.out.d.trans hb5⟩
    · rw [hqq] at CV
      have HS2 := Lib.hid (HS.out hqq)
      have CT2 := Lib.hid (CT.out hqq)
      have HL2 := Lib.hid (HL.out hqq)
      clear hqq CT HF HS HL
      go_wp2_with fail
      have g0 := cell_blk HB3.out.2 0
      have g1 := cell_blk HB3.out.2 1
      have g2 := cell_blk HB3.out.2 2
      go_wp2_with fail
      clear g0 g1 g2 f0 f1 f2
      have hbl3 := (Array.getElem?_eq_some_iff.1 HB3.out.2).1
      have HX := Lib.hid HB3.out.2
      have HXL := Lib.hid hbl3
      clear HB3 hbl3
      generalize wr.alloc (.cells #[.string (bs nm'), .slice A' l'.length cp', .slice A2 body.length cp2] 27) = w3 at *
      refine (CV.out w3 HQ4.out.d).mono ?_
      rintro e w4 ⟨rfl, hb⟩
      have HQ5 := Lib.hid (HQ4.out.below hb (heap_lt HQ4.out.b))
      have HI4 := Lib.hid (isb_keep HIB1.out hb)
      have HS4 := Lib.hid (HBS.out.trans (hb.mono hsz2))
      have hsz4 : bb ≤ w4.heap.size := Nat.le_trans hsz2 hb.size
      have HX4 := Lib.hid (And.intro ((hb.block _ HXL.out).trans HX.out) (Nat.lt_of_lt_of_le HXL.out hb.size))
      clear hb HIB1 HBS hsz2 HX HXL HQ4
      go_wp2_with fail
      refine (must_yes w4 13).mono ?_
      rintro e w5 ⟨rfl, hb⟩
      have HQ6 := Lib.hid (HQ5.out.below hb (heap_lt HQ5.out.b))
      have HI5 := Lib.hid (isb_keep HI4.out hb)
      have HS5 := Lib.hid (HS4.out.trans (hb.mono hsz4))
      have hsz5 : bb ≤ w5.heap.size := Nat.le_trans hsz4 hb.size
      have HX5 := Lib.hid ((hb.block _ HX4.out.2).trans HX4.out.1)
      clear hb HI4 HS4 hsz4 HX4 HQ5
      have g0 := cell_blk HX5.out 0
      have g1 := cell_blk HX5.out 1
      have g2 := cell_blk HX5.out 2
      go_wp2_with fail
      clear g0 g1 g2
      refine (CT2.out w5 HQ6.out.d).mono ?_
      rintro e w6 ⟨rfl, hb⟩
      have HI6 := Lib.hid (isb_keep HI5.out hb)
      have HS6 := Lib.hid (HS5.out.trans (hb.mono hsz5))
      have hsz6 : bb ≤ w6.heap.size := Nat.le_trans hsz5 hb.size
      clear hb HI5 HS5 hsz5 HX5 HQ6
      go_wp2_with fail
      refine (wstr_l bb bb (rulesT (l.take k)) (ruleT ⟨.mk nm' l', body⟩) w6 HI6.out (by have := HL2.out; omega) hsz6).mono ?_
      rintro e w7 ⟨⟨n1, rfl⟩, hi, hf⟩
      have HI7 := Lib.hid hi
      have HS7 := Lib.hid (HS6.out.trans hf.1)
      have hsz7 : bb ≤ w7.heap.size := Nat.le_trans hsz6 hf.1.size
      clear hi hf HI6 HS6 hsz6
      go_wp2_with fail
      refine (wbyte_l bb bb _ 10 10 (by rfl) w7 HI7.out (by have := HL2.out; simp; omega) hsz7).mono ?_
      rintro e w8 ⟨rfl, hi, hf⟩
      have HI8 := Lib.hid hi
      have HS8 := Lib.hid (HS7.out.trans hf.1)
      clear hi hf HI7 HS7 hsz7
      go_wp2_with fail
      go_roundw
      case rel => exact ⟨k + 1, by omega, by go_num, HS2.out, by rw [HST.out, ← List.append_assoc]; exact HI8.out, HS8.out⟩
      case measure => simp [intOf]; omega

end
/- The walk of printer.Format. -/
section
open Go Go.RowKit Go.Shelf
set_option linter.unusedSimpArgs false

/-- what Format returns -/
def fmtO (s : List UInt8) : List UInt8 × Nat × Int := match parseF s with
  | .ok l => ((rulesO l).1, 0, (rulesO l).2)
  | .err p k => ([], p, k)
set_option maxHeartbeats 4000000 in
set_option maxRecDepth 100000 in
theorem format_any (w : World) (s : ByteArray) (hs : s.size ≤ 9223372036854775807) (hw : Wd w) (hl : ∀ l, parseF s.data.toList = .ok l → l.length ≤ 128 ∧ ∀ r ∈ l, RuB r) (hk : ∀ p k, parseF s.data.toList = .err p k → k ≠ 0) :
    Calls Tryd.prog 24 #[.string s] w (OutB w (.tuple #[.string (bs (fmtO s.data.toList).1), .int .i64 (fmtO s.data.toList).2.1, .int .i64 (fmtO s.data.toList).2.2])) := by
  have CP := Lib.hid (parse_any w s hs hw)
  have HR : Hid (∀ a (b : Nat) (c : Int), fmtO s.data.toList = (a, b, c) → Ending.returned (Value.tuple #[.string (bs a), .int .i64 b, .int .i64 c]) = Ending.returned (Value.tuple #[.string (bs (fmtO s.data.toList).1), .int .i64 (fmtO s.data.toList).2.1, .int .i64 (fmtO s.data.toList).2.2])) := fun a b c h => by rw [h]
  cases hp : parseF s.data.toList with
  | err p k =>
    have hk0 := hk p k hp
    have HF := Lib.hid (HR.out [] p k (by unfold fmtO; rw [hp]))
    rw [hp] at CP
    clear hp hl hk HR
    have e1 : ((k : Int) == 0) = false := by simp; omega
    have e2 : decide ((k : Int) = 0) = false := decide_eq_false (by omega)
    go_enter Tryd.func24, Tryd.ntmps24
    go_wp2_with fail
    refine CP.out.mono ?_
    rintro e w1 ⟨hb, he⟩
    subst he
    have HB := Lib.hid hb
    clear hb CP
    go_wp2_with fail
    go_ret3
    exact ⟨HF.out, HB.out⟩
  | ok l =>
    have HL := Lib.hid (hl l hp)
    have HF := Lib.hid (HR.out (rulesO l).1 0 (rulesO l).2 (by unfold fmtO; rw [hp]))
    rw [hp] at CP
    clear hp hl hk HR
    go_enter Tryd.func24, Tryd.ntmps24
    go_wp2_with fail
    refine CP.out.mono ?_
    rintro e w1 ⟨hb, v, he, A, cp, rfl, hsl⟩
    subst he
    have HB := Lib.hid hb
    have CR := Lib.hid (prules_any w1 (fun b => w.heap.size ≤ b ∧ b < w1.heap.size) A cp l (hsl.keep keeps_ru (fun b h1 h2 => ⟨⟨h1, h2⟩, rfl⟩) (Nat.le_refl _)) (fun b h => h.2) (Nat.le_trans HL.out.1 (by omega)) HL.out.2)
    clear hb CP hsl
    go_wp2_with fail
    refine CR.out.mono ?_
    rintro e w2 ⟨rfl, hb⟩
    have HB2 := Lib.hid (HB.out.trans (hb.mono HB.out.size))
    clear hb
    go_wp2_with fail
    go_ret3
    exact ⟨HF.out, HB2.out⟩

end
end Go.Proofs.YthkbnjojkeeffaaDoor
