/- The reference's Check, group by group. -/
import Derived.Test.YtmplpbdldcokjaaGreatDoorQx
namespace Go.Proofs.YtmplpbdldcokjaaGreatDoor
open Go Go.RowKit Go.Shelf
set_option linter.unusedSimpArgs false
set_option linter.unusedVariables false
set_option maxHeartbeats 16000000 in
set_option maxRecDepth 100000 in
theorem rcheck_1 (w : World) (P : Nat → Prop) (sm sn : ByteArray) (A : Option Addr) (cp : Nat) (l : List Tm) (sc pc : Int) (A1 : Option Addr) (c1 : Nat) (l1 : List Tm) (A2 : Option Addr) (c2 : Nat) (l2 : List Tm) (st : ByteArray)
    (hsm : sm.size ≤ 9223372036854775807) (hsn : sn.size ≤ 9223372036854775807) (h : MsIn w P A1 l1 A2 l2) :
    Calls Tryz.prog 17 #[msgV 1 sm sn A l.length cp sc pc A1 l1.length c1 A2 l2.length c2 st] w (OutB w (.int .i64 (checkF ⟨1, sm.data.toList, .mk sn.data.toList l, sc, pc, l1, l2, st.data.toList⟩))) := by
  have HR : Hid (∀ z : Int, checkF ⟨1, sm.data.toList, .mk sn.data.toList l, sc, pc, l1, l2, st.data.toList⟩ = z → Ending.returned (Value.int .i64 z) = Ending.returned (.int .i64 (checkF ⟨1, sm.data.toList, .mk sn.data.toList l, sc, pc, l1, l2, st.data.toList⟩))) := fun z h => by rw [h]
  have CG1 := Lib.hid (fun (y : World) (hy : Below w.heap.size w y) => rground_any y P A1 c1 l1 h.n1 (h.keep hy).a1 (h.keep hy).hP h.b1)
  have CG2 := Lib.hid (fun (y : World) (hy : Below w.heap.size w y) => rground_any y P A2 c2 l2 h.n2 (h.keep hy).a2 (h.keep hy).hP h.b2)
  have CN1 := Lib.hid (fun (y : World) => rName_any y sm hsm)
  have CN2 := Lib.hid (fun (y : World) => rName_any y sn hsn)
  have hst : (st.size : Int) = (st.data.toList.length : Int) := by simp
  have HQ := Lib.hid (And.intro hst trivial)
  have HM := Lib.hid (one_box w (.cells #[.int .i64 1, .string sm, .string sn, .slice A l.length cp, .int .i64 sc, .int .i64 pc, .slice A1 l1.length c1, .slice A2 l2.length c2, .string st] 27))
  clear h hsm hsn hst
  go_enter Tryz.func17, Tryz.ntmps17
  have c0 := cell_blk HM.out.2 0; have c1 := cell_blk HM.out.2 1; have c2 := cell_blk HM.out.2 2; have c3 := cell_blk HM.out.2 3; have c4 := cell_blk HM.out.2 4; have c5 := cell_blk HM.out.2 5; have c6 := cell_blk HM.out.2 6; have c7 := cell_blk HM.out.2 7; have c8 := cell_blk HM.out.2 8
  go_wp2_with fail
  clear c0 c1 c2 c3 c4 c5 c6 c7 c8
  generalize w.alloc (.cells #[.int .i64 1, .string sm, .string sn, .slice A l.length cp, .int .i64 sc, .int .i64 pc, .slice A1 l1.length c1, .slice A2 l2.length c2, .string st] 27) = w0 at *
  refine (CN1.out _).mono ?_
  rintro e w1 ⟨rfl, rfl⟩
  cases hq : nameF sm.data.toList
  focus
    replace HQ := Lib.hid (And.intro hq HQ.out)
    clear hq
    have c := cell_blk HM.out.2
    have c0 := c 0
    have c1 := c 1
    have c2 := c 2
    have c3 := c 3
    have c4 := c 4
    have c5 := c 5
    have c6 := c 6
    have c7 := c 7
    have c8 := c 8
    clear c
    go_wp2_with fail
    go_ret
    exact ⟨HR.out 4 (by
        have a := HQ.out
        have g0 : groundF [] = true := rfl
        try simp only [str_nil] at a
        unfold checkF
        repeat' split
        all_goals first | rfl | (exfalso; simp_all [Tm.name, Tm.args, groundF]; done) | (exfalso; simp_all [Tm.name, Tm.args, groundF]; omega) | (exfalso; dsimp only [Tm.name, Tm.args] at *; omega) | (exfalso; simp_all [Tm.name, Tm.args]; done) | (exfalso; simp_all [Tm.name, Tm.args]; omega)), HM.out.1⟩
  replace HQ := Lib.hid (And.intro hq HQ.out)
  clear hq
  have c := cell_blk HM.out.2
  have c0 := c 0
  have c1 := c 1
  have c2 := c 2
  have c3 := c 3
  have c4 := c 4
  have c5 := c 5
  have c6 := c 6
  have c7 := c 7
  have c8 := c 8
  clear c
  go_wp2_with fail
  clear c0 c1 c2 c3 c4 c5 c6 c7 c8
  refine (CN2.out _).mono ?_
  rintro e w2 ⟨rfl, rfl⟩
  cases hq : nameF sn.data.toList
  focus
    replace HQ := Lib.hid (And.intro hq HQ.out)
    clear hq
    have c := cell_blk HM.out.2
    have c0 := c 0
    have c1 := c 1
    have c2 := c 2
    have c3 := c 3
    have c4 := c 4
    have c5 := c 5
    have c6 := c 6
    have c7 := c 7
    have c8 := c 8
    clear c
    go_wp2_with fail
    go_ret
    exact ⟨HR.out 4 (by
        have a := HQ.out
        have g0 : groundF [] = true := rfl
        try simp only [str_nil] at a
        unfold checkF
        repeat' split
        all_goals first | rfl | (exfalso; simp_all [Tm.name, Tm.args, groundF]; done) | (exfalso; simp_all [Tm.name, Tm.args, groundF]; omega) | (exfalso; dsimp only [Tm.name, Tm.args] at *; omega) | (exfalso; simp_all [Tm.name, Tm.args]; done) | (exfalso; simp_all [Tm.name, Tm.args]; omega)), HM.out.1⟩
  replace HQ := Lib.hid (And.intro hq HQ.out)
  clear hq
  have c := cell_blk HM.out.2
  have c0 := c 0
  have c1 := c 1
  have c2 := c 2
  have c3 := c 3
  have c4 := c 4
  have c5 := c 5
  have c6 := c 6
  have c7 := c 7
  have c8 := c 8
  clear c
  by_cases q72 : 0 < l.length
  focus
    replace HQ := Lib.hid (And.intro q72 HQ.out)
    have bq72 : decide ((0 : Int) < (l.length : Int)) = true := by first | exact decide_eq_true (by omega) | simp_all
    go_wp2_with fail
    go_ret
    exact ⟨HR.out 4 (by
        have a := HQ.out
        have g0 : groundF [] = true := rfl
        try simp only [str_nil] at a
        unfold checkF
        repeat' split
        all_goals first | rfl | (exfalso; simp_all [Tm.name, Tm.args, groundF]; done) | (exfalso; simp_all [Tm.name, Tm.args, groundF]; omega) | (exfalso; dsimp only [Tm.name, Tm.args] at *; omega) | (exfalso; simp_all [Tm.name, Tm.args]; done) | (exfalso; simp_all [Tm.name, Tm.args]; omega)), HM.out.1⟩
  replace HQ := Lib.hid (And.intro q72 HQ.out)
  have bq72 : decide ((0 : Int) < (l.length : Int)) = false := by first | exact decide_eq_false (by omega) | simp_all
  by_cases q81 : sc < 1
  focus
    replace HQ := Lib.hid (And.intro q81 HQ.out)
    go_wp2_with fail
    go_ret
    exact ⟨HR.out 12 (by
        have a := HQ.out
        have g0 : groundF [] = true := rfl
        try simp only [str_nil] at a
        unfold checkF
        repeat' split
        all_goals first | rfl | (exfalso; simp_all [Tm.name, Tm.args, groundF]; done) | (exfalso; simp_all [Tm.name, Tm.args, groundF]; omega) | (exfalso; dsimp only [Tm.name, Tm.args] at *; omega) | (exfalso; simp_all [Tm.name, Tm.args]; done) | (exfalso; simp_all [Tm.name, Tm.args]; omega)), HM.out.1⟩
  replace HQ := Lib.hid (And.intro q81 HQ.out)
  by_cases q88 : 1000 < sc
  focus
    replace HQ := Lib.hid (And.intro q88 HQ.out)
    go_wp2_with fail
    go_ret
    exact ⟨HR.out 12 (by
        have a := HQ.out
        have g0 : groundF [] = true := rfl
        try simp only [str_nil] at a
        unfold checkF
        repeat' split
        all_goals first | rfl | (exfalso; simp_all [Tm.name, Tm.args, groundF]; done) | (exfalso; simp_all [Tm.name, Tm.args, groundF]; omega) | (exfalso; dsimp only [Tm.name, Tm.args] at *; omega) | (exfalso; simp_all [Tm.name, Tm.args]; done) | (exfalso; simp_all [Tm.name, Tm.args]; omega)), HM.out.1⟩
  replace HQ := Lib.hid (And.intro q88 HQ.out)
  by_cases q95 : pc < 1
  focus
    replace HQ := Lib.hid (And.intro q95 HQ.out)
    go_wp2_with fail
    go_ret
    exact ⟨HR.out 12 (by
        have a := HQ.out
        have g0 : groundF [] = true := rfl
        try simp only [str_nil] at a
        unfold checkF
        repeat' split
        all_goals first | rfl | (exfalso; simp_all [Tm.name, Tm.args, groundF]; done) | (exfalso; simp_all [Tm.name, Tm.args, groundF]; omega) | (exfalso; dsimp only [Tm.name, Tm.args] at *; omega) | (exfalso; simp_all [Tm.name, Tm.args]; done) | (exfalso; simp_all [Tm.name, Tm.args]; omega)), HM.out.1⟩
  replace HQ := Lib.hid (And.intro q95 HQ.out)
  by_cases q102 : 1000 < pc
  focus
    replace HQ := Lib.hid (And.intro q102 HQ.out)
    go_wp2_with fail
    go_ret
    exact ⟨HR.out 12 (by
        have a := HQ.out
        have g0 : groundF [] = true := rfl
        try simp only [str_nil] at a
        unfold checkF
        repeat' split
        all_goals first | rfl | (exfalso; simp_all [Tm.name, Tm.args, groundF]; done) | (exfalso; simp_all [Tm.name, Tm.args, groundF]; omega) | (exfalso; dsimp only [Tm.name, Tm.args] at *; omega) | (exfalso; simp_all [Tm.name, Tm.args]; done) | (exfalso; simp_all [Tm.name, Tm.args]; omega)), HM.out.1⟩
  replace HQ := Lib.hid (And.intro q102 HQ.out)
  by_cases q109 : 0 < l2.length
  focus
    replace HQ := Lib.hid (And.intro q109 HQ.out)
    have bq109 : decide ((0 : Int) < (l2.length : Int)) = true := by first | exact decide_eq_true (by omega) | simp_all
    go_wp2_with fail
    go_ret
    exact ⟨HR.out 13 (by
        have a := HQ.out
        have g0 : groundF [] = true := rfl
        try simp only [str_nil] at a
        unfold checkF
        repeat' split
        all_goals first | rfl | (exfalso; simp_all [Tm.name, Tm.args, groundF]; done) | (exfalso; simp_all [Tm.name, Tm.args, groundF]; omega) | (exfalso; dsimp only [Tm.name, Tm.args] at *; omega) | (exfalso; simp_all [Tm.name, Tm.args]; done) | (exfalso; simp_all [Tm.name, Tm.args]; omega)), HM.out.1⟩
  replace HQ := Lib.hid (And.intro q109 HQ.out)
  have bq109 : decide ((0 : Int) < (l2.length : Int)) = false := by first | exact decide_eq_false (by omega) | simp_all
  have HGl2 : Hid (groundF l2 = true) := by rw [Hid, List.length_eq_zero_iff.1 (show l2.length = 0 by omega)]; rfl
  by_cases q119 : 0 < l1.length
  focus
    replace HQ := Lib.hid (And.intro q119 HQ.out)
    have bq119 : decide ((0 : Int) < (l1.length : Int)) = true := by first | exact decide_eq_true (by omega) | simp_all
    go_wp2_with fail
    go_ret
    exact ⟨HR.out 13 (by
        have a := HQ.out
        have g0 : groundF [] = true := rfl
        try simp only [str_nil] at a
        unfold checkF
        repeat' split
        all_goals first | rfl | (exfalso; simp_all [Tm.name, Tm.args, groundF]; done) | (exfalso; simp_all [Tm.name, Tm.args, groundF]; omega) | (exfalso; dsimp only [Tm.name, Tm.args] at *; omega) | (exfalso; simp_all [Tm.name, Tm.args]; done) | (exfalso; simp_all [Tm.name, Tm.args]; omega)), HM.out.1⟩
  replace HQ := Lib.hid (And.intro q119 HQ.out)
  have bq119 : decide ((0 : Int) < (l1.length : Int)) = false := by first | exact decide_eq_false (by omega) | simp_all
  have HGl1 : Hid (groundF l1 = true) := by rw [Hid, List.length_eq_zero_iff.1 (show l1.length = 0 by omega)]; rfl
  go_wp2_with fail
  clear c0 c1 c2 c3 c4 c5 c6 c7 c8
  refine (CG1.out _ HM.out.1).mono ?_
  rintro e w3 ⟨rfl, hb⟩
  replace HM := Lib.hid (show _ ∧ _ from ⟨HM.out.1.trans (hb.mono HM.out.1.size), (hb.block _ (heap_lt HM.out.2)).trans HM.out.2⟩)
  clear hb
  rw [HGl1.out]
  have c := cell_blk HM.out.2
  have c0 := c 0
  have c1 := c 1
  have c2 := c 2
  have c3 := c 3
  have c4 := c 4
  have c5 := c 5
  have c6 := c 6
  have c7 := c 7
  have c8 := c 8
  clear c
  go_wp2_with fail
  clear c0 c1 c2 c3 c4 c5 c6 c7 c8
  refine (CG2.out _ HM.out.1).mono ?_
  rintro e w4 ⟨rfl, hb⟩
  replace HM := Lib.hid (show _ ∧ _ from ⟨HM.out.1.trans (hb.mono HM.out.1.size), (hb.block _ (heap_lt HM.out.2)).trans HM.out.2⟩)
  clear hb
  rw [HGl2.out]
  have c := cell_blk HM.out.2
  have c0 := c 0
  have c1 := c 1
  have c2 := c 2
  have c3 := c 3
  have c4 := c 4
  have c5 := c 5
  have c6 := c 6
  have c7 := c 7
  have c8 := c 8
  clear c
  by_cases q165 : 16384 < st.size
  focus
    replace HQ := Lib.hid (And.intro q165 HQ.out)
    have bq165 : decide ((16384 : Int) < (st.size : Int)) = true := by first | exact decide_eq_true (by omega) | simp_all
    go_wp2_with fail
    go_ret
    exact ⟨HR.out 2 (by
        have a := HQ.out
        have g0 : groundF [] = true := rfl
        try simp only [str_nil] at a
        unfold checkF
        repeat' split
        all_goals first | rfl | (exfalso; simp_all [Tm.name, Tm.args, groundF]; done) | (exfalso; simp_all [Tm.name, Tm.args, groundF]; omega) | (exfalso; dsimp only [Tm.name, Tm.args] at *; omega) | (exfalso; simp_all [Tm.name, Tm.args]; done) | (exfalso; simp_all [Tm.name, Tm.args]; omega)), HM.out.1⟩
  replace HQ := Lib.hid (And.intro q165 HQ.out)
  have bq165 : decide ((16384 : Int) < (st.size : Int)) = false := by first | exact decide_eq_false (by omega) | simp_all
  go_wp2_with fail
  go_ret
  exact ⟨HR.out 0 (by
      have a := HQ.out
      have g0 : groundF [] = true := rfl
      try simp only [str_nil] at a
      unfold checkF
      repeat' split
      all_goals first | rfl | (exfalso; simp_all [Tm.name, Tm.args, groundF]; done) | (exfalso; simp_all [Tm.name, Tm.args, groundF]; omega) | (exfalso; dsimp only [Tm.name, Tm.args] at *; omega) | (exfalso; simp_all [Tm.name, Tm.args]; done) | (exfalso; simp_all [Tm.name, Tm.args]; omega)), HM.out.1⟩
set_option maxHeartbeats 16000000 in
set_option maxRecDepth 100000 in
theorem rcheck_2 (w : World) (P : Nat → Prop) (sm sn : ByteArray) (A : Option Addr) (cp : Nat) (l : List Tm) (sc pc : Int) (A1 : Option Addr) (c1 : Nat) (l1 : List Tm) (A2 : Option Addr) (c2 : Nat) (l2 : List Tm) (st : ByteArray)
    (hsm : sm.size ≤ 9223372036854775807) (hsn : sn.size ≤ 9223372036854775807) (h : MsIn w P A1 l1 A2 l2) :
    Calls Tryz.prog 17 #[msgV 2 sm sn A l.length cp sc pc A1 l1.length c1 A2 l2.length c2 st] w (OutB w (.int .i64 (checkF ⟨2, sm.data.toList, .mk sn.data.toList l, sc, pc, l1, l2, st.data.toList⟩))) := by
  have HR : Hid (∀ z : Int, checkF ⟨2, sm.data.toList, .mk sn.data.toList l, sc, pc, l1, l2, st.data.toList⟩ = z → Ending.returned (Value.int .i64 z) = Ending.returned (.int .i64 (checkF ⟨2, sm.data.toList, .mk sn.data.toList l, sc, pc, l1, l2, st.data.toList⟩))) := fun z h => by rw [h]
  have CG1 := Lib.hid (fun (y : World) (hy : Below w.heap.size w y) => rground_any y P A1 c1 l1 h.n1 (h.keep hy).a1 (h.keep hy).hP h.b1)
  have CG2 := Lib.hid (fun (y : World) (hy : Below w.heap.size w y) => rground_any y P A2 c2 l2 h.n2 (h.keep hy).a2 (h.keep hy).hP h.b2)
  have CN1 := Lib.hid (fun (y : World) => rName_any y sm hsm)
  have CN2 := Lib.hid (fun (y : World) => rName_any y sn hsn)
  have hst : (st.size : Int) = (st.data.toList.length : Int) := by simp
  have HQ := Lib.hid (And.intro hst trivial)
  have HM := Lib.hid (one_box w (.cells #[.int .i64 2, .string sm, .string sn, .slice A l.length cp, .int .i64 sc, .int .i64 pc, .slice A1 l1.length c1, .slice A2 l2.length c2, .string st] 27))
  clear h hsm hsn hst
  go_enter Tryz.func17, Tryz.ntmps17
  have c0 := cell_blk HM.out.2 0; have c1 := cell_blk HM.out.2 1; have c2 := cell_blk HM.out.2 2; have c3 := cell_blk HM.out.2 3; have c4 := cell_blk HM.out.2 4; have c5 := cell_blk HM.out.2 5; have c6 := cell_blk HM.out.2 6; have c7 := cell_blk HM.out.2 7; have c8 := cell_blk HM.out.2 8
  go_wp2_with fail
  clear c0 c1 c2 c3 c4 c5 c6 c7 c8
  generalize w.alloc (.cells #[.int .i64 2, .string sm, .string sn, .slice A l.length cp, .int .i64 sc, .int .i64 pc, .slice A1 l1.length c1, .slice A2 l2.length c2, .string st] 27) = w0 at *
  refine (CN1.out _).mono ?_
  rintro e w1 ⟨rfl, rfl⟩
  cases hq : nameF sm.data.toList
  focus
    replace HQ := Lib.hid (And.intro hq HQ.out)
    clear hq
    have c := cell_blk HM.out.2
    have c0 := c 0
    have c1 := c 1
    have c2 := c 2
    have c3 := c 3
    have c4 := c 4
    have c5 := c 5
    have c6 := c 6
    have c7 := c 7
    have c8 := c 8
    clear c
    go_wp2_with fail
    go_ret
    exact ⟨HR.out 4 (by
        have a := HQ.out
        have g0 : groundF [] = true := rfl
        try simp only [str_nil] at a
        unfold checkF
        repeat' split
        all_goals first | rfl | (exfalso; simp_all [Tm.name, Tm.args, groundF]; done) | (exfalso; simp_all [Tm.name, Tm.args, groundF]; omega) | (exfalso; dsimp only [Tm.name, Tm.args] at *; omega) | (exfalso; simp_all [Tm.name, Tm.args]; done) | (exfalso; simp_all [Tm.name, Tm.args]; omega)), HM.out.1⟩
  replace HQ := Lib.hid (And.intro hq HQ.out)
  clear hq
  have c := cell_blk HM.out.2
  have c0 := c 0
  have c1 := c 1
  have c2 := c 2
  have c3 := c 3
  have c4 := c 4
  have c5 := c 5
  have c6 := c 6
  have c7 := c 7
  have c8 := c 8
  clear c
  by_cases q214 : sn.toList.isEmpty = false
  focus
    replace HQ := Lib.hid (And.intro q214 HQ.out)
    go_wp2_with fail
    go_ret
    exact ⟨HR.out 13 (by
        have a := HQ.out
        have g0 : groundF [] = true := rfl
        try simp only [str_nil] at a
        unfold checkF
        repeat' split
        all_goals first | rfl | (exfalso; simp_all [Tm.name, Tm.args, groundF]; done) | (exfalso; simp_all [Tm.name, Tm.args, groundF]; omega) | (exfalso; dsimp only [Tm.name, Tm.args] at *; omega) | (exfalso; simp_all [Tm.name, Tm.args]; done) | (exfalso; simp_all [Tm.name, Tm.args]; omega)), HM.out.1⟩
  replace HQ := Lib.hid (And.intro q214 HQ.out)
  have esn : sn.toList.isEmpty = true := by have a := HQ.out.1; simpa using a
  by_cases q222 : 0 < l.length
  focus
    replace HQ := Lib.hid (And.intro q222 HQ.out)
    have bq222 : decide ((0 : Int) < (l.length : Int)) = true := by first | exact decide_eq_true (by omega) | simp_all
    go_wp2_with fail
    go_ret
    exact ⟨HR.out 13 (by
        have a := HQ.out
        have g0 : groundF [] = true := rfl
        try simp only [str_nil] at a
        unfold checkF
        repeat' split
        all_goals first | rfl | (exfalso; simp_all [Tm.name, Tm.args, groundF]; done) | (exfalso; simp_all [Tm.name, Tm.args, groundF]; omega) | (exfalso; dsimp only [Tm.name, Tm.args] at *; omega) | (exfalso; simp_all [Tm.name, Tm.args]; done) | (exfalso; simp_all [Tm.name, Tm.args]; omega)), HM.out.1⟩
  replace HQ := Lib.hid (And.intro q222 HQ.out)
  have bq222 : decide ((0 : Int) < (l.length : Int)) = false := by first | exact decide_eq_false (by omega) | simp_all
  cases hzsc : (sc != 0)
  rotate_left
  focus
    replace HQ := Lib.hid (And.intro hzsc HQ.out)
    go_wp2_with fail
    go_ret
    exact ⟨HR.out 13 (by
        have a := HQ.out
        have g0 : groundF [] = true := rfl
        try simp only [str_nil] at a
        unfold checkF
        repeat' split
        all_goals first | rfl | (exfalso; simp_all [Tm.name, Tm.args, groundF]; done) | (exfalso; simp_all [Tm.name, Tm.args, groundF]; omega) | (exfalso; dsimp only [Tm.name, Tm.args] at *; omega) | (exfalso; simp_all [Tm.name, Tm.args]; done) | (exfalso; simp_all [Tm.name, Tm.args]; omega)), HM.out.1⟩
  replace HQ := Lib.hid (And.intro hzsc HQ.out)
  cases hzpc : (pc != 0)
  rotate_left
  focus
    replace HQ := Lib.hid (And.intro hzpc HQ.out)
    go_wp2_with fail
    go_ret
    exact ⟨HR.out 13 (by
        have a := HQ.out
        have g0 : groundF [] = true := rfl
        try simp only [str_nil] at a
        unfold checkF
        repeat' split
        all_goals first | rfl | (exfalso; simp_all [Tm.name, Tm.args, groundF]; done) | (exfalso; simp_all [Tm.name, Tm.args, groundF]; omega) | (exfalso; dsimp only [Tm.name, Tm.args] at *; omega) | (exfalso; simp_all [Tm.name, Tm.args]; done) | (exfalso; simp_all [Tm.name, Tm.args]; omega)), HM.out.1⟩
  replace HQ := Lib.hid (And.intro hzpc HQ.out)
  by_cases q247 : st.toList.isEmpty = false
  focus
    replace HQ := Lib.hid (And.intro q247 HQ.out)
    go_wp2_with fail
    go_ret
    exact ⟨HR.out 13 (by
        have a := HQ.out
        have g0 : groundF [] = true := rfl
        try simp only [str_nil] at a
        unfold checkF
        repeat' split
        all_goals first | rfl | (exfalso; simp_all [Tm.name, Tm.args, groundF]; done) | (exfalso; simp_all [Tm.name, Tm.args, groundF]; omega) | (exfalso; dsimp only [Tm.name, Tm.args] at *; omega) | (exfalso; simp_all [Tm.name, Tm.args]; done) | (exfalso; simp_all [Tm.name, Tm.args]; omega)), HM.out.1⟩
  replace HQ := Lib.hid (And.intro q247 HQ.out)
  have est : st.toList.isEmpty = true := by have a := HQ.out.1; simpa using a
  by_cases q255 : 1 < l1.length
  focus
    replace HQ := Lib.hid (And.intro q255 HQ.out)
    have bq255 : decide ((1 : Int) < (l1.length : Int)) = true := by first | exact decide_eq_true (by omega) | simp_all
    go_wp2_with fail
    go_ret
    exact ⟨HR.out 13 (by
        have a := HQ.out
        have g0 : groundF [] = true := rfl
        try simp only [str_nil] at a
        unfold checkF
        repeat' split
        all_goals first | rfl | (exfalso; simp_all [Tm.name, Tm.args, groundF]; done) | (exfalso; simp_all [Tm.name, Tm.args, groundF]; omega) | (exfalso; dsimp only [Tm.name, Tm.args] at *; omega) | (exfalso; simp_all [Tm.name, Tm.args]; done) | (exfalso; simp_all [Tm.name, Tm.args]; omega)), HM.out.1⟩
  replace HQ := Lib.hid (And.intro q255 HQ.out)
  have bq255 : decide ((1 : Int) < (l1.length : Int)) = false := by first | exact decide_eq_false (by omega) | simp_all
  go_wp2_with fail
  clear c0 c1 c2 c3 c4 c5 c6 c7 c8
  refine (CG1.out _ HM.out.1).mono ?_
  rintro e w2 ⟨rfl, hb⟩
  replace HM := Lib.hid (show _ ∧ _ from ⟨HM.out.1.trans (hb.mono HM.out.1.size), (hb.block _ (heap_lt HM.out.2)).trans HM.out.2⟩)
  clear hb
  cases hq : groundF l1
  focus
    replace HQ := Lib.hid (And.intro hq HQ.out)
    clear hq
    have c := cell_blk HM.out.2
    have c0 := c 0
    have c1 := c 1
    have c2 := c 2
    have c3 := c 3
    have c4 := c 4
    have c5 := c 5
    have c6 := c 6
    have c7 := c 7
    have c8 := c 8
    clear c
    go_wp2_with fail
    go_ret
    exact ⟨HR.out 13 (by
        have a := HQ.out
        have g0 : groundF [] = true := rfl
        try simp only [str_nil] at a
        unfold checkF
        repeat' split
        all_goals first | rfl | (exfalso; simp_all [Tm.name, Tm.args, groundF]; done) | (exfalso; simp_all [Tm.name, Tm.args, groundF]; omega) | (exfalso; dsimp only [Tm.name, Tm.args] at *; omega) | (exfalso; simp_all [Tm.name, Tm.args]; done) | (exfalso; simp_all [Tm.name, Tm.args]; omega)), HM.out.1⟩
  replace HQ := Lib.hid (And.intro hq HQ.out)
  clear hq
  have c := cell_blk HM.out.2
  have c0 := c 0
  have c1 := c 1
  have c2 := c 2
  have c3 := c 3
  have c4 := c 4
  have c5 := c 5
  have c6 := c 6
  have c7 := c 7
  have c8 := c 8
  clear c
  go_wp2_with fail
  clear c0 c1 c2 c3 c4 c5 c6 c7 c8
  refine (CG2.out _ HM.out.1).mono ?_
  rintro e w3 ⟨rfl, hb⟩
  replace HM := Lib.hid (show _ ∧ _ from ⟨HM.out.1.trans (hb.mono HM.out.1.size), (hb.block _ (heap_lt HM.out.2)).trans HM.out.2⟩)
  clear hb
  cases hq : groundF l2
  focus
    replace HQ := Lib.hid (And.intro hq HQ.out)
    clear hq
    have c := cell_blk HM.out.2
    have c0 := c 0
    have c1 := c 1
    have c2 := c 2
    have c3 := c 3
    have c4 := c 4
    have c5 := c 5
    have c6 := c 6
    have c7 := c 7
    have c8 := c 8
    clear c
    go_wp2_with fail
    go_ret
    exact ⟨HR.out 13 (by
        have a := HQ.out
        have g0 : groundF [] = true := rfl
        try simp only [str_nil] at a
        unfold checkF
        repeat' split
        all_goals first | rfl | (exfalso; simp_all [Tm.name, Tm.args, groundF]; done) | (exfalso; simp_all [Tm.name, Tm.args, groundF]; omega) | (exfalso; dsimp only [Tm.name, Tm.args] at *; omega) | (exfalso; simp_all [Tm.name, Tm.args]; done) | (exfalso; simp_all [Tm.name, Tm.args]; omega)), HM.out.1⟩
  replace HQ := Lib.hid (And.intro hq HQ.out)
  clear hq
  have c := cell_blk HM.out.2
  have c0 := c 0
  have c1 := c 1
  have c2 := c 2
  have c3 := c 3
  have c4 := c 4
  have c5 := c 5
  have c6 := c 6
  have c7 := c 7
  have c8 := c 8
  clear c
  by_cases q338 : 16384 < st.size
  focus
    replace HQ := Lib.hid (And.intro q338 HQ.out)
    have bq338 : decide ((16384 : Int) < (st.size : Int)) = true := by first | exact decide_eq_true (by omega) | simp_all
    go_wp2_with fail
    go_ret
    exact ⟨HR.out 2 (by
        have a := HQ.out
        have g0 : groundF [] = true := rfl
        try simp only [str_nil] at a
        unfold checkF
        repeat' split
        all_goals first | rfl | (exfalso; simp_all [Tm.name, Tm.args, groundF]; done) | (exfalso; simp_all [Tm.name, Tm.args, groundF]; omega) | (exfalso; dsimp only [Tm.name, Tm.args] at *; omega) | (exfalso; simp_all [Tm.name, Tm.args]; done) | (exfalso; simp_all [Tm.name, Tm.args]; omega)), HM.out.1⟩
  replace HQ := Lib.hid (And.intro q338 HQ.out)
  have bq338 : decide ((16384 : Int) < (st.size : Int)) = false := by first | exact decide_eq_false (by omega) | simp_all
  go_wp2_with fail
  go_ret
  exact ⟨HR.out 0 (by
      have a := HQ.out
      have g0 : groundF [] = true := rfl
      try simp only [str_nil] at a
      unfold checkF
      repeat' split
      all_goals first | rfl | (exfalso; simp_all [Tm.name, Tm.args, groundF]; done) | (exfalso; simp_all [Tm.name, Tm.args, groundF]; omega) | (exfalso; dsimp only [Tm.name, Tm.args] at *; omega) | (exfalso; simp_all [Tm.name, Tm.args]; done) | (exfalso; simp_all [Tm.name, Tm.args]; omega)), HM.out.1⟩
set_option maxHeartbeats 16000000 in
set_option maxRecDepth 100000 in
theorem rcheck_3 (w : World) (P : Nat → Prop) (sm sn : ByteArray) (A : Option Addr) (cp : Nat) (l : List Tm) (sc pc : Int) (A1 : Option Addr) (c1 : Nat) (l1 : List Tm) (A2 : Option Addr) (c2 : Nat) (l2 : List Tm) (st : ByteArray)
    (hsm : sm.size ≤ 9223372036854775807) (hsn : sn.size ≤ 9223372036854775807) (h : MsIn w P A1 l1 A2 l2) :
    Calls Tryz.prog 17 #[msgV 3 sm sn A l.length cp sc pc A1 l1.length c1 A2 l2.length c2 st] w (OutB w (.int .i64 (checkF ⟨3, sm.data.toList, .mk sn.data.toList l, sc, pc, l1, l2, st.data.toList⟩))) := by
  have HR : Hid (∀ z : Int, checkF ⟨3, sm.data.toList, .mk sn.data.toList l, sc, pc, l1, l2, st.data.toList⟩ = z → Ending.returned (Value.int .i64 z) = Ending.returned (.int .i64 (checkF ⟨3, sm.data.toList, .mk sn.data.toList l, sc, pc, l1, l2, st.data.toList⟩))) := fun z h => by rw [h]
  have CG1 := Lib.hid (fun (y : World) (hy : Below w.heap.size w y) => rground_any y P A1 c1 l1 h.n1 (h.keep hy).a1 (h.keep hy).hP h.b1)
  have CG2 := Lib.hid (fun (y : World) (hy : Below w.heap.size w y) => rground_any y P A2 c2 l2 h.n2 (h.keep hy).a2 (h.keep hy).hP h.b2)
  have CN1 := Lib.hid (fun (y : World) => rName_any y sm hsm)
  have CN2 := Lib.hid (fun (y : World) => rName_any y sn hsn)
  have hst : (st.size : Int) = (st.data.toList.length : Int) := by simp
  have HQ := Lib.hid (And.intro hst trivial)
  have HM := Lib.hid (one_box w (.cells #[.int .i64 3, .string sm, .string sn, .slice A l.length cp, .int .i64 sc, .int .i64 pc, .slice A1 l1.length c1, .slice A2 l2.length c2, .string st] 27))
  clear h hsm hsn hst
  go_enter Tryz.func17, Tryz.ntmps17
  have c0 := cell_blk HM.out.2 0; have c1 := cell_blk HM.out.2 1; have c2 := cell_blk HM.out.2 2; have c3 := cell_blk HM.out.2 3; have c4 := cell_blk HM.out.2 4; have c5 := cell_blk HM.out.2 5; have c6 := cell_blk HM.out.2 6; have c7 := cell_blk HM.out.2 7; have c8 := cell_blk HM.out.2 8
  go_wp2_with fail
  clear c0 c1 c2 c3 c4 c5 c6 c7 c8
  generalize w.alloc (.cells #[.int .i64 3, .string sm, .string sn, .slice A l.length cp, .int .i64 sc, .int .i64 pc, .slice A1 l1.length c1, .slice A2 l2.length c2, .string st] 27) = w0 at *
  refine (CN1.out _).mono ?_
  rintro e w1 ⟨rfl, rfl⟩
  cases hq : nameF sm.data.toList
  focus
    replace HQ := Lib.hid (And.intro hq HQ.out)
    clear hq
    have c := cell_blk HM.out.2
    have c0 := c 0
    have c1 := c 1
    have c2 := c 2
    have c3 := c 3
    have c4 := c 4
    have c5 := c 5
    have c6 := c 6
    have c7 := c 7
    have c8 := c 8
    clear c
    go_wp2_with fail
    go_ret
    exact ⟨HR.out 4 (by
        have a := HQ.out
        have g0 : groundF [] = true := rfl
        try simp only [str_nil] at a
        unfold checkF
        repeat' split
        all_goals first | rfl | (exfalso; simp_all [Tm.name, Tm.args, groundF]; done) | (exfalso; simp_all [Tm.name, Tm.args, groundF]; omega) | (exfalso; dsimp only [Tm.name, Tm.args] at *; omega) | (exfalso; simp_all [Tm.name, Tm.args]; done) | (exfalso; simp_all [Tm.name, Tm.args]; omega)), HM.out.1⟩
  replace HQ := Lib.hid (And.intro hq HQ.out)
  clear hq
  have c := cell_blk HM.out.2
  have c0 := c 0
  have c1 := c 1
  have c2 := c 2
  have c3 := c 3
  have c4 := c 4
  have c5 := c 5
  have c6 := c 6
  have c7 := c 7
  have c8 := c 8
  clear c
  by_cases q387 : sn.toList.isEmpty = false
  focus
    replace HQ := Lib.hid (And.intro q387 HQ.out)
    go_wp2_with fail
    go_ret
    exact ⟨HR.out 13 (by
        have a := HQ.out
        have g0 : groundF [] = true := rfl
        try simp only [str_nil] at a
        unfold checkF
        repeat' split
        all_goals first | rfl | (exfalso; simp_all [Tm.name, Tm.args, groundF]; done) | (exfalso; simp_all [Tm.name, Tm.args, groundF]; omega) | (exfalso; dsimp only [Tm.name, Tm.args] at *; omega) | (exfalso; simp_all [Tm.name, Tm.args]; done) | (exfalso; simp_all [Tm.name, Tm.args]; omega)), HM.out.1⟩
  replace HQ := Lib.hid (And.intro q387 HQ.out)
  have esn : sn.toList.isEmpty = true := by have a := HQ.out.1; simpa using a
  by_cases q395 : 0 < l.length
  focus
    replace HQ := Lib.hid (And.intro q395 HQ.out)
    have bq395 : decide ((0 : Int) < (l.length : Int)) = true := by first | exact decide_eq_true (by omega) | simp_all
    go_wp2_with fail
    go_ret
    exact ⟨HR.out 13 (by
        have a := HQ.out
        have g0 : groundF [] = true := rfl
        try simp only [str_nil] at a
        unfold checkF
        repeat' split
        all_goals first | rfl | (exfalso; simp_all [Tm.name, Tm.args, groundF]; done) | (exfalso; simp_all [Tm.name, Tm.args, groundF]; omega) | (exfalso; dsimp only [Tm.name, Tm.args] at *; omega) | (exfalso; simp_all [Tm.name, Tm.args]; done) | (exfalso; simp_all [Tm.name, Tm.args]; omega)), HM.out.1⟩
  replace HQ := Lib.hid (And.intro q395 HQ.out)
  have bq395 : decide ((0 : Int) < (l.length : Int)) = false := by first | exact decide_eq_false (by omega) | simp_all
  cases hzsc : (sc != 0)
  rotate_left
  focus
    replace HQ := Lib.hid (And.intro hzsc HQ.out)
    go_wp2_with fail
    go_ret
    exact ⟨HR.out 13 (by
        have a := HQ.out
        have g0 : groundF [] = true := rfl
        try simp only [str_nil] at a
        unfold checkF
        repeat' split
        all_goals first | rfl | (exfalso; simp_all [Tm.name, Tm.args, groundF]; done) | (exfalso; simp_all [Tm.name, Tm.args, groundF]; omega) | (exfalso; dsimp only [Tm.name, Tm.args] at *; omega) | (exfalso; simp_all [Tm.name, Tm.args]; done) | (exfalso; simp_all [Tm.name, Tm.args]; omega)), HM.out.1⟩
  replace HQ := Lib.hid (And.intro hzsc HQ.out)
  cases hzpc : (pc != 0)
  rotate_left
  focus
    replace HQ := Lib.hid (And.intro hzpc HQ.out)
    go_wp2_with fail
    go_ret
    exact ⟨HR.out 13 (by
        have a := HQ.out
        have g0 : groundF [] = true := rfl
        try simp only [str_nil] at a
        unfold checkF
        repeat' split
        all_goals first | rfl | (exfalso; simp_all [Tm.name, Tm.args, groundF]; done) | (exfalso; simp_all [Tm.name, Tm.args, groundF]; omega) | (exfalso; dsimp only [Tm.name, Tm.args] at *; omega) | (exfalso; simp_all [Tm.name, Tm.args]; done) | (exfalso; simp_all [Tm.name, Tm.args]; omega)), HM.out.1⟩
  replace HQ := Lib.hid (And.intro hzpc HQ.out)
  by_cases q420 : st.toList.isEmpty = false
  focus
    replace HQ := Lib.hid (And.intro q420 HQ.out)
    go_wp2_with fail
    go_ret
    exact ⟨HR.out 13 (by
        have a := HQ.out
        have g0 : groundF [] = true := rfl
        try simp only [str_nil] at a
        unfold checkF
        repeat' split
        all_goals first | rfl | (exfalso; simp_all [Tm.name, Tm.args, groundF]; done) | (exfalso; simp_all [Tm.name, Tm.args, groundF]; omega) | (exfalso; dsimp only [Tm.name, Tm.args] at *; omega) | (exfalso; simp_all [Tm.name, Tm.args]; done) | (exfalso; simp_all [Tm.name, Tm.args]; omega)), HM.out.1⟩
  replace HQ := Lib.hid (And.intro q420 HQ.out)
  have est : st.toList.isEmpty = true := by have a := HQ.out.1; simpa using a
  by_cases q428 : 1 < l1.length
  focus
    replace HQ := Lib.hid (And.intro q428 HQ.out)
    have bq428 : decide ((1 : Int) < (l1.length : Int)) = true := by first | exact decide_eq_true (by omega) | simp_all
    go_wp2_with fail
    go_ret
    exact ⟨HR.out 13 (by
        have a := HQ.out
        have g0 : groundF [] = true := rfl
        try simp only [str_nil] at a
        unfold checkF
        repeat' split
        all_goals first | rfl | (exfalso; simp_all [Tm.name, Tm.args, groundF]; done) | (exfalso; simp_all [Tm.name, Tm.args, groundF]; omega) | (exfalso; dsimp only [Tm.name, Tm.args] at *; omega) | (exfalso; simp_all [Tm.name, Tm.args]; done) | (exfalso; simp_all [Tm.name, Tm.args]; omega)), HM.out.1⟩
  replace HQ := Lib.hid (And.intro q428 HQ.out)
  have bq428 : decide ((1 : Int) < (l1.length : Int)) = false := by first | exact decide_eq_false (by omega) | simp_all
  go_wp2_with fail
  clear c0 c1 c2 c3 c4 c5 c6 c7 c8
  refine (CG1.out _ HM.out.1).mono ?_
  rintro e w2 ⟨rfl, hb⟩
  replace HM := Lib.hid (show _ ∧ _ from ⟨HM.out.1.trans (hb.mono HM.out.1.size), (hb.block _ (heap_lt HM.out.2)).trans HM.out.2⟩)
  clear hb
  cases hq : groundF l1
  focus
    replace HQ := Lib.hid (And.intro hq HQ.out)
    clear hq
    have c := cell_blk HM.out.2
    have c0 := c 0
    have c1 := c 1
    have c2 := c 2
    have c3 := c 3
    have c4 := c 4
    have c5 := c 5
    have c6 := c 6
    have c7 := c 7
    have c8 := c 8
    clear c
    go_wp2_with fail
    go_ret
    exact ⟨HR.out 13 (by
        have a := HQ.out
        have g0 : groundF [] = true := rfl
        try simp only [str_nil] at a
        unfold checkF
        repeat' split
        all_goals first | rfl | (exfalso; simp_all [Tm.name, Tm.args, groundF]; done) | (exfalso; simp_all [Tm.name, Tm.args, groundF]; omega) | (exfalso; dsimp only [Tm.name, Tm.args] at *; omega) | (exfalso; simp_all [Tm.name, Tm.args]; done) | (exfalso; simp_all [Tm.name, Tm.args]; omega)), HM.out.1⟩
  replace HQ := Lib.hid (And.intro hq HQ.out)
  clear hq
  have c := cell_blk HM.out.2
  have c0 := c 0
  have c1 := c 1
  have c2 := c 2
  have c3 := c 3
  have c4 := c 4
  have c5 := c 5
  have c6 := c 6
  have c7 := c 7
  have c8 := c 8
  clear c
  go_wp2_with fail
  clear c0 c1 c2 c3 c4 c5 c6 c7 c8
  refine (CG2.out _ HM.out.1).mono ?_
  rintro e w3 ⟨rfl, hb⟩
  replace HM := Lib.hid (show _ ∧ _ from ⟨HM.out.1.trans (hb.mono HM.out.1.size), (hb.block _ (heap_lt HM.out.2)).trans HM.out.2⟩)
  clear hb
  cases hq : groundF l2
  focus
    replace HQ := Lib.hid (And.intro hq HQ.out)
    clear hq
    have c := cell_blk HM.out.2
    have c0 := c 0
    have c1 := c 1
    have c2 := c 2
    have c3 := c 3
    have c4 := c 4
    have c5 := c 5
    have c6 := c 6
    have c7 := c 7
    have c8 := c 8
    clear c
    go_wp2_with fail
    go_ret
    exact ⟨HR.out 13 (by
        have a := HQ.out
        have g0 : groundF [] = true := rfl
        try simp only [str_nil] at a
        unfold checkF
        repeat' split
        all_goals first | rfl | (exfalso; simp_all [Tm.name, Tm.args, groundF]; done) | (exfalso; simp_all [Tm.name, Tm.args, groundF]; omega) | (exfalso; dsimp only [Tm.name, Tm.args] at *; omega) | (exfalso; simp_all [Tm.name, Tm.args]; done) | (exfalso; simp_all [Tm.name, Tm.args]; omega)), HM.out.1⟩
  replace HQ := Lib.hid (And.intro hq HQ.out)
  clear hq
  have c := cell_blk HM.out.2
  have c0 := c 0
  have c1 := c 1
  have c2 := c 2
  have c3 := c 3
  have c4 := c 4
  have c5 := c 5
  have c6 := c 6
  have c7 := c 7
  have c8 := c 8
  clear c
  by_cases q511 : 16384 < st.size
  focus
    replace HQ := Lib.hid (And.intro q511 HQ.out)
    have bq511 : decide ((16384 : Int) < (st.size : Int)) = true := by first | exact decide_eq_true (by omega) | simp_all
    go_wp2_with fail
    go_ret
    exact ⟨HR.out 2 (by
        have a := HQ.out
        have g0 : groundF [] = true := rfl
        try simp only [str_nil] at a
        unfold checkF
        repeat' split
        all_goals first | rfl | (exfalso; simp_all [Tm.name, Tm.args, groundF]; done) | (exfalso; simp_all [Tm.name, Tm.args, groundF]; omega) | (exfalso; dsimp only [Tm.name, Tm.args] at *; omega) | (exfalso; simp_all [Tm.name, Tm.args]; done) | (exfalso; simp_all [Tm.name, Tm.args]; omega)), HM.out.1⟩
  replace HQ := Lib.hid (And.intro q511 HQ.out)
  have bq511 : decide ((16384 : Int) < (st.size : Int)) = false := by first | exact decide_eq_false (by omega) | simp_all
  go_wp2_with fail
  go_ret
  exact ⟨HR.out 0 (by
      have a := HQ.out
      have g0 : groundF [] = true := rfl
      try simp only [str_nil] at a
      unfold checkF
      repeat' split
      all_goals first | rfl | (exfalso; simp_all [Tm.name, Tm.args, groundF]; done) | (exfalso; simp_all [Tm.name, Tm.args, groundF]; omega) | (exfalso; dsimp only [Tm.name, Tm.args] at *; omega) | (exfalso; simp_all [Tm.name, Tm.args]; done) | (exfalso; simp_all [Tm.name, Tm.args]; omega)), HM.out.1⟩
end Go.Proofs.YtmplpbdldcokjaaGreatDoor
