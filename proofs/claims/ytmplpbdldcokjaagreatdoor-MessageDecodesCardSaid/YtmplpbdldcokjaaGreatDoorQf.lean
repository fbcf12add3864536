/- The walk of message.Check. -/
import Derived.Test.YtmplpbdldcokjaaGreatDoorQc
namespace Go.Proofs.YtmplpbdldcokjaaGreatDoor
open Go Go.RowKit Go.Shelf
set_option linter.unusedSimpArgs false
set_option linter.unusedVariables false


set_option maxHeartbeats 16000000 in
set_option maxRecDepth 100000 in
theorem check_5 (w : World) (P : Nat → Prop) (sm sn : ByteArray) (A : Option Addr) (cp : Nat) (l : List Tm) (sc pc : Int) (A1 : Option Addr) (c1 : Nat) (l1 : List Tm) (A2 : Option Addr) (c2 : Nat) (l2 : List Tm) (st : ByteArray)
    (hsm : sm.size ≤ 9223372036854775807) (hsn : sn.size ≤ 9223372036854775807) (hl1 : l1.length ≤ 9223372036854775807) (hl2 : l2.length ≤ 9223372036854775807) (hP : ∀ b, P b → b < w.heap.size)
    (ha1 : SlV TmV 2 w P A1 l1) (hb1 : ∀ t ∈ l1, TmB t) (ha2 : SlV TmV 2 w P A2 l2) (hb2 : ∀ t ∈ l2, TmB t) :
    Calls Tryz.prog 13 #[msgV 5 sm sn A l.length cp sc pc A1 l1.length c1 A2 l2.length c2 st] w (OutB w (.int .i64 (checkF ⟨5, sm.data.toList, .mk sn.data.toList l, sc, pc, l1, l2, st.data.toList⟩))) := by
  have HR : Hid (∀ z : Int, checkF ⟨5, sm.data.toList, .mk sn.data.toList l, sc, pc, l1, l2, st.data.toList⟩ = z → Ending.returned (Value.int .i64 z) = Ending.returned (.int .i64 (checkF ⟨5, sm.data.toList, .mk sn.data.toList l, sc, pc, l1, l2, st.data.toList⟩))) := fun z h => by rw [h]
  have CG1 := Lib.hid (fun (y : World) (hy : Below w.heap.size w y) => mground_any y P A1 c1 l1 hl1 (ha1.keep keeps_tm (fun b hp hb => ⟨hp, hy.block b hb⟩) hy.size) (fun b hp => Nat.lt_of_lt_of_le (hP b hp) hy.size) hb1)
  have CG2 := Lib.hid (fun (y : World) (hy : Below w.heap.size w y) => mground_any y P A2 c2 l2 hl2 (ha2.keep keeps_tm (fun b hp hb => ⟨hp, hy.block b hb⟩) hy.size) (fun b hp => Nat.lt_of_lt_of_le (hP b hp) hy.size) hb2)
  have CN1 := Lib.hid (fun (y : World) => name_any y sm hsm)
  have CN2 := Lib.hid (fun (y : World) => name_any y sn hsn)
  have hst : (st.size : Int) = (st.data.toList.length : Int) := by simp
  have HQ := Lib.hid (And.intro hst trivial)
  clear ha1 hb1 ha2 hb2 hP hl1 hl2 hsm hsn hst
  go_enter Tryz.func13, Tryz.ntmps13
  have c0 := cell_blk (heap_alloc_new w (.cells #[.int .i64 5, .string sm, .string sn, .slice A l.length cp, .int .i64 sc, .int .i64 pc, .slice A1 l1.length c1, .slice A2 l2.length c2, .string st] 27)) 0
  go_wp2_with fail
  refine (of_5 _).mono ?_
  rintro e w1 ⟨rfl, hb⟩
  have HM := Lib.hid (mb_start w _ (.cells #[.bool false, .bool false, .bool false, .bool false, .bool false, .bool false, .int .i64 0, .int .i64 0] 56) hb)
  clear hb c0
  have c := cell_blk HM.out.1
  have d := cell_blk HM.out.2.1
  have c0 := c 0
  have c1 := c 1
  have c2 := c 2
  have c3 := c 3
  have c4 := c 4
  have c5 := c 5
  have c6 := c 6
  have c7 := c 7
  have c8 := c 8
  have d0 := d 0
  have d1 := d 1
  have d2 := d 2
  have d3 := d 3
  have d4 := d 4
  have d5 := d 5
  have d6 := d 6
  have d7 := d 7
  clear c d
  go_wp2_with fail
  clear c0 c1 c2 c3 c4 c5 c6 c7 c8 d0 d1 d2 d3 d4 d5 d6 d7
  generalize hW2 : w1.alloc (.cells #[.bool false, .bool false, .bool false, .bool false, .bool false, .bool false, .int .i64 0, .int .i64 0] 56) = w2 at *
  generalize hbF : w1.heap.size = bf at *
  clear hW2 hbF w1
  refine (foreign_5 _ _ _ _ _ _ _ _ _ _ _ _ _ _ _ _ _ _).mono ?_
  rintro e w3 ⟨rfl, hb⟩
  replace HM := Lib.hid (HM.out.step hb)
  clear hb
  cases hq : (!sm.toList.isEmpty || !sn.toList.isEmpty || decide ((0 : Int) < (l.length : Int)) || sc != 0 || pc != 0 || !st.toList.isEmpty || decide ((0 : Int) < (l1.length : Int)) || decide ((0 : Int) < (l2.length : Int)))
  rotate_left
  focus
    replace HQ := Lib.hid (And.intro hq HQ.out)
    clear hq
    have c := cell_blk HM.out.1
    have d := cell_blk HM.out.2.1
    have c0 := c 0
    have c1 := c 1
    have c2 := c 2
    have c3 := c 3
    have c4 := c 4
    have c5 := c 5
    have c6 := c 6
    have c7 := c 7
    have c8 := c 8
    have d0 := d 0
    have d1 := d 1
    have d2 := d 2
    have d3 := d 3
    have d4 := d 4
    have d5 := d 5
    have d6 := d 6
    have d7 := d 7
    clear c d
    go_wp2_with fail
    go_ret
    exact ⟨HR.out 13 (by
        have a := HQ.out
        have g0 : groundF [] = true := rfl
        try simp only [str_nil] at a
        unfold checkF
        repeat' split
        all_goals first | rfl | (exfalso; simp_all [Tm.name, Tm.args, groundF]; done) | (exfalso; simp_all [Tm.name, Tm.args, groundF]; omega) | (exfalso; dsimp only [Tm.name, Tm.args] at *; omega) | (exfalso; simp_all [Tm.name, Tm.args]; done) | (exfalso; simp_all [Tm.name, Tm.args]; omega)), HM.out.2.2⟩
  replace HQ := Lib.hid (And.intro hq HQ.out)
  clear hq
  have c := cell_blk HM.out.1
  have d := cell_blk HM.out.2.1
  have c0 := c 0
  have c1 := c 1
  have c2 := c 2
  have c3 := c 3
  have c4 := c 4
  have c5 := c 5
  have c6 := c 6
  have c7 := c 7
  have c8 := c 8
  have d0 := d 0
  have d1 := d 1
  have d2 := d 2
  have d3 := d 3
  have d4 := d 4
  have d5 := d 5
  have d6 := d 6
  have d7 := d 7
  clear c d
  have HZl1 : Hid (l1 = []) := by have a := HQ.out.1; simp at a; exact List.length_eq_zero_iff.1 (by first | omega | simp_all)
  have HGl1 : Hid (groundF l1 = true) := by rw [Hid, HZl1.out]; rfl
  have HZl2 : Hid (l2 = []) := by have a := HQ.out.1; simp at a; exact List.length_eq_zero_iff.1 (by first | omega | simp_all)
  have HGl2 : Hid (groundF l2 = true) := by rw [Hid, HZl2.out]; rfl
  go_wp2_with fail
  clear c0 c1 c2 c3 c4 c5 c6 c7 c8 d0 d1 d2 d3 d4 d5 d6 d7
  refine (CG1.out _ HM.out.2.2).mono ?_
  rintro e w4 ⟨rfl, hb⟩
  replace HM := Lib.hid (HM.out.step hb)
  clear hb
  rw [HGl1.out]
  have c := cell_blk HM.out.1
  have d := cell_blk HM.out.2.1
  have c0 := c 0
  have c1 := c 1
  have c2 := c 2
  have c3 := c 3
  have c4 := c 4
  have c5 := c 5
  have c6 := c 6
  have c7 := c 7
  have c8 := c 8
  have d0 := d 0
  have d1 := d 1
  have d2 := d 2
  have d3 := d 3
  have d4 := d 4
  have d5 := d 5
  have d6 := d 6
  have d7 := d 7
  clear c d
  go_wp2_with fail
  clear c0 c1 c2 c3 c4 c5 c6 c7 c8 d0 d1 d2 d3 d4 d5 d6 d7
  refine (CG2.out _ HM.out.2.2).mono ?_
  rintro e w5 ⟨rfl, hb⟩
  replace HM := Lib.hid (HM.out.step hb)
  clear hb
  rw [HGl2.out]
  have c := cell_blk HM.out.1
  have d := cell_blk HM.out.2.1
  have c0 := c 0
  have c1 := c 1
  have c2 := c 2
  have c3 := c 3
  have c4 := c 4
  have c5 := c 5
  have c6 := c 6
  have c7 := c 7
  have c8 := c 8
  have d0 := d 0
  have d1 := d 1
  have d2 := d 2
  have d3 := d 3
  have d4 := d 4
  have d5 := d 5
  have d6 := d 6
  have d7 := d 7
  clear c d
  have z1 := HZl1.out
  subst z1
  have z2 := HZl2.out
  subst z2
  by_cases hqTt : 16384 < st.size
  focus
    have hp : decide ((16384 : Int) < (st.size : Int)) = true := decide_eq_true (by omega)
    replace HQ := Lib.hid (And.intro hqTt HQ.out)
    go_wp2_with fail
    go_ret
    exact ⟨HR.out 2 (by
        have a := HQ.out
        have g0 : groundF [] = true := rfl
        try simp only [str_nil] at a
        unfold checkF
        repeat' split
        all_goals first | rfl | (exfalso; simp_all [Tm.name, Tm.args, groundF]; done) | (exfalso; simp_all [Tm.name, Tm.args, groundF]; omega) | (exfalso; dsimp only [Tm.name, Tm.args] at *; omega) | (exfalso; simp_all [Tm.name, Tm.args]; done) | (exfalso; simp_all [Tm.name, Tm.args]; omega)), HM.out.2.2⟩
  have hp : decide ((16384 : Int) < (st.size : Int)) = false := decide_eq_false (by omega)
  replace HQ := Lib.hid (And.intro hqTt HQ.out)
  go_wp2_with fail
  go_ret
  exact ⟨HR.out 0 (by
      have a := HQ.out
      have g0 : groundF [] = true := rfl
      try simp only [str_nil] at a
      unfold checkF
      repeat' split
      all_goals first | rfl | (exfalso; simp_all [Tm.name, Tm.args, groundF]; done) | (exfalso; simp_all [Tm.name, Tm.args, groundF]; omega) | (exfalso; dsimp only [Tm.name, Tm.args] at *; omega) | (exfalso; simp_all [Tm.name, Tm.args]; done) | (exfalso; simp_all [Tm.name, Tm.args]; omega)), HM.out.2.2⟩
set_option maxHeartbeats 16000000 in
set_option maxRecDepth 100000 in
theorem check_7 (w : World) (P : Nat → Prop) (sm sn : ByteArray) (A : Option Addr) (cp : Nat) (l : List Tm) (sc pc : Int) (A1 : Option Addr) (c1 : Nat) (l1 : List Tm) (A2 : Option Addr) (c2 : Nat) (l2 : List Tm) (st : ByteArray)
    (hsm : sm.size ≤ 9223372036854775807) (hsn : sn.size ≤ 9223372036854775807) (hl1 : l1.length ≤ 9223372036854775807) (hl2 : l2.length ≤ 9223372036854775807) (hP : ∀ b, P b → b < w.heap.size)
    (ha1 : SlV TmV 2 w P A1 l1) (hb1 : ∀ t ∈ l1, TmB t) (ha2 : SlV TmV 2 w P A2 l2) (hb2 : ∀ t ∈ l2, TmB t) :
    Calls Tryz.prog 13 #[msgV 7 sm sn A l.length cp sc pc A1 l1.length c1 A2 l2.length c2 st] w (OutB w (.int .i64 (checkF ⟨7, sm.data.toList, .mk sn.data.toList l, sc, pc, l1, l2, st.data.toList⟩))) := by
  have HR : Hid (∀ z : Int, checkF ⟨7, sm.data.toList, .mk sn.data.toList l, sc, pc, l1, l2, st.data.toList⟩ = z → Ending.returned (Value.int .i64 z) = Ending.returned (.int .i64 (checkF ⟨7, sm.data.toList, .mk sn.data.toList l, sc, pc, l1, l2, st.data.toList⟩))) := fun z h => by rw [h]
  have CG1 := Lib.hid (fun (y : World) (hy : Below w.heap.size w y) => mground_any y P A1 c1 l1 hl1 (ha1.keep keeps_tm (fun b hp hb => ⟨hp, hy.block b hb⟩) hy.size) (fun b hp => Nat.lt_of_lt_of_le (hP b hp) hy.size) hb1)
  have CG2 := Lib.hid (fun (y : World) (hy : Below w.heap.size w y) => mground_any y P A2 c2 l2 hl2 (ha2.keep keeps_tm (fun b hp hb => ⟨hp, hy.block b hb⟩) hy.size) (fun b hp => Nat.lt_of_lt_of_le (hP b hp) hy.size) hb2)
  have CN1 := Lib.hid (fun (y : World) => name_any y sm hsm)
  have CN2 := Lib.hid (fun (y : World) => name_any y sn hsn)
  have hst : (st.size : Int) = (st.data.toList.length : Int) := by simp
  have HQ := Lib.hid (And.intro hst trivial)
  clear ha1 hb1 ha2 hb2 hP hl1 hl2 hsm hsn hst
  go_enter Tryz.func13, Tryz.ntmps13
  have c0 := cell_blk (heap_alloc_new w (.cells #[.int .i64 7, .string sm, .string sn, .slice A l.length cp, .int .i64 sc, .int .i64 pc, .slice A1 l1.length c1, .slice A2 l2.length c2, .string st] 27)) 0
  go_wp2_with fail
  refine (of_7 _).mono ?_
  rintro e w1 ⟨rfl, hb⟩
  have HM := Lib.hid (mb_start w _ (.cells #[.bool false, .bool false, .bool false, .bool false, .bool false, .bool false, .int .i64 0, .int .i64 0] 56) hb)
  clear hb c0
  have c := cell_blk HM.out.1
  have d := cell_blk HM.out.2.1
  have c0 := c 0
  have c1 := c 1
  have c2 := c 2
  have c3 := c 3
  have c4 := c 4
  have c5 := c 5
  have c6 := c 6
  have c7 := c 7
  have c8 := c 8
  have d0 := d 0
  have d1 := d 1
  have d2 := d 2
  have d3 := d 3
  have d4 := d 4
  have d5 := d 5
  have d6 := d 6
  have d7 := d 7
  clear c d
  go_wp2_with fail
  clear c0 c1 c2 c3 c4 c5 c6 c7 c8 d0 d1 d2 d3 d4 d5 d6 d7
  generalize hW2 : w1.alloc (.cells #[.bool false, .bool false, .bool false, .bool false, .bool false, .bool false, .int .i64 0, .int .i64 0] 56) = w2 at *
  generalize hbF : w1.heap.size = bf at *
  clear hW2 hbF w1
  refine (foreign_5 _ _ _ _ _ _ _ _ _ _ _ _ _ _ _ _ _ _).mono ?_
  rintro e w3 ⟨rfl, hb⟩
  replace HM := Lib.hid (HM.out.step hb)
  clear hb
  cases hq : (!sm.toList.isEmpty || !sn.toList.isEmpty || decide ((0 : Int) < (l.length : Int)) || sc != 0 || pc != 0 || !st.toList.isEmpty || decide ((0 : Int) < (l1.length : Int)) || decide ((0 : Int) < (l2.length : Int)))
  rotate_left
  focus
    replace HQ := Lib.hid (And.intro hq HQ.out)
    clear hq
    have c := cell_blk HM.out.1
    have d := cell_blk HM.out.2.1
    have c0 := c 0
    have c1 := c 1
    have c2 := c 2
    have c3 := c 3
    have c4 := c 4
    have c5 := c 5
    have c6 := c 6
    have c7 := c 7
    have c8 := c 8
    have d0 := d 0
    have d1 := d 1
    have d2 := d 2
    have d3 := d 3
    have d4 := d 4
    have d5 := d 5
    have d6 := d 6
    have d7 := d 7
    clear c d
    go_wp2_with fail
    go_ret
    exact ⟨HR.out 13 (by
        have a := HQ.out
        have g0 : groundF [] = true := rfl
        try simp only [str_nil] at a
        unfold checkF
        repeat' split
        all_goals first | rfl | (exfalso; simp_all [Tm.name, Tm.args, groundF]; done) | (exfalso; simp_all [Tm.name, Tm.args, groundF]; omega) | (exfalso; dsimp only [Tm.name, Tm.args] at *; omega) | (exfalso; simp_all [Tm.name, Tm.args]; done) | (exfalso; simp_all [Tm.name, Tm.args]; omega)), HM.out.2.2⟩
  replace HQ := Lib.hid (And.intro hq HQ.out)
  clear hq
  have c := cell_blk HM.out.1
  have d := cell_blk HM.out.2.1
  have c0 := c 0
  have c1 := c 1
  have c2 := c 2
  have c3 := c 3
  have c4 := c 4
  have c5 := c 5
  have c6 := c 6
  have c7 := c 7
  have c8 := c 8
  have d0 := d 0
  have d1 := d 1
  have d2 := d 2
  have d3 := d 3
  have d4 := d 4
  have d5 := d 5
  have d6 := d 6
  have d7 := d 7
  clear c d
  have HZl1 : Hid (l1 = []) := by have a := HQ.out.1; simp at a; exact List.length_eq_zero_iff.1 (by first | omega | simp_all)
  have HGl1 : Hid (groundF l1 = true) := by rw [Hid, HZl1.out]; rfl
  have HZl2 : Hid (l2 = []) := by have a := HQ.out.1; simp at a; exact List.length_eq_zero_iff.1 (by first | omega | simp_all)
  have HGl2 : Hid (groundF l2 = true) := by rw [Hid, HZl2.out]; rfl
  go_wp2_with fail
  clear c0 c1 c2 c3 c4 c5 c6 c7 c8 d0 d1 d2 d3 d4 d5 d6 d7
  refine (CG1.out _ HM.out.2.2).mono ?_
  rintro e w4 ⟨rfl, hb⟩
  replace HM := Lib.hid (HM.out.step hb)
  clear hb
  rw [HGl1.out]
  have c := cell_blk HM.out.1
  have d := cell_blk HM.out.2.1
  have c0 := c 0
  have c1 := c 1
  have c2 := c 2
  have c3 := c 3
  have c4 := c 4
  have c5 := c 5
  have c6 := c 6
  have c7 := c 7
  have c8 := c 8
  have d0 := d 0
  have d1 := d 1
  have d2 := d 2
  have d3 := d 3
  have d4 := d 4
  have d5 := d 5
  have d6 := d 6
  have d7 := d 7
  clear c d
  go_wp2_with fail
  clear c0 c1 c2 c3 c4 c5 c6 c7 c8 d0 d1 d2 d3 d4 d5 d6 d7
  refine (CG2.out _ HM.out.2.2).mono ?_
  rintro e w5 ⟨rfl, hb⟩
  replace HM := Lib.hid (HM.out.step hb)
  clear hb
  rw [HGl2.out]
  have c := cell_blk HM.out.1
  have d := cell_blk HM.out.2.1
  have c0 := c 0
  have c1 := c 1
  have c2 := c 2
  have c3 := c 3
  have c4 := c 4
  have c5 := c 5
  have c6 := c 6
  have c7 := c 7
  have c8 := c 8
  have d0 := d 0
  have d1 := d 1
  have d2 := d 2
  have d3 := d 3
  have d4 := d 4
  have d5 := d 5
  have d6 := d 6
  have d7 := d 7
  clear c d
  have z1 := HZl1.out
  subst z1
  have z2 := HZl2.out
  subst z2
  by_cases hqTt : 16384 < st.size
  focus
    have hp : decide ((16384 : Int) < (st.size : Int)) = true := decide_eq_true (by omega)
    replace HQ := Lib.hid (And.intro hqTt HQ.out)
    go_wp2_with fail
    go_ret
    exact ⟨HR.out 2 (by
        have a := HQ.out
        have g0 : groundF [] = true := rfl
        try simp only [str_nil] at a
        unfold checkF
        repeat' split
        all_goals first | rfl | (exfalso; simp_all [Tm.name, Tm.args, groundF]; done) | (exfalso; simp_all [Tm.name, Tm.args, groundF]; omega) | (exfalso; dsimp only [Tm.name, Tm.args] at *; omega) | (exfalso; simp_all [Tm.name, Tm.args]; done) | (exfalso; simp_all [Tm.name, Tm.args]; omega)), HM.out.2.2⟩
  have hp : decide ((16384 : Int) < (st.size : Int)) = false := decide_eq_false (by omega)
  replace HQ := Lib.hid (And.intro hqTt HQ.out)
  go_wp2_with fail
  go_ret
  exact ⟨HR.out 0 (by
      have a := HQ.out
      have g0 : groundF [] = true := rfl
      try simp only [str_nil] at a
      unfold checkF
      repeat' split
      all_goals first | rfl | (exfalso; simp_all [Tm.name, Tm.args, groundF]; done) | (exfalso; simp_all [Tm.name, Tm.args, groundF]; omega) | (exfalso; dsimp only [Tm.name, Tm.args] at *; omega) | (exfalso; simp_all [Tm.name, Tm.args]; done) | (exfalso; simp_all [Tm.name, Tm.args]; omega)), HM.out.2.2⟩
set_option maxHeartbeats 16000000 in
set_option maxRecDepth 100000 in
theorem check_6 (w : World) (P : Nat → Prop) (sm sn : ByteArray) (A : Option Addr) (cp : Nat) (l : List Tm) (sc pc : Int) (A1 : Option Addr) (c1 : Nat) (l1 : List Tm) (A2 : Option Addr) (c2 : Nat) (l2 : List Tm) (st : ByteArray)
    (hsm : sm.size ≤ 9223372036854775807) (hsn : sn.size ≤ 9223372036854775807) (hl1 : l1.length ≤ 9223372036854775807) (hl2 : l2.length ≤ 9223372036854775807) (hP : ∀ b, P b → b < w.heap.size)
    (ha1 : SlV TmV 2 w P A1 l1) (hb1 : ∀ t ∈ l1, TmB t) (ha2 : SlV TmV 2 w P A2 l2) (hb2 : ∀ t ∈ l2, TmB t) :
    Calls Tryz.prog 13 #[msgV 6 sm sn A l.length cp sc pc A1 l1.length c1 A2 l2.length c2 st] w (OutB w (.int .i64 (checkF ⟨6, sm.data.toList, .mk sn.data.toList l, sc, pc, l1, l2, st.data.toList⟩))) := by
  have HR : Hid (∀ z : Int, checkF ⟨6, sm.data.toList, .mk sn.data.toList l, sc, pc, l1, l2, st.data.toList⟩ = z → Ending.returned (Value.int .i64 z) = Ending.returned (.int .i64 (checkF ⟨6, sm.data.toList, .mk sn.data.toList l, sc, pc, l1, l2, st.data.toList⟩))) := fun z h => by rw [h]
  have CG1 := Lib.hid (fun (y : World) (hy : Below w.heap.size w y) => mground_any y P A1 c1 l1 hl1 (ha1.keep keeps_tm (fun b hp hb => ⟨hp, hy.block b hb⟩) hy.size) (fun b hp => Nat.lt_of_lt_of_le (hP b hp) hy.size) hb1)
  have CG2 := Lib.hid (fun (y : World) (hy : Below w.heap.size w y) => mground_any y P A2 c2 l2 hl2 (ha2.keep keeps_tm (fun b hp hb => ⟨hp, hy.block b hb⟩) hy.size) (fun b hp => Nat.lt_of_lt_of_le (hP b hp) hy.size) hb2)
  have CN1 := Lib.hid (fun (y : World) => name_any y sm hsm)
  have CN2 := Lib.hid (fun (y : World) => name_any y sn hsn)
  have hst : (st.size : Int) = (st.data.toList.length : Int) := by simp
  have HQ := Lib.hid (And.intro hst trivial)
  clear ha1 hb1 ha2 hb2 hP hl1 hl2 hsm hsn hst
  go_enter Tryz.func13, Tryz.ntmps13
  have c0 := cell_blk (heap_alloc_new w (.cells #[.int .i64 6, .string sm, .string sn, .slice A l.length cp, .int .i64 sc, .int .i64 pc, .slice A1 l1.length c1, .slice A2 l2.length c2, .string st] 27)) 0
  go_wp2_with fail
  refine (of_6 _).mono ?_
  rintro e w1 ⟨rfl, hb⟩
  have HM := Lib.hid (mb_start w _ (.cells #[.bool false, .bool false, .bool false, .bool false, .bool true, .bool false, .int .i64 1, .int .i64 1] 56) hb)
  clear hb c0
  have c := cell_blk HM.out.1
  have d := cell_blk HM.out.2.1
  have c0 := c 0
  have c1 := c 1
  have c2 := c 2
  have c3 := c 3
  have c4 := c 4
  have c5 := c 5
  have c6 := c 6
  have c7 := c 7
  have c8 := c 8
  have d0 := d 0
  have d1 := d 1
  have d2 := d 2
  have d3 := d 3
  have d4 := d 4
  have d5 := d 5
  have d6 := d 6
  have d7 := d 7
  clear c d
  go_wp2_with fail
  clear c0 c1 c2 c3 c4 c5 c6 c7 c8 d0 d1 d2 d3 d4 d5 d6 d7
  generalize hW2 : w1.alloc (.cells #[.bool false, .bool false, .bool false, .bool false, .bool true, .bool false, .int .i64 1, .int .i64 1] 56) = w2 at *
  generalize hbF : w1.heap.size = bf at *
  clear hW2 hbF w1
  refine (foreign_6 _ _ _ _ _ _ _ _ _ _ _ _ _ _ _ _ _ _).mono ?_
  rintro e w3 ⟨rfl, hb⟩
  replace HM := Lib.hid (HM.out.step hb)
  clear hb
  cases hq : (!sm.toList.isEmpty || !sn.toList.isEmpty || decide ((0 : Int) < (l.length : Int)) || sc != 0 || pc != 0 || !st.toList.isEmpty || decide ((0 : Int) < (l2.length : Int)))
  rotate_left
  focus
    replace HQ := Lib.hid (And.intro hq HQ.out)
    clear hq
    have c := cell_blk HM.out.1
    have d := cell_blk HM.out.2.1
    have c0 := c 0
    have c1 := c 1
    have c2 := c 2
    have c3 := c 3
    have c4 := c 4
    have c5 := c 5
    have c6 := c 6
    have c7 := c 7
    have c8 := c 8
    have d0 := d 0
    have d1 := d 1
    have d2 := d 2
    have d3 := d 3
    have d4 := d 4
    have d5 := d 5
    have d6 := d 6
    have d7 := d 7
    clear c d
    go_wp2_with fail
    go_ret
    exact ⟨HR.out 13 (by
        have a := HQ.out
        have g0 : groundF [] = true := rfl
        try simp only [str_nil] at a
        unfold checkF
        repeat' split
        all_goals first | rfl | (exfalso; simp_all [Tm.name, Tm.args, groundF]; done) | (exfalso; simp_all [Tm.name, Tm.args, groundF]; omega) | (exfalso; dsimp only [Tm.name, Tm.args] at *; omega) | (exfalso; simp_all [Tm.name, Tm.args]; done) | (exfalso; simp_all [Tm.name, Tm.args]; omega)), HM.out.2.2⟩
  replace HQ := Lib.hid (And.intro hq HQ.out)
  clear hq
  have c := cell_blk HM.out.1
  have d := cell_blk HM.out.2.1
  have c0 := c 0
  have c1 := c 1
  have c2 := c 2
  have c3 := c 3
  have c4 := c 4
  have c5 := c 5
  have c6 := c 6
  have c7 := c 7
  have c8 := c 8
  have d0 := d 0
  have d1 := d 1
  have d2 := d 2
  have d3 := d 3
  have d4 := d 4
  have d5 := d 5
  have d6 := d 6
  have d7 := d 7
  clear c d
  have HZl2 : Hid (l2 = []) := by have a := HQ.out.1; simp at a; exact List.length_eq_zero_iff.1 (by first | omega | simp_all)
  have HGl2 : Hid (groundF l2 = true) := by rw [Hid, HZl2.out]; rfl
  go_wp2_with fail
  clear c0 c1 c2 c3 c4 c5 c6 c7 c8 d0 d1 d2 d3 d4 d5 d6 d7
  refine (CG1.out _ HM.out.2.2).mono ?_
  rintro e w4 ⟨rfl, hb⟩
  replace HM := Lib.hid (HM.out.step hb)
  clear hb
  cases hq : groundF l1
  focus
    replace HQ := Lib.hid (And.intro hq HQ.out)
    clear hq
    have c := cell_blk HM.out.1
    have d := cell_blk HM.out.2.1
    have c0 := c 0
    have c1 := c 1
    have c2 := c 2
    have c3 := c 3
    have c4 := c 4
    have c5 := c 5
    have c6 := c 6
    have c7 := c 7
    have c8 := c 8
    have d0 := d 0
    have d1 := d 1
    have d2 := d 2
    have d3 := d 3
    have d4 := d 4
    have d5 := d 5
    have d6 := d 6
    have d7 := d 7
    clear c d
    go_wp2_with fail
    go_ret
    exact ⟨HR.out 13 (by
        have a := HQ.out
        have g0 : groundF [] = true := rfl
        try simp only [str_nil] at a
        unfold checkF
        repeat' split
        all_goals first | rfl | (exfalso; simp_all [Tm.name, Tm.args, groundF]; done) | (exfalso; simp_all [Tm.name, Tm.args, groundF]; omega) | (exfalso; dsimp only [Tm.name, Tm.args] at *; omega) | (exfalso; simp_all [Tm.name, Tm.args]; done) | (exfalso; simp_all [Tm.name, Tm.args]; omega)), HM.out.2.2⟩
  replace HQ := Lib.hid (And.intro hq HQ.out)
  clear hq
  have c := cell_blk HM.out.1
  have d := cell_blk HM.out.2.1
  have c0 := c 0
  have c1 := c 1
  have c2 := c 2
  have c3 := c 3
  have c4 := c 4
  have c5 := c 5
  have c6 := c 6
  have c7 := c 7
  have c8 := c 8
  have d0 := d 0
  have d1 := d 1
  have d2 := d 2
  have d3 := d 3
  have d4 := d 4
  have d5 := d 5
  have d6 := d 6
  have d7 := d 7
  clear c d
  go_wp2_with fail
  clear c0 c1 c2 c3 c4 c5 c6 c7 c8 d0 d1 d2 d3 d4 d5 d6 d7
  refine (CG2.out _ HM.out.2.2).mono ?_
  rintro e w5 ⟨rfl, hb⟩
  replace HM := Lib.hid (HM.out.step hb)
  clear hb
  rw [HGl2.out]
  have c := cell_blk HM.out.1
  have d := cell_blk HM.out.2.1
  have c0 := c 0
  have c1 := c 1
  have c2 := c 2
  have c3 := c 3
  have c4 := c 4
  have c5 := c 5
  have c6 := c 6
  have c7 := c 7
  have c8 := c 8
  have d0 := d 0
  have d1 := d 1
  have d2 := d 2
  have d3 := d 3
  have d4 := d 4
  have d5 := d 5
  have d6 := d 6
  have d7 := d 7
  clear c d
  by_cases hqMt : 1 < l1.length
  focus
    have hp : decide ((1 : Int) < (l1.length : Int)) = true := decide_eq_true (by omega)
    replace HQ := Lib.hid (And.intro hqMt HQ.out)
    go_wp2_with fail
    go_ret
    exact ⟨HR.out 13 (by
        have a := HQ.out
        have g0 : groundF [] = true := rfl
        try simp only [str_nil] at a
        unfold checkF
        repeat' split
        all_goals first | rfl | (exfalso; simp_all [Tm.name, Tm.args, groundF]; done) | (exfalso; simp_all [Tm.name, Tm.args, groundF]; omega) | (exfalso; dsimp only [Tm.name, Tm.args] at *; omega) | (exfalso; simp_all [Tm.name, Tm.args]; done) | (exfalso; simp_all [Tm.name, Tm.args]; omega)), HM.out.2.2⟩
  have hm1 : decide ((1 : Int) < (l1.length : Int)) = false := decide_eq_false (by omega)
  replace HQ := Lib.hid (And.intro hqMt HQ.out)
  by_cases hqL1 : l1.length < 1
  focus
    have hp : decide ((l1.length : Int) < 1) = true := decide_eq_true (by omega)
    replace HQ := Lib.hid (And.intro hqL1 HQ.out)
    go_wp2_with fail
    go_ret
    exact ⟨HR.out 13 (by
        have a := HQ.out
        have g0 : groundF [] = true := rfl
        try simp only [str_nil] at a
        unfold checkF
        repeat' split
        all_goals first | rfl | (exfalso; simp_all [Tm.name, Tm.args, groundF]; done) | (exfalso; simp_all [Tm.name, Tm.args, groundF]; omega) | (exfalso; dsimp only [Tm.name, Tm.args] at *; omega) | (exfalso; simp_all [Tm.name, Tm.args]; done) | (exfalso; simp_all [Tm.name, Tm.args]; omega)), HM.out.2.2⟩
  have hm2 : decide ((l1.length : Int) < 1) = false := decide_eq_false (by omega)
  have hqE : l1.length = 1 := by omega
  replace HQ := Lib.hid (And.intro hqE HQ.out)
  have z2 := HZl2.out
  subst z2
  by_cases hqTt : 16384 < st.size
  focus
    have hp : decide ((16384 : Int) < (st.size : Int)) = true := decide_eq_true (by omega)
    replace HQ := Lib.hid (And.intro hqTt HQ.out)
    go_wp2_with fail
    go_ret
    exact ⟨HR.out 2 (by
        have a := HQ.out
        have g0 : groundF [] = true := rfl
        try simp only [str_nil] at a
        unfold checkF
        repeat' split
        all_goals first | rfl | (exfalso; simp_all [Tm.name, Tm.args, groundF]; done) | (exfalso; simp_all [Tm.name, Tm.args, groundF]; omega) | (exfalso; dsimp only [Tm.name, Tm.args] at *; omega) | (exfalso; simp_all [Tm.name, Tm.args]; done) | (exfalso; simp_all [Tm.name, Tm.args]; omega)), HM.out.2.2⟩
  have hp : decide ((16384 : Int) < (st.size : Int)) = false := decide_eq_false (by omega)
  replace HQ := Lib.hid (And.intro hqTt HQ.out)
  go_wp2_with fail
  go_ret
  exact ⟨HR.out 0 (by
      have a := HQ.out
      have g0 : groundF [] = true := rfl
      try simp only [str_nil] at a
      unfold checkF
      repeat' split
      all_goals first | rfl | (exfalso; simp_all [Tm.name, Tm.args, groundF]; done) | (exfalso; simp_all [Tm.name, Tm.args, groundF]; omega) | (exfalso; dsimp only [Tm.name, Tm.args] at *; omega) | (exfalso; simp_all [Tm.name, Tm.args]; done) | (exfalso; simp_all [Tm.name, Tm.args]; omega)), HM.out.2.2⟩
end Go.Proofs.YtmplpbdldcokjaaGreatDoor
