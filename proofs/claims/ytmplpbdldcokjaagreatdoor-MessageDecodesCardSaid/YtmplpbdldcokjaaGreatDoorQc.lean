/- The walks of message.of, clock, Reply, ground, foreign. -/
import Derived.Test.YtmplpbdldcokjaaGreatDoorX1
import Derived.Test.YtmplpbdldcokjaaGreatDoorX4
namespace Go.Proofs.YtmplpbdldcokjaaGreatDoor
open Go Go.RowKit Go.Shelf
set_option linter.unusedSimpArgs false

set_option maxHeartbeats 1000000 in
theorem mclock_any (w : World) (n : Int) : Calls Tryz.prog 40 #[.int .i64 n] w fun e w' => e = .returned (.bool (decide (1 ≤ n) && decide (n ≤ 1000))) ∧ w = w' := by
  go_enter Tryz.func40, Tryz.ntmps40
  go_wp2
  all_goals go_ret
  all_goals refine ⟨ret_bool ?_, rfl⟩
  all_goals (rw [Bool.eq_iff_iff]; simp_all; try omega)
set_option maxHeartbeats 1000000 in
theorem mreply_any (w : World) (n : Int) : Calls Tryz.prog 18 #[.int .i64 n] w fun e w' => e = .returned (.bool (decide (5 ≤ n) && decide (n ≤ 7))) ∧ w = w' := by
  go_enter Tryz.func18, Tryz.ntmps18
  go_wp2
  all_goals go_ret
  all_goals refine ⟨ret_bool ?_, rfl⟩
  all_goals (rw [Bool.eq_iff_iff]; simp_all; try omega)

/-- the fields of a kind, as a value -/
abbrev fldV (a b c d e f : Bool) (p q : Int) : Value := .agg #[.bool a, .bool b, .bool c, .bool d, .bool e, .bool f, .int .i64 p, .int .i64 q]
set_option maxRecDepth 100000 in
theorem of_1 (w : World) : Calls Tryz.prog 38 #[.int .i64 1] w (OutB w (.tuple #[fldV true true true true false false 0 0, .bool true])) := by
  have HB := Lib.hid (one_box w (.cells #[.bool true, .bool true, .bool true, .bool true, .bool false, .bool false, .int .i64 0, .int .i64 0] 56))
  go_enter Tryz.func38, Tryz.ntmps38
  go_wp2_with fail
  generalize w.alloc (.cells #[.bool true, .bool true, .bool true, .bool true, .bool false, .bool false, .int .i64 0, .int .i64 0] 56) = w1 at *
  have c := cell_blk HB.out.2
  have v0 := c 0; have v1 := c 1; have v2 := c 2; have v3 := c 3; have v4 := c 4; have v5 := c 5; have v6 := c 6; have v7 := c 7
  simp at v0 v1 v2 v3 v4 v5 v6 v7
  exact bodyPost_ret (by simp [results, Tryz.results38, go_sem, v0, v1, v2, v3, v4, v5, v6, v7]) rfl ⟨rfl, HB.out.1⟩
set_option maxRecDepth 100000 in
theorem of_2 (w : World) : Calls Tryz.prog 38 #[.int .i64 2] w (OutB w (.tuple #[fldV true false false false true true 1 0, .bool true])) := by
  have HB := Lib.hid (one_box w (.cells #[.bool true, .bool false, .bool false, .bool false, .bool true, .bool true, .int .i64 1, .int .i64 0] 56))
  go_enter Tryz.func38, Tryz.ntmps38
  go_wp2_with fail
  generalize w.alloc (.cells #[.bool true, .bool false, .bool false, .bool false, .bool true, .bool true, .int .i64 1, .int .i64 0] 56) = w1 at *
  have c := cell_blk HB.out.2
  have v0 := c 0; have v1 := c 1; have v2 := c 2; have v3 := c 3; have v4 := c 4; have v5 := c 5; have v6 := c 6; have v7 := c 7
  simp at v0 v1 v2 v3 v4 v5 v6 v7
  exact bodyPost_ret (by simp [results, Tryz.results38, go_sem, v0, v1, v2, v3, v4, v5, v6, v7]) rfl ⟨rfl, HB.out.1⟩
set_option maxRecDepth 100000 in
theorem of_3 (w : World) : Calls Tryz.prog 38 #[.int .i64 3] w (OutB w (.tuple #[fldV true false false false true true 1 0, .bool true])) := by
  have HB := Lib.hid (one_box w (.cells #[.bool true, .bool false, .bool false, .bool false, .bool true, .bool true, .int .i64 1, .int .i64 0] 56))
  go_enter Tryz.func38, Tryz.ntmps38
  go_wp2_with fail
  generalize w.alloc (.cells #[.bool true, .bool false, .bool false, .bool false, .bool true, .bool true, .int .i64 1, .int .i64 0] 56) = w1 at *
  have c := cell_blk HB.out.2
  have v0 := c 0; have v1 := c 1; have v2 := c 2; have v3 := c 3; have v4 := c 4; have v5 := c 5; have v6 := c 6; have v7 := c 7
  simp at v0 v1 v2 v3 v4 v5 v6 v7
  exact bodyPost_ret (by simp [results, Tryz.results38, go_sem, v0, v1, v2, v3, v4, v5, v6, v7]) rfl ⟨rfl, HB.out.1⟩
set_option maxRecDepth 100000 in
theorem of_4 (w : World) : Calls Tryz.prog 38 #[.int .i64 4] w (OutB w (.tuple #[fldV true false false false false false 0 0, .bool true])) := by
  have HB := Lib.hid (one_box w (.cells #[.bool true, .bool false, .bool false, .bool false, .bool false, .bool false, .int .i64 0, .int .i64 0] 56))
  go_enter Tryz.func38, Tryz.ntmps38
  go_wp2_with fail
  generalize w.alloc (.cells #[.bool true, .bool false, .bool false, .bool false, .bool false, .bool false, .int .i64 0, .int .i64 0] 56) = w1 at *
  have c := cell_blk HB.out.2
  have v0 := c 0; have v1 := c 1; have v2 := c 2; have v3 := c 3; have v4 := c 4; have v5 := c 5; have v6 := c 6; have v7 := c 7
  simp at v0 v1 v2 v3 v4 v5 v6 v7
  exact bodyPost_ret (by simp [results, Tryz.results38, go_sem, v0, v1, v2, v3, v4, v5, v6, v7]) rfl ⟨rfl, HB.out.1⟩
set_option maxRecDepth 100000 in
theorem of_5 (w : World) : Calls Tryz.prog 38 #[.int .i64 5] w (OutB w (.tuple #[fldV false false false false false false 0 0, .bool true])) := by
  have HB := Lib.hid (one_box w (.cells #[.bool false, .bool false, .bool false, .bool false, .bool false, .bool false, .int .i64 0, .int .i64 0] 56))
  go_enter Tryz.func38, Tryz.ntmps38
  go_wp2_with fail
  generalize w.alloc (.cells #[.bool false, .bool false, .bool false, .bool false, .bool false, .bool false, .int .i64 0, .int .i64 0] 56) = w1 at *
  have c := cell_blk HB.out.2
  have v0 := c 0; have v1 := c 1; have v2 := c 2; have v3 := c 3; have v4 := c 4; have v5 := c 5; have v6 := c 6; have v7 := c 7
  simp at v0 v1 v2 v3 v4 v5 v6 v7
  exact bodyPost_ret (by simp [results, Tryz.results38, go_sem, v0, v1, v2, v3, v4, v5, v6, v7]) rfl ⟨rfl, HB.out.1⟩
set_option maxRecDepth 100000 in
theorem of_6 (w : World) : Calls Tryz.prog 38 #[.int .i64 6] w (OutB w (.tuple #[fldV false false false false true false 1 1, .bool true])) := by
  have HB := Lib.hid (one_box w (.cells #[.bool false, .bool false, .bool false, .bool false, .bool true, .bool false, .int .i64 1, .int .i64 1] 56))
  go_enter Tryz.func38, Tryz.ntmps38
  go_wp2_with fail
  generalize w.alloc (.cells #[.bool false, .bool false, .bool false, .bool false, .bool true, .bool false, .int .i64 1, .int .i64 1] 56) = w1 at *
  have c := cell_blk HB.out.2
  have v0 := c 0; have v1 := c 1; have v2 := c 2; have v3 := c 3; have v4 := c 4; have v5 := c 5; have v6 := c 6; have v7 := c 7
  simp at v0 v1 v2 v3 v4 v5 v6 v7
  exact bodyPost_ret (by simp [results, Tryz.results38, go_sem, v0, v1, v2, v3, v4, v5, v6, v7]) rfl ⟨rfl, HB.out.1⟩
set_option maxRecDepth 100000 in
theorem of_7 (w : World) : Calls Tryz.prog 38 #[.int .i64 7] w (OutB w (.tuple #[fldV false false false false false false 0 0, .bool true])) := by
  have HB := Lib.hid (one_box w (.cells #[.bool false, .bool false, .bool false, .bool false, .bool false, .bool false, .int .i64 0, .int .i64 0] 56))
  go_enter Tryz.func38, Tryz.ntmps38
  go_wp2_with fail
  generalize w.alloc (.cells #[.bool false, .bool false, .bool false, .bool false, .bool false, .bool false, .int .i64 0, .int .i64 0] 56) = w1 at *
  have c := cell_blk HB.out.2
  have v0 := c 0; have v1 := c 1; have v2 := c 2; have v3 := c 3; have v4 := c 4; have v5 := c 5; have v6 := c 6; have v7 := c 7
  simp at v0 v1 v2 v3 v4 v5 v6 v7
  exact bodyPost_ret (by simp [results, Tryz.results38, go_sem, v0, v1, v2, v3, v4, v5, v6, v7]) rfl ⟨rfl, HB.out.1⟩
set_option maxRecDepth 100000 in
theorem of_no (w : World) (k : Int) (h : k < 1 ∨ 7 < k) : Calls Tryz.prog 38 #[.int .i64 k] w (OutB w (.tuple #[fldV false false false false false false 0 0, .bool false])) := by
  have HB := Lib.hid (one_box w (.cells #[.bool false, .bool false, .bool false, .bool false, .bool false, .bool false, .int .i64 0, .int .i64 0] 56))
  have t1 : (k == 1) = false := by simp; omega
  have t2 : (k == 2) = false := by simp; omega
  have t3 : (k == 3) = false := by simp; omega
  have t4 : (k == 4) = false := by simp; omega
  have t5 : (k == 5) = false := by simp; omega
  have t6 : (k == 6) = false := by simp; omega
  have t7 : (k == 7) = false := by simp; omega
  clear h
  go_enter Tryz.func38, Tryz.ntmps38
  go_wp2_with fail
  generalize w.alloc (.cells #[.bool false, .bool false, .bool false, .bool false, .bool false, .bool false, .int .i64 0, .int .i64 0] 56) = w1 at *
  have c := cell_blk HB.out.2
  have v0 := c 0; have v1 := c 1; have v2 := c 2; have v3 := c 3; have v4 := c 4; have v5 := c 5; have v6 := c 6; have v7 := c 7
  simp at v0 v1 v2 v3 v4 v5 v6 v7
  exact bodyPost_ret (by simp [results, Tryz.results38, go_sem, v0, v1, v2, v3, v4, v5, v6, v7]) rfl ⟨rfl, HB.out.1⟩

set_option maxHeartbeats 4000000 in
set_option maxRecDepth 100000 in
theorem tground_any (w : World) (P : Nat → Prop) (t : Tm) (nm : List UInt8) (A : Option Addr) (cp : Nat) (l : List Tm) (ht : t = .mk nm l) (hv : TmV w P [.string (bs nm), .slice A l.length cp] t) (hb : TmB t) (hP : ∀ b, P b → b < w.heap.size) :
    Calls Tryz.prog 64 #[.agg #[.string (bs nm), .slice A l.length cp]] w (OutB w (.bool (validT false 4 t))) := by
  have HBX := Lib.hid (one_box w (.cells #[.string (bs nm), .slice A l.length cp] 25))
  have CW := Lib.hid (within_any false 4 (Nat.le_refl _) (w.alloc (.cells #[.string (bs nm), .slice A l.length cp] 25)) P t nm A cp l ht (hv.keep (fun b' hp hb' => ⟨hp, HBX.out.1.block b' hb'⟩) HBX.out.1.size) hb (fun b hp => Nat.lt_of_lt_of_le (hP b hp) HBX.out.1.size))
  clear ht hv hb hP
  go_enter Tryz.func64, Tryz.ntmps64
  go_wp2_with fail
  refine CW.out.mono ?_
  rintro e w1 ⟨rfl, hb⟩
  have HB := Lib.hid (HBX.out.1.trans (hb.mono HBX.out.1.size))
  clear hb
  go_wp2_with fail
  go_ret
  exact ⟨rfl, HB.out⟩

set_option maxHeartbeats 4000000 in
set_option maxRecDepth 100000 in
theorem mground_any (w : World) (P : Nat → Prop) (A : Option Addr) (cp : Nat) (l : List Tm) (hl : l.length ≤ 9223372036854775807) (ha : SlV TmV 2 w P A l) (hP : ∀ b, P b → b < w.heap.size) (hb : ∀ t ∈ l, TmB t) :
    Calls Tryz.prog 42 #[.slice A l.length cp] w (OutB w (.bool (groundF l))) := by
  obtain ⟨xs', hxl, harr, hel⟩ := ha
  have HV := Lib.hid (And.intro hxl (And.intro harr (And.intro hel (And.intro hP hb))))
  clear hxl harr hel hb hP
  go_enter Tryz.func42, Tryz.ntmps42
  go_wp2_with fail
  go_loopw [7] (fun i wr => ∃ k : Nat, k ≤ l.length ∧ i = .int .i64 k ∧ Hid (groundF (l.take k) = true ∧ Below w.heap.size w wr)) (fun i _ => l.length - (intOf i).toNat)
  case atStart => exact ⟨0, Nat.zero_le _, rfl, rfl, Below.refl _ _⟩
  case round =>
    obtain ⟨k, hk, rfl, HI⟩ := hrel
    by_cases hlk : k < l.length
    rotate_left
    focus
      obtain rfl : k = l.length := by omega
      rw [List.take_length] at HI
      go_wp2_with fail
      go_ret
      exact ⟨by rw [HI.out.1]; rfl, HI.out.2⟩
    obtain ⟨t, ht⟩ : ∃ t, l[k]? = some t := ⟨_, List.getElem?_eq_getElem hlk⟩
    obtain ⟨x, hx⟩ : ∃ x, xs'[k]? = some x := ⟨_, List.getElem?_eq_getElem (by rw [HV.out.1]; exact hlk)⟩
    have hv := HV.out.2.2.1 k x t hx ht
    have hmem := List.mem_of_getElem? ht
    have htb := HV.out.2.2.2.2 t hmem
    have HK : Hid (groundF (l.take (k + 1)) = (groundF (l.take k) && validT false 4 t)) := by
      obtain ⟨h1, h2⟩ := List.getElem?_eq_some_iff.1 ht
      unfold groundF
      rw [Hid, List.take_succ_eq_append_getElem h1, h2, List.all_append]
      simp
    have HM : Hid (validT false 4 t = false → groundF l = false) := by
      intro hf
      unfold groundF
      rw [List.all_eq_false]
      exact ⟨t, hmem, by simp [hf]⟩
    obtain ⟨nm', A', cp', l', rfl, rfl⟩ := hv.form
    obtain ⟨b0, o0, rfl, hb0, hbl, hc⟩ := HV.out.2.1 (by rw [HV.out.1]; omega)
    have HBX := Lib.hid (one_box wr (.cells #[.string (bs nm'), .slice A' l'.length cp'] 25))
    have HB1 := Lib.hid (HI.out.2.trans (HBX.out.1.mono HI.out.2.size))
    have f0 := (HI.out.2.cell (p := ⟨b0, o0 + k * 2, none⟩) hbl).trans (hc k _ hx 0 _ rfl)
    have f1 := (HI.out.2.cell (p := ⟨b0, o0 + k * 2 + 1, none⟩) hbl).trans (hc k _ hx 1 _ rfl)
    have CI := Lib.hid (tground_any (wr.alloc (.cells #[.string (bs nm'), .slice A' l'.length cp'] 25)) P _ nm' A' cp' l' rfl (hv.keep (fun b' hp hb' => ⟨hp, HB1.out.block b' hb'⟩) HB1.out.size) htb (fun b hp => Nat.lt_of_lt_of_le (HV.out.2.2.2.1 b hp) HB1.out.size))
    clear hv hx hc ht htb hmem
    have c0 := cell_blk HBX.out.2 0
    have c1 := cell_blk HBX.out.2 1
    go_wp2_with fail
    generalize wr.alloc (.cells #[.string (bs nm'), .slice A' l'.length cp'] 25) = w3 at *
    clear c0 c1
    refine CI.out.mono ?_
    rintro e w4 ⟨rfl, hb⟩
    have HB5 := Lib.hid (HB1.out.trans (hb.mono HB1.out.size))
    clear hb
    cases hq : validT false 4 (.mk nm' l')
    · rw [hq] at HK
      have HF := Lib.hid (HM.out hq)
      clear HM
      go_wp2_with fail
      go_ret
      exact ⟨by rw [HF.out]; rfl, HB5.out⟩
    · rw [hq] at HK
      clear HM
      go_wp2_with fail
      go_roundw
      case rel => exact ⟨k + 1, by omega, by go_num, by rw [HK.out, HI.out.1]; rfl, HB5.out⟩
      case measure => simp [intOf]; omega

/-- a message as a value -/
abbrev msgV (k : Int) (sm sn : ByteArray) (A : Option Addr) (n0 cp : Nat) (sc pc : Int) (A1 : Option Addr) (n1 c1 : Nat) (A2 : Option Addr) (n2 c2 : Nat) (st : ByteArray) : Value :=
  .agg #[.int .i64 k, .string sm, .string sn, .slice A n0 cp, .int .i64 sc, .int .i64 pc, .slice A1 n1 c1, .slice A2 n2 c2, .string st]
set_option maxHeartbeats 4000000 in
set_option maxRecDepth 100000 in
theorem foreign_1 (w : World) (k : Int) (sm sn : ByteArray) (A : Option Addr) (n0 cp : Nat) (sc pc : Int) (A1 : Option Addr) (n1 c1 : Nat) (A2 : Option Addr) (n2 c2 : Nat) (st : ByteArray) (p q : Int) :
    Calls Tryz.prog 41 #[msgV k sm sn A n0 cp sc pc A1 n1 c1 A2 n2 c2 st, fldV true true true true false false p q] w (OutB w (.bool (decide ((0 : Int) < (n1 : Int)) || decide ((0 : Int) < (n2 : Int))))) := by
  go_enter Tryz.func41, Tryz.ntmps41
  go_wp2
  all_goals go_ret
  all_goals refine ⟨ret_bool ?_, (two_box w _ _).1⟩
  all_goals (simp_all; try omega)
set_option maxHeartbeats 4000000 in
set_option maxRecDepth 100000 in
theorem foreign_2 (w : World) (k : Int) (sm sn : ByteArray) (A : Option Addr) (n0 cp : Nat) (sc pc : Int) (A1 : Option Addr) (n1 c1 : Nat) (A2 : Option Addr) (n2 c2 : Nat) (st : ByteArray) (p q : Int) :
    Calls Tryz.prog 41 #[msgV k sm sn A n0 cp sc pc A1 n1 c1 A2 n2 c2 st, fldV true false false false true true p q] w (OutB w (.bool (!sn.toList.isEmpty || decide ((0 : Int) < (n0 : Int)) || sc != 0 || pc != 0 || !st.toList.isEmpty))) := by
  go_enter Tryz.func41, Tryz.ntmps41
  go_wp2
  all_goals go_ret
  all_goals refine ⟨ret_bool ?_, (two_box w _ _).1⟩
  all_goals (simp_all; try omega)
set_option maxHeartbeats 4000000 in
set_option maxRecDepth 100000 in
theorem foreign_4 (w : World) (k : Int) (sm sn : ByteArray) (A : Option Addr) (n0 cp : Nat) (sc pc : Int) (A1 : Option Addr) (n1 c1 : Nat) (A2 : Option Addr) (n2 c2 : Nat) (st : ByteArray) (p q : Int) :
    Calls Tryz.prog 41 #[msgV k sm sn A n0 cp sc pc A1 n1 c1 A2 n2 c2 st, fldV true false false false false false p q] w (OutB w (.bool (!sn.toList.isEmpty || decide ((0 : Int) < (n0 : Int)) || sc != 0 || pc != 0 || !st.toList.isEmpty || decide ((0 : Int) < (n1 : Int)) || decide ((0 : Int) < (n2 : Int))))) := by
  go_enter Tryz.func41, Tryz.ntmps41
  go_wp2
  all_goals go_ret
  all_goals refine ⟨ret_bool ?_, (two_box w _ _).1⟩
  all_goals (simp_all; try omega)
set_option maxHeartbeats 4000000 in
set_option maxRecDepth 100000 in
theorem foreign_5 (w : World) (k : Int) (sm sn : ByteArray) (A : Option Addr) (n0 cp : Nat) (sc pc : Int) (A1 : Option Addr) (n1 c1 : Nat) (A2 : Option Addr) (n2 c2 : Nat) (st : ByteArray) (p q : Int) :
    Calls Tryz.prog 41 #[msgV k sm sn A n0 cp sc pc A1 n1 c1 A2 n2 c2 st, fldV false false false false false false p q] w (OutB w (.bool (!sm.toList.isEmpty || !sn.toList.isEmpty || decide ((0 : Int) < (n0 : Int)) || sc != 0 || pc != 0 || !st.toList.isEmpty || decide ((0 : Int) < (n1 : Int)) || decide ((0 : Int) < (n2 : Int))))) := by
  go_enter Tryz.func41, Tryz.ntmps41
  go_wp2
  all_goals go_ret
  all_goals refine ⟨ret_bool ?_, (two_box w _ _).1⟩
  all_goals (simp_all; try omega)
set_option maxHeartbeats 4000000 in
set_option maxRecDepth 100000 in
theorem foreign_6 (w : World) (k : Int) (sm sn : ByteArray) (A : Option Addr) (n0 cp : Nat) (sc pc : Int) (A1 : Option Addr) (n1 c1 : Nat) (A2 : Option Addr) (n2 c2 : Nat) (st : ByteArray) (p q : Int) :
    Calls Tryz.prog 41 #[msgV k sm sn A n0 cp sc pc A1 n1 c1 A2 n2 c2 st, fldV false false false false true false p q] w (OutB w (.bool (!sm.toList.isEmpty || !sn.toList.isEmpty || decide ((0 : Int) < (n0 : Int)) || sc != 0 || pc != 0 || !st.toList.isEmpty || decide ((0 : Int) < (n2 : Int))))) := by
  go_enter Tryz.func41, Tryz.ntmps41
  go_wp2
  all_goals go_ret
  all_goals refine ⟨ret_bool ?_, (two_box w _ _).1⟩
  all_goals (simp_all; try omega)
/-- two boxes stay while a world grows -/
def MB (w wc : World) (b c : Nat) (o1 o2 : Obj) : Prop := wc.heap[b]? = some o1 ∧ wc.heap[c]? = some o2 ∧ Below w.heap.size w wc
theorem MB.step {w wc wd : World} {b c : Nat} {o1 o2 : Obj} (h : MB w wc b c o1 o2) (hb : Below wc.heap.size wc wd) : MB w wd b c o1 o2 :=
  ⟨(hb.block _ (heap_lt h.1)).trans h.1, (hb.block _ (heap_lt h.2.1)).trans h.2.1, h.2.2.trans (hb.mono h.2.2.size)⟩
theorem mb_start (w : World) (o1 o2 : Obj) {w1 : World} (hb : Below (w.alloc o1).heap.size (w.alloc o1) w1) : MB w (w1.alloc o2) w.heap.size w1.heap.size o1 o2 := by
  have h1 := one_box w o1
  have h2 := hb.block _ (heap_lt h1.2)
  have h3 := h2.trans h1.2
  exact ⟨(Below.heap_alloc _ _ _ (heap_lt h3)).trans h3, heap_alloc_new w1 o2, (h1.1.trans (hb.mono h1.1.size)).alloc (Nat.le_trans h1.1.size hb.size) o2⟩
theorem str_nil {s : ByteArray} : s.toList.isEmpty = s.data.toList.isEmpty := by rw [ByteArray.toList_eq]
end Go.Proofs.YtmplpbdldcokjaaGreatDoor
