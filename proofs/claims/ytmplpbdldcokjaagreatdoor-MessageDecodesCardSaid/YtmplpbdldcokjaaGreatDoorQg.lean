/- message.Check, for any message. -/
import Derived.Test.YtmplpbdldcokjaaGreatDoorQd
import Derived.Test.YtmplpbdldcokjaaGreatDoorQe
import Derived.Test.YtmplpbdldcokjaaGreatDoorQf
namespace Go.Proofs.YtmplpbdldcokjaaGreatDoor
open Go Go.RowKit Go.Shelf
set_option linter.unusedSimpArgs false
set_option linter.unusedVariables false

set_option maxHeartbeats 4000000 in
set_option maxRecDepth 100000 in
theorem check_no (w : World) (k : Int) (hk : k < 1 ∨ 7 < k) (sm sn : ByteArray) (A : Option Addr) (cp : Nat) (l : List Tm) (sc pc : Int) (A1 : Option Addr) (c1 : Nat) (l1 : List Tm) (A2 : Option Addr) (c2 : Nat) (l2 : List Tm) (st : ByteArray) :
    Calls Tryz.prog 13 #[msgV k sm sn A l.length cp sc pc A1 l1.length c1 A2 l2.length c2 st] w (OutB w (.int .i64 20)) := by
  have CO := Lib.hid (fun (y : World) => of_no y k hk)
  clear hk
  go_enter Tryz.func13, Tryz.ntmps13
  have c0 := cell_blk (heap_alloc_new w (.cells #[.int .i64 k, .string sm, .string sn, .slice A l.length cp, .int .i64 sc, .int .i64 pc, .slice A1 l1.length c1, .slice A2 l2.length c2, .string st] 27)) 0
  have HB := Lib.hid (one_box w (.cells #[.int .i64 k, .string sm, .string sn, .slice A l.length cp, .int .i64 sc, .int .i64 pc, .slice A1 l1.length c1, .slice A2 l2.length c2, .string st] 27)).1
  go_wp2_with fail
  refine (CO.out _).mono ?_
  rintro e w1 ⟨rfl, hb⟩
  have HB1 := Lib.hid (HB.out.trans (hb.mono HB.out.size))
  clear hb c0
  go_wp2_with fail
  go_ret
  exact ⟨rfl, HB1.out.alloc HB1.out.size _⟩

/-- what is known of a message in memory: its lists and their elements -/
structure MsIn (w : World) (P : Nat → Prop) (A1 : Option Addr) (l1 : List Tm) (A2 : Option Addr) (l2 : List Tm) : Prop where
  n1 : l1.length ≤ 9223372036854775807
  n2 : l2.length ≤ 9223372036854775807
  hP : ∀ b, P b → b < w.heap.size
  a1 : SlV TmV 2 w P A1 l1
  b1 : ∀ t ∈ l1, TmB t
  a2 : SlV TmV 2 w P A2 l2
  b2 : ∀ t ∈ l2, TmB t
theorem MsIn.keep {w w' : World} {P : Nat → Prop} {A1 : Option Addr} {l1 : List Tm} {A2 : Option Addr} {l2 : List Tm} (h : MsIn w P A1 l1 A2 l2) (hb : Below w.heap.size w w') : MsIn w' P A1 l1 A2 l2 :=
  ⟨h.n1, h.n2, fun b hp => Nat.lt_of_lt_of_le (h.hP b hp) hb.size, h.a1.keep keeps_tm (fun b hp hl => ⟨hp, hb.block b hl⟩) hb.size, h.b1, h.a2.keep keeps_tm (fun b hp hl => ⟨hp, hb.block b hl⟩) hb.size, h.b2⟩
theorem check_any (w : World) (P : Nat → Prop) (k : Int) (sm sn : ByteArray) (A : Option Addr) (cp : Nat) (l : List Tm) (sc pc : Int) (A1 : Option Addr) (c1 : Nat) (l1 : List Tm) (A2 : Option Addr) (c2 : Nat) (l2 : List Tm) (st : ByteArray)
    (hsm : sm.size ≤ 9223372036854775807) (hsn : sn.size ≤ 9223372036854775807) (h : MsIn w P A1 l1 A2 l2) :
    Calls Tryz.prog 13 #[msgV k sm sn A l.length cp sc pc A1 l1.length c1 A2 l2.length c2 st] w (OutB w (.int .i64 (checkF ⟨k, sm.data.toList, .mk sn.data.toList l, sc, pc, l1, l2, st.data.toList⟩))) := by
  by_cases hk : k < 1 ∨ 7 < k
  · have : checkF ⟨k, sm.data.toList, .mk sn.data.toList l, sc, pc, l1, l2, st.data.toList⟩ = 20 := by unfold checkF; rw [if_pos hk]
    rw [this]
    exact check_no w k hk _ _ _ _ _ _ _ _ _ _ _ _ _ _
  · have h7 : k = 1 ∨ k = 2 ∨ k = 3 ∨ k = 4 ∨ k = 5 ∨ k = 6 ∨ k = 7 := by omega
    rcases h7 with rfl | rfl | rfl | rfl | rfl | rfl | rfl
    · exact check_1 w P _ _ _ _ _ _ _ _ _ _ _ _ _ _ hsm hsn h.n1 h.n2 h.hP h.a1 h.b1 h.a2 h.b2
    · exact check_2 w P _ _ _ _ _ _ _ _ _ _ _ _ _ _ hsm hsn h.n1 h.n2 h.hP h.a1 h.b1 h.a2 h.b2
    · exact check_3 w P _ _ _ _ _ _ _ _ _ _ _ _ _ _ hsm hsn h.n1 h.n2 h.hP h.a1 h.b1 h.a2 h.b2
    · exact check_4 w P _ _ _ _ _ _ _ _ _ _ _ _ _ _ hsm hsn h.n1 h.n2 h.hP h.a1 h.b1 h.a2 h.b2
    · exact check_5 w P _ _ _ _ _ _ _ _ _ _ _ _ _ _ hsm hsn h.n1 h.n2 h.hP h.a1 h.b1 h.a2 h.b2
    · exact check_6 w P _ _ _ _ _ _ _ _ _ _ _ _ _ _ hsm hsn h.n1 h.n2 h.hP h.a1 h.b1 h.a2 h.b2
    · exact check_7 w P _ _ _ _ _ _ _ _ _ _ _ _ _ _ hsm hsn h.n1 h.n2 h.hP h.a1 h.b1 h.a2 h.b2
end Go.Proofs.YtmplpbdldcokjaaGreatDoor
