/- The reference's Check of any message, and its Encode, kind by kind. -/
import Derived.Test.YtmplpbdldcokjaaGreatDoorQw1
import Derived.Test.YtmplpbdldcokjaaGreatDoorQw2
import Derived.Test.YtmplpbdldcokjaaGreatDoorQw3
import Derived.Test.YtmplpbdldcokjaaGreatDoorQv
import Derived.Test.YtmplpbdldcokjaaGreatDoorX5
namespace Go.Proofs.YtmplpbdldcokjaaGreatDoor
open Go Go.RowKit Go.Shelf
set_option linter.unusedSimpArgs false
set_option linter.unusedVariables false

set_option maxHeartbeats 4000000 in
set_option maxRecDepth 100000 in
theorem rcheck_no (w : World) (k : Int) (hk : k < 1 ∨ 7 < k) (sm sn : ByteArray) (A : Option Addr) (cp : Nat) (l : List Tm) (sc pc : Int) (A1 : Option Addr) (c1 : Nat) (l1 : List Tm) (A2 : Option Addr) (c2 : Nat) (l2 : List Tm) (st : ByteArray) :
    Calls Tryz.prog 17 #[msgV k sm sn A l.length cp sc pc A1 l1.length c1 A2 l2.length c2 st] w (OutB w (.int .i64 20)) := by
  have HM := Lib.hid (one_box w (.cells #[.int .i64 k, .string sm, .string sn, .slice A l.length cp, .int .i64 sc, .int .i64 pc, .slice A1 l1.length c1, .slice A2 l2.length c2, .string st] 27))
  by_cases h1 : k < 1
  · have e1 : decide (k < 1) = true := decide_eq_true h1
    clear hk
    go_enter Tryz.func17, Tryz.ntmps17
    have c0 := cell_blk HM.out.2 0
    go_wp2_with fail
    go_ret
    exact ⟨rfl, HM.out.1⟩
  · have e1 : decide (k < 1) = false := decide_eq_false h1
    have h7 : 7 < k := by omega
    have e2 : decide (7 < k) = true := decide_eq_true h7
    clear hk
    go_enter Tryz.func17, Tryz.ntmps17
    have c0 := cell_blk HM.out.2 0
    go_wp2_with fail
    go_ret
    exact ⟨rfl, HM.out.1⟩
theorem rcheck_any (w : World) (P : Nat → Prop) (k : Int) (sm sn : ByteArray) (A : Option Addr) (cp : Nat) (l : List Tm) (sc pc : Int) (A1 : Option Addr) (c1 : Nat) (l1 : List Tm) (A2 : Option Addr) (c2 : Nat) (l2 : List Tm) (st : ByteArray)
    (hsm : sm.size ≤ 9223372036854775807) (hsn : sn.size ≤ 9223372036854775807) (h : MsIn w P A1 l1 A2 l2) :
    Calls Tryz.prog 17 #[msgV k sm sn A l.length cp sc pc A1 l1.length c1 A2 l2.length c2 st] w (OutB w (.int .i64 (checkF ⟨k, sm.data.toList, .mk sn.data.toList l, sc, pc, l1, l2, st.data.toList⟩))) := by
  by_cases hk : k < 1 ∨ 7 < k
  · have : checkF ⟨k, sm.data.toList, .mk sn.data.toList l, sc, pc, l1, l2, st.data.toList⟩ = 20 := by unfold checkF; rw [if_pos hk]
    rw [this]
    exact rcheck_no w k hk _ _ _ _ _ _ _ _ _ _ _ _ _ _
  · have h7 : k = 1 ∨ k = 2 ∨ k = 3 ∨ k = 4 ∨ k = 5 ∨ k = 6 ∨ k = 7 := by omega
    rcases h7 with rfl | rfl | rfl | rfl | rfl | rfl | rfl
    · exact rcheck_1 w P _ _ _ _ _ _ _ _ _ _ _ _ _ _ hsm hsn h
    · exact rcheck_2 w P _ _ _ _ _ _ _ _ _ _ _ _ _ _ hsm hsn h
    · exact rcheck_3 w P _ _ _ _ _ _ _ _ _ _ _ _ _ _ hsm hsn h
    · exact rcheck_4 w P _ _ _ _ _ _ _ _ _ _ _ _ _ _ hsm hsn h
    · exact rcheck_5 w P _ _ _ _ _ _ _ _ _ _ _ _ _ _ hsm hsn h
    · exact rcheck_6 w P _ _ _ _ _ _ _ _ _ _ _ _ _ _ hsm hsn h
    · exact rcheck_7 w P _ _ _ _ _ _ _ _ _ _ _ _ _ _ hsm hsn h
theorem keep8 {w4 x : World} {q : Nat} {v0 v1 v2 v4 v5 v6 v7 v8 : Value} (h : w4.cell? ⟨q, 0, none⟩ = some v0 ∧ w4.cell? ⟨q, 1, none⟩ = some v1 ∧ w4.cell? ⟨q, 2, none⟩ = some v2 ∧ w4.cell? ⟨q, 4, none⟩ = some v4 ∧ w4.cell? ⟨q, 5, none⟩ = some v5 ∧ w4.cell? ⟨q, 6, none⟩ = some v6 ∧ w4.cell? ⟨q, 7, none⟩ = some v7 ∧ w4.cell? ⟨q, 8, none⟩ = some v8 ∧ q < w4.heap.size) (hb : Below w4.heap.size w4 x) :
    x.cell? ⟨q, 0, none⟩ = some v0 ∧ x.cell? ⟨q, 1, none⟩ = some v1 ∧ x.cell? ⟨q, 2, none⟩ = some v2 ∧ x.cell? ⟨q, 4, none⟩ = some v4 ∧ x.cell? ⟨q, 5, none⟩ = some v5 ∧ x.cell? ⟨q, 6, none⟩ = some v6 ∧ x.cell? ⟨q, 7, none⟩ = some v7 ∧ x.cell? ⟨q, 8, none⟩ = some v8 ∧ Hid (Below w4.heap.size w4 x) := by
  obtain ⟨h0, h1, h2, h4, h5, h6, h7, h8, hl⟩ := h
  exact ⟨(hb.cell (p := ⟨q, 0, none⟩) hl).trans h0, (hb.cell (p := ⟨q, 1, none⟩) hl).trans h1, (hb.cell (p := ⟨q, 2, none⟩) hl).trans h2, (hb.cell (p := ⟨q, 4, none⟩) hl).trans h4, (hb.cell (p := ⟨q, 5, none⟩) hl).trans h5, (hb.cell (p := ⟨q, 6, none⟩) hl).trans h6, (hb.cell (p := ⟨q, 7, none⟩) hl).trans h7, (hb.cell (p := ⟨q, 8, none⟩) hl).trans h8, hb⟩
theorem last8 {p0 p1 p2 p3 p4 p5 p6 p7 p : Prop} (h : p0 ∧ p1 ∧ p2 ∧ p3 ∧ p4 ∧ p5 ∧ p6 ∧ p7 ∧ Hid p) : p := h.2.2.2.2.2.2.2.2.out

set_option maxHeartbeats 16000000 in
set_option maxRecDepth 100000 in
theorem rencode_no (w : World) (P : Nat → Prop) (k : Int) (mat nm : List UInt8) (A : Option Addr) (cp : Nat) (l : List Tm) (sc pc : Int) (A1 : Option Addr) (c1 : Nat) (l1 : List Tm) (A2 : Option Addr) (c2 : Nat) (l2 : List Tm) (txt : List UInt8)
    (hsm : mat.length ≤ 9223372036854775807) (hsn : nm.length ≤ 9223372036854775807) (h : MsIn w P A1 l1 A2 l2) (hn1 : l1.length ≤ 5000) (hn2 : l2.length ≤ 5000) (ht : Tb w)
    (hc : checkF ⟨k, mat, .mk nm l, sc, pc, l1, l2, txt⟩ ≠ 0) :
    Calls Tryz.prog 20 #[(msgV k (bs mat) (bs nm) A l.length cp sc pc A1 l1.length c1 A2 l2.length c2 (bs txt))] w (OutB w (encV ⟨k, mat, .mk nm l, sc, pc, l1, l2, txt⟩)) := by
  have HB0 := Lib.hid (one_box w (.cells #[.int .i64 k, .string (bs mat), .string (bs nm), .slice A l.length cp, .int .i64 sc, .int .i64 pc, .slice A1 l1.length c1, .slice A2 l2.length c2, .string (bs txt)] 27))
  have CC := Lib.hid (rcheck_any (w.alloc (.cells #[.int .i64 k, .string (bs mat), .string (bs nm), .slice A l.length cp, .int .i64 sc, .int .i64 pc, .slice A1 l1.length c1, .slice A2 l2.length c2, .string (bs txt)] 27)) P k (bs mat) (bs nm) A cp l sc pc A1 c1 l1 A2 c2 l2 (bs txt) (by rw [size_bs]; omega) (by rw [size_bs]; omega) (h.keep HB0.out.1))
  rw [toList_bs, toList_bs, toList_bs] at CC
  have HIN := Lib.hid (fun (y : World) (hy : Below w.heap.size w y) => h.keep hy)
  have HTB := Lib.hid (fun (y : World) (hy : Below w.heap.size w y) => ht.below hy)
  clear h ht
  have HR : Hid (∀ z : Int, checkF ⟨k, mat, .mk nm l, sc, pc, l1, l2, txt⟩ = z → Ending.returned (Value.tuple #[.string ⟨#[]⟩, .int .i64 z]) = Ending.returned (encV ⟨k, mat, .mk nm l, sc, pc, l1, l2, txt⟩)) := fun z hz => encO_no hz (by rw [← hz]; exact hc)
  generalize hz : checkF ⟨k, mat, .mk nm l, sc, pc, l1, l2, txt⟩ = z at *
  have HRU := Lib.hid (HR.out z rfl)
  have e1 : (z != 0) = true := by simpa using hc
  clear HR hz hc
  go_enter Tryz.func20, Tryz.ntmps20
  go_wp2_with fail
  generalize w.alloc (.cells #[.int .i64 k, .string (bs mat), .string (bs nm), .slice A l.length cp, .int .i64 sc, .int .i64 pc, .slice A1 l1.length c1, .slice A2 l2.length c2, .string (bs txt)] 27) = w0 at *
  refine CC.out.mono ?_
  rintro e w1 ⟨rfl, hb⟩
  have HM := Lib.hid ((hb.block _ (heap_lt HB0.out.2)).trans HB0.out.2)
  have HB1 := Lib.hid (HB0.out.1.trans (hb.mono HB0.out.1.size))
  clear hb CC HB0
  go_wp2_with fail
  go_ret2
  exact ⟨HRU.out, HB1.out⟩

set_option maxHeartbeats 16000000 in
set_option maxRecDepth 100000 in
theorem rencode_4 (w : World) (P : Nat → Prop) (mat nm : List UInt8) (A : Option Addr) (cp : Nat) (l : List Tm) (sc pc : Int) (A1 : Option Addr) (c1 : Nat) (l1 : List Tm) (A2 : Option Addr) (c2 : Nat) (l2 : List Tm) (txt : List UInt8)
    (hsm : mat.length ≤ 9223372036854775807) (hsn : nm.length ≤ 9223372036854775807) (h : MsIn w P A1 l1 A2 l2) (hn1 : l1.length ≤ 5000) (hn2 : l2.length ≤ 5000) (ht : Tb w)
    (hc : checkF ⟨4, mat, .mk nm l, sc, pc, l1, l2, txt⟩ = 0) :
    Calls Tryz.prog 20 #[(msgV 4 (bs mat) (bs nm) A l.length cp sc pc A1 l1.length c1 A2 l2.length c2 (bs txt))] w (OutB w (encV ⟨4, mat, .mk nm l, sc, pc, l1, l2, txt⟩)) := by
  have HB0 := Lib.hid (one_box w (.cells #[.int .i64 4, .string (bs mat), .string (bs nm), .slice A l.length cp, .int .i64 sc, .int .i64 pc, .slice A1 l1.length c1, .slice A2 l2.length c2, .string (bs txt)] 27))
  have CC := Lib.hid (rcheck_any (w.alloc (.cells #[.int .i64 4, .string (bs mat), .string (bs nm), .slice A l.length cp, .int .i64 sc, .int .i64 pc, .slice A1 l1.length c1, .slice A2 l2.length c2, .string (bs txt)] 27)) P 4 (bs mat) (bs nm) A cp l sc pc A1 c1 l1 A2 c2 l2 (bs txt) (by rw [size_bs]; omega) (by rw [size_bs]; omega) (h.keep HB0.out.1))
  rw [toList_bs, toList_bs, toList_bs] at CC
  have HIN := Lib.hid (fun (y : World) (hy : Below w.heap.size w y) => h.keep hy)
  have HTB := Lib.hid (fun (y : World) (hy : Below w.heap.size w y) => ht.below hy)
  clear h ht
  have HOK := Lib.hid (check_ok hc)
  have HCK := Lib.hid hc
  rw [hc] at CC
  have hg1 : groundF l1 = true := (check_ok hc).2.2.2.2.2.2.2.2.2.1
  have hg2 : groundF l2 = true := (check_ok hc).2.2.2.2.2.2.2.2.2.2.1
  clear hc
  have hlen1 := termsT_len hg1
  have hlen2 := termsT_len hg2
  have hk1 : ∀ j, (Lib.join (txs (l1.take j)) [44, 32]).length ≤ 100000000 := fun j => by have := termsT_len (ground_take hg1 j); have h2 := List.length_take_le' j l1; show (termsT (l1.take j)).length ≤ _; omega
  have hk2 : ∀ j, (Lib.join (txs (l2.take j)) [44, 32]).length ≤ 100000000 := fun j => by have := termsT_len (ground_take hg2 j); have h2 := List.length_take_le' j l2; show (termsT (l2.take j)).length ≤ _; omega
  have CT1 := Lib.hid (fun (y : World) (hy : Below w.heap.size w y) => rterms_text y P A1 c1 l1 (by omega) (HIN.out y hy).a1 (HIN.out y hy).hP (ground_w hg1) hk1)
  have CT2 := Lib.hid (fun (y : World) (hy : Below w.heap.size w y) => rterms_text y P A2 c2 l2 (by omega) (HIN.out y hy).a2 (HIN.out y hy).hP (ground_w hg2) hk2)
  rw [show Lib.join (txs l1) [44, 32] = termsT l1 from rfl] at CT1
  rw [show Lib.join (txs l2) [44, 32] = termsT l2 from rfl] at CT2
  have CE1 := Lib.hid (fun (y : World) => rescape_any y (bs (termsT l1)) (by rw [size_bs]; omega))
  have CE2 := Lib.hid (fun (y : World) => rescape_any y (bs (termsT l2)) (by rw [size_bs]; omega))
  rw [toList_bs] at CE1 CE2
  have he1 := (escT_len (termsT l1)).2.1
  have he2 := (escT_len (termsT l2)).2.1
  clear hk1 hk2
  have hmat : mat.length ≤ 16 := name_le (HOK.out.2.1 (show (4 : Int) ≤ 4 by decide))
  have hadd : ∀ y : World, (Op.stringOp .add ⟨#[97, 98, 111, 114, 116, 32]⟩ (bs mat)).run Tryz.prog y = .ok (.string (bs ([97, 98, 111, 114, 116, 32] ++ mat))) y := fun y => str_add_b [97, 98, 111, 114, 116, 32] mat (by simp; omega)
  have HRU := Lib.hid (encO_ok HCK.out (s := [97, 98, 111, 114, 116, 32] ++ mat) (by unfold encF encW; simp [Lib.join, List.intercalate, wAbort]))
  generalize bs ([97, 98, 111, 114, 116, 32] ++ mat) = s9 at *
  clear hmat
  clear hlen1 hlen2 he1 he2 hg1 hg2
  generalize bs (termsT l1) = t1 at *
  generalize bs (termsT l2) = t2 at *
  generalize bs (escT (termsT l1)) = sx1 at *
  generalize bs (escT (termsT l2)) = sx2 at *
  generalize bs mat = smat at *
  generalize bs nm = snm at *
  generalize bs txt = stxt at *
  go_enter Tryz.func20, Tryz.ntmps20
  go_wp2_with fail
  generalize w.alloc (.cells #[.int .i64 4, .string smat, .string snm, .slice A l.length cp, .int .i64 sc, .int .i64 pc, .slice A1 l1.length c1, .slice A2 l2.length c2, .string stxt] 27) = w0 at *
  refine CC.out.mono ?_
  rintro e w1 ⟨rfl, hb⟩
  have HM := Lib.hid ((hb.block _ (heap_lt HB0.out.2)).trans HB0.out.2)
  have HB1 := Lib.hid (HB0.out.1.trans (hb.mono HB0.out.1.size))
  clear hb CC HB0
  have CX1 := Lib.hid (fun (y : World) (hy : Below w1.heap.size w1 y) => CT1.out y (HB1.out.trans (hy.mono HB1.out.size)))
  have CX2 := Lib.hid (fun (y : World) (hy : Below w1.heap.size w1 y) => CT2.out y (HB1.out.trans (hy.mono HB1.out.size)))
  have c := cell_blk HM.out
  have HC : Hid (w1.cell? ⟨w.heap.size, 0, none⟩ = some (.int .i64 4) ∧ w1.cell? ⟨w.heap.size, 1, none⟩ = some (.string smat) ∧ w1.cell? ⟨w.heap.size, 2, none⟩ = some (.string snm) ∧ w1.cell? ⟨w.heap.size, 4, none⟩ = some (.int .i64 sc) ∧ w1.cell? ⟨w.heap.size, 5, none⟩ = some (.int .i64 pc) ∧ w1.cell? ⟨w.heap.size, 6, none⟩ = some (.slice A1 l1.length c1) ∧ w1.cell? ⟨w.heap.size, 7, none⟩ = some (.slice A2 l2.length c2) ∧ w1.cell? ⟨w.heap.size, 8, none⟩ = some (.string stxt) ∧ w.heap.size < w1.heap.size) := ⟨c 0, c 1, c 2, c 4, c 5, c 6, c 7, c 8, heap_lt HM.out⟩
  have HR0 := Lib.hid (Below.refl w1.heap.size w1)
  clear CT1 CT2 c
  go_wp2_with fail
  go_region_held3 (fun y => y.cell? ⟨w.heap.size, 0, none⟩ = some (.int .i64 4) ∧ y.cell? ⟨w.heap.size, 1, none⟩ = some (.string smat) ∧ y.cell? ⟨w.heap.size, 2, none⟩ = some (.string snm) ∧ y.cell? ⟨w.heap.size, 4, none⟩ = some (.int .i64 sc) ∧ y.cell? ⟨w.heap.size, 5, none⟩ = some (.int .i64 pc) ∧ y.cell? ⟨w.heap.size, 6, none⟩ = some (.slice A1 l1.length c1) ∧ y.cell? ⟨w.heap.size, 7, none⟩ = some (.slice A2 l2.length c2) ∧ y.cell? ⟨w.heap.size, 8, none⟩ = some (.string stxt) ∧ Hid (Below w1.heap.size w1 y)) (first | (exact keep8 HC.out (Below.drew HR0.out)) | (exact keep8 HC.out (Below.drew (last8 ‹_ ∧ _ ∧ _ ∧ _ ∧ _ ∧ _ ∧ _ ∧ _ ∧ Hid _›))) | (exact keep8 HC.out (trans1h (Lib.hid (last8 ‹_ ∧ _ ∧ _ ∧ _ ∧ _ ∧ _ ∧ _ ∧ _ ∧ Hid _›)) hb9))) (first | (go_at_call 51; have hq9 := last8 ‹_ ∧ _ ∧ _ ∧ _ ∧ _ ∧ _ ∧ _ ∧ _ ∧ Hid _›; (with_reducible refine (CX1.out _ hq9).mono ?_); rintro e9 w9 ⟨rfl, hb9⟩; clear hq9) | (go_at_call 51; have hq9 := last8 ‹_ ∧ _ ∧ _ ∧ _ ∧ _ ∧ _ ∧ _ ∧ _ ∧ Hid _›; (with_reducible refine (CX2.out _ hq9).mono ?_); rintro e9 w9 ⟨rfl, hb9⟩; clear hq9) | (go_at_call 24; (with_reducible refine (CE1.out _).mono ?_); rintro e9 w9 ⟨rfl, hb9⟩) | (go_at_call 24; (with_reducible refine (CE2.out _).mono ?_); rintro e9 w9 ⟨rfl, hb9⟩))
  have HBY := Lib.hid (last8 ‹_ ∧ _ ∧ _ ∧ _ ∧ _ ∧ _ ∧ _ ∧ _ ∧ Hid _›)
  obtain ⟨z0, z1, z2, z4, z5, z6, z7, z8, _⟩ := ‹_ ∧ _ ∧ _ ∧ _ ∧ _ ∧ _ ∧ _ ∧ _ ∧ Hid _›
  go_wp2_with fail
  go_ret2
  exact ⟨HRU.out, HB1.out.trans (HBY.out.mono HB1.out.size)⟩

set_option maxHeartbeats 16000000 in
set_option maxRecDepth 100000 in
theorem rencode_5 (w : World) (P : Nat → Prop) (mat nm : List UInt8) (A : Option Addr) (cp : Nat) (l : List Tm) (sc pc : Int) (A1 : Option Addr) (c1 : Nat) (l1 : List Tm) (A2 : Option Addr) (c2 : Nat) (l2 : List Tm) (txt : List UInt8)
    (hsm : mat.length ≤ 9223372036854775807) (hsn : nm.length ≤ 9223372036854775807) (h : MsIn w P A1 l1 A2 l2) (hn1 : l1.length ≤ 5000) (hn2 : l2.length ≤ 5000) (ht : Tb w)
    (hc : checkF ⟨5, mat, .mk nm l, sc, pc, l1, l2, txt⟩ = 0) :
    Calls Tryz.prog 20 #[(msgV 5 (bs mat) (bs nm) A l.length cp sc pc A1 l1.length c1 A2 l2.length c2 (bs txt))] w (OutB w (encV ⟨5, mat, .mk nm l, sc, pc, l1, l2, txt⟩)) := by
  have HB0 := Lib.hid (one_box w (.cells #[.int .i64 5, .string (bs mat), .string (bs nm), .slice A l.length cp, .int .i64 sc, .int .i64 pc, .slice A1 l1.length c1, .slice A2 l2.length c2, .string (bs txt)] 27))
  have CC := Lib.hid (rcheck_any (w.alloc (.cells #[.int .i64 5, .string (bs mat), .string (bs nm), .slice A l.length cp, .int .i64 sc, .int .i64 pc, .slice A1 l1.length c1, .slice A2 l2.length c2, .string (bs txt)] 27)) P 5 (bs mat) (bs nm) A cp l sc pc A1 c1 l1 A2 c2 l2 (bs txt) (by rw [size_bs]; omega) (by rw [size_bs]; omega) (h.keep HB0.out.1))
  rw [toList_bs, toList_bs, toList_bs] at CC
  have HIN := Lib.hid (fun (y : World) (hy : Below w.heap.size w y) => h.keep hy)
  have HTB := Lib.hid (fun (y : World) (hy : Below w.heap.size w y) => ht.below hy)
  clear h ht
  have HOK := Lib.hid (check_ok hc)
  have HCK := Lib.hid hc
  rw [hc] at CC
  have hg1 : groundF l1 = true := (check_ok hc).2.2.2.2.2.2.2.2.2.1
  have hg2 : groundF l2 = true := (check_ok hc).2.2.2.2.2.2.2.2.2.2.1
  clear hc
  have hlen1 := termsT_len hg1
  have hlen2 := termsT_len hg2
  have hk1 : ∀ j, (Lib.join (txs (l1.take j)) [44, 32]).length ≤ 100000000 := fun j => by have := termsT_len (ground_take hg1 j); have h2 := List.length_take_le' j l1; show (termsT (l1.take j)).length ≤ _; omega
  have hk2 : ∀ j, (Lib.join (txs (l2.take j)) [44, 32]).length ≤ 100000000 := fun j => by have := termsT_len (ground_take hg2 j); have h2 := List.length_take_le' j l2; show (termsT (l2.take j)).length ≤ _; omega
  have CT1 := Lib.hid (fun (y : World) (hy : Below w.heap.size w y) => rterms_text y P A1 c1 l1 (by omega) (HIN.out y hy).a1 (HIN.out y hy).hP (ground_w hg1) hk1)
  have CT2 := Lib.hid (fun (y : World) (hy : Below w.heap.size w y) => rterms_text y P A2 c2 l2 (by omega) (HIN.out y hy).a2 (HIN.out y hy).hP (ground_w hg2) hk2)
  rw [show Lib.join (txs l1) [44, 32] = termsT l1 from rfl] at CT1
  rw [show Lib.join (txs l2) [44, 32] = termsT l2 from rfl] at CT2
  have CE1 := Lib.hid (fun (y : World) => rescape_any y (bs (termsT l1)) (by rw [size_bs]; omega))
  have CE2 := Lib.hid (fun (y : World) => rescape_any y (bs (termsT l2)) (by rw [size_bs]; omega))
  rw [toList_bs] at CE1 CE2
  have he1 := (escT_len (termsT l1)).2.1
  have he2 := (escT_len (termsT l2)).2.1
  clear hk1 hk2
  have HRU := Lib.hid (encO_ok HCK.out (s := wReady) (by unfold encF encW; simp [Lib.join, List.intercalate]))
  rw [show bs wReady = ⟨#[114, 101, 97, 100, 121]⟩ from rfl] at HRU
  clear hlen1 hlen2 he1 he2 hg1 hg2
  generalize bs (termsT l1) = t1 at *
  generalize bs (termsT l2) = t2 at *
  generalize bs (escT (termsT l1)) = sx1 at *
  generalize bs (escT (termsT l2)) = sx2 at *
  generalize bs mat = smat at *
  generalize bs nm = snm at *
  generalize bs txt = stxt at *
  go_enter Tryz.func20, Tryz.ntmps20
  go_wp2_with fail
  generalize w.alloc (.cells #[.int .i64 5, .string smat, .string snm, .slice A l.length cp, .int .i64 sc, .int .i64 pc, .slice A1 l1.length c1, .slice A2 l2.length c2, .string stxt] 27) = w0 at *
  refine CC.out.mono ?_
  rintro e w1 ⟨rfl, hb⟩
  have HM := Lib.hid ((hb.block _ (heap_lt HB0.out.2)).trans HB0.out.2)
  have HB1 := Lib.hid (HB0.out.1.trans (hb.mono HB0.out.1.size))
  clear hb CC HB0
  have CX1 := Lib.hid (fun (y : World) (hy : Below w1.heap.size w1 y) => CT1.out y (HB1.out.trans (hy.mono HB1.out.size)))
  have CX2 := Lib.hid (fun (y : World) (hy : Below w1.heap.size w1 y) => CT2.out y (HB1.out.trans (hy.mono HB1.out.size)))
  have c := cell_blk HM.out
  have HC : Hid (w1.cell? ⟨w.heap.size, 0, none⟩ = some (.int .i64 5) ∧ w1.cell? ⟨w.heap.size, 1, none⟩ = some (.string smat) ∧ w1.cell? ⟨w.heap.size, 2, none⟩ = some (.string snm) ∧ w1.cell? ⟨w.heap.size, 4, none⟩ = some (.int .i64 sc) ∧ w1.cell? ⟨w.heap.size, 5, none⟩ = some (.int .i64 pc) ∧ w1.cell? ⟨w.heap.size, 6, none⟩ = some (.slice A1 l1.length c1) ∧ w1.cell? ⟨w.heap.size, 7, none⟩ = some (.slice A2 l2.length c2) ∧ w1.cell? ⟨w.heap.size, 8, none⟩ = some (.string stxt) ∧ w.heap.size < w1.heap.size) := ⟨c 0, c 1, c 2, c 4, c 5, c 6, c 7, c 8, heap_lt HM.out⟩
  have HR0 := Lib.hid (Below.refl w1.heap.size w1)
  clear CT1 CT2 c
  go_wp2_with fail
  go_region_held3 (fun y => y.cell? ⟨w.heap.size, 0, none⟩ = some (.int .i64 5) ∧ y.cell? ⟨w.heap.size, 1, none⟩ = some (.string smat) ∧ y.cell? ⟨w.heap.size, 2, none⟩ = some (.string snm) ∧ y.cell? ⟨w.heap.size, 4, none⟩ = some (.int .i64 sc) ∧ y.cell? ⟨w.heap.size, 5, none⟩ = some (.int .i64 pc) ∧ y.cell? ⟨w.heap.size, 6, none⟩ = some (.slice A1 l1.length c1) ∧ y.cell? ⟨w.heap.size, 7, none⟩ = some (.slice A2 l2.length c2) ∧ y.cell? ⟨w.heap.size, 8, none⟩ = some (.string stxt) ∧ Hid (Below w1.heap.size w1 y)) (first | (exact keep8 HC.out (Below.drew HR0.out)) | (exact keep8 HC.out (Below.drew (last8 ‹_ ∧ _ ∧ _ ∧ _ ∧ _ ∧ _ ∧ _ ∧ _ ∧ Hid _›))) | (exact keep8 HC.out (trans1h (Lib.hid (last8 ‹_ ∧ _ ∧ _ ∧ _ ∧ _ ∧ _ ∧ _ ∧ _ ∧ Hid _›)) hb9))) (first | (go_at_call 51; have hq9 := last8 ‹_ ∧ _ ∧ _ ∧ _ ∧ _ ∧ _ ∧ _ ∧ _ ∧ Hid _›; (with_reducible refine (CX1.out _ hq9).mono ?_); rintro e9 w9 ⟨rfl, hb9⟩; clear hq9) | (go_at_call 51; have hq9 := last8 ‹_ ∧ _ ∧ _ ∧ _ ∧ _ ∧ _ ∧ _ ∧ _ ∧ Hid _›; (with_reducible refine (CX2.out _ hq9).mono ?_); rintro e9 w9 ⟨rfl, hb9⟩; clear hq9) | (go_at_call 24; (with_reducible refine (CE1.out _).mono ?_); rintro e9 w9 ⟨rfl, hb9⟩) | (go_at_call 24; (with_reducible refine (CE2.out _).mono ?_); rintro e9 w9 ⟨rfl, hb9⟩))
  have HBY := Lib.hid (last8 ‹_ ∧ _ ∧ _ ∧ _ ∧ _ ∧ _ ∧ _ ∧ _ ∧ Hid _›)
  obtain ⟨z0, z1, z2, z4, z5, z6, z7, z8, _⟩ := ‹_ ∧ _ ∧ _ ∧ _ ∧ _ ∧ _ ∧ _ ∧ _ ∧ Hid _›
  go_wp2_with fail
  go_ret2
  exact ⟨HRU.out, HB1.out.trans (HBY.out.mono HB1.out.size)⟩

set_option maxHeartbeats 16000000 in
set_option maxRecDepth 100000 in
theorem rencode_7 (w : World) (P : Nat → Prop) (mat nm : List UInt8) (A : Option Addr) (cp : Nat) (l : List Tm) (sc pc : Int) (A1 : Option Addr) (c1 : Nat) (l1 : List Tm) (A2 : Option Addr) (c2 : Nat) (l2 : List Tm) (txt : List UInt8)
    (hsm : mat.length ≤ 9223372036854775807) (hsn : nm.length ≤ 9223372036854775807) (h : MsIn w P A1 l1 A2 l2) (hn1 : l1.length ≤ 5000) (hn2 : l2.length ≤ 5000) (ht : Tb w)
    (hc : checkF ⟨7, mat, .mk nm l, sc, pc, l1, l2, txt⟩ = 0) :
    Calls Tryz.prog 20 #[(msgV 7 (bs mat) (bs nm) A l.length cp sc pc A1 l1.length c1 A2 l2.length c2 (bs txt))] w (OutB w (encV ⟨7, mat, .mk nm l, sc, pc, l1, l2, txt⟩)) := by
  have HB0 := Lib.hid (one_box w (.cells #[.int .i64 7, .string (bs mat), .string (bs nm), .slice A l.length cp, .int .i64 sc, .int .i64 pc, .slice A1 l1.length c1, .slice A2 l2.length c2, .string (bs txt)] 27))
  have CC := Lib.hid (rcheck_any (w.alloc (.cells #[.int .i64 7, .string (bs mat), .string (bs nm), .slice A l.length cp, .int .i64 sc, .int .i64 pc, .slice A1 l1.length c1, .slice A2 l2.length c2, .string (bs txt)] 27)) P 7 (bs mat) (bs nm) A cp l sc pc A1 c1 l1 A2 c2 l2 (bs txt) (by rw [size_bs]; omega) (by rw [size_bs]; omega) (h.keep HB0.out.1))
  rw [toList_bs, toList_bs, toList_bs] at CC
  have HIN := Lib.hid (fun (y : World) (hy : Below w.heap.size w y) => h.keep hy)
  have HTB := Lib.hid (fun (y : World) (hy : Below w.heap.size w y) => ht.below hy)
  clear h ht
  have HOK := Lib.hid (check_ok hc)
  have HCK := Lib.hid hc
  rw [hc] at CC
  have hg1 : groundF l1 = true := (check_ok hc).2.2.2.2.2.2.2.2.2.1
  have hg2 : groundF l2 = true := (check_ok hc).2.2.2.2.2.2.2.2.2.2.1
  clear hc
  have hlen1 := termsT_len hg1
  have hlen2 := termsT_len hg2
  have hk1 : ∀ j, (Lib.join (txs (l1.take j)) [44, 32]).length ≤ 100000000 := fun j => by have := termsT_len (ground_take hg1 j); have h2 := List.length_take_le' j l1; show (termsT (l1.take j)).length ≤ _; omega
  have hk2 : ∀ j, (Lib.join (txs (l2.take j)) [44, 32]).length ≤ 100000000 := fun j => by have := termsT_len (ground_take hg2 j); have h2 := List.length_take_le' j l2; show (termsT (l2.take j)).length ≤ _; omega
  have CT1 := Lib.hid (fun (y : World) (hy : Below w.heap.size w y) => rterms_text y P A1 c1 l1 (by omega) (HIN.out y hy).a1 (HIN.out y hy).hP (ground_w hg1) hk1)
  have CT2 := Lib.hid (fun (y : World) (hy : Below w.heap.size w y) => rterms_text y P A2 c2 l2 (by omega) (HIN.out y hy).a2 (HIN.out y hy).hP (ground_w hg2) hk2)
  rw [show Lib.join (txs l1) [44, 32] = termsT l1 from rfl] at CT1
  rw [show Lib.join (txs l2) [44, 32] = termsT l2 from rfl] at CT2
  have CE1 := Lib.hid (fun (y : World) => rescape_any y (bs (termsT l1)) (by rw [size_bs]; omega))
  have CE2 := Lib.hid (fun (y : World) => rescape_any y (bs (termsT l2)) (by rw [size_bs]; omega))
  rw [toList_bs] at CE1 CE2
  have he1 := (escT_len (termsT l1)).2.1
  have he2 := (escT_len (termsT l2)).2.1
  clear hk1 hk2
  have HRU := Lib.hid (encO_ok HCK.out (s := wDone) (by unfold encF encW; simp [Lib.join, List.intercalate]))
  rw [show bs wDone = ⟨#[100, 111, 110, 101]⟩ from rfl] at HRU
  clear hlen1 hlen2 he1 he2 hg1 hg2
  generalize bs (termsT l1) = t1 at *
  generalize bs (termsT l2) = t2 at *
  generalize bs (escT (termsT l1)) = sx1 at *
  generalize bs (escT (termsT l2)) = sx2 at *
  generalize bs mat = smat at *
  generalize bs nm = snm at *
  generalize bs txt = stxt at *
  go_enter Tryz.func20, Tryz.ntmps20
  go_wp2_with fail
  generalize w.alloc (.cells #[.int .i64 7, .string smat, .string snm, .slice A l.length cp, .int .i64 sc, .int .i64 pc, .slice A1 l1.length c1, .slice A2 l2.length c2, .string stxt] 27) = w0 at *
  refine CC.out.mono ?_
  rintro e w1 ⟨rfl, hb⟩
  have HM := Lib.hid ((hb.block _ (heap_lt HB0.out.2)).trans HB0.out.2)
  have HB1 := Lib.hid (HB0.out.1.trans (hb.mono HB0.out.1.size))
  clear hb CC HB0
  have CX1 := Lib.hid (fun (y : World) (hy : Below w1.heap.size w1 y) => CT1.out y (HB1.out.trans (hy.mono HB1.out.size)))
  have CX2 := Lib.hid (fun (y : World) (hy : Below w1.heap.size w1 y) => CT2.out y (HB1.out.trans (hy.mono HB1.out.size)))
  have c := cell_blk HM.out
  have HC : Hid (w1.cell? ⟨w.heap.size, 0, none⟩ = some (.int .i64 7) ∧ w1.cell? ⟨w.heap.size, 1, none⟩ = some (.string smat) ∧ w1.cell? ⟨w.heap.size, 2, none⟩ = some (.string snm) ∧ w1.cell? ⟨w.heap.size, 4, none⟩ = some (.int .i64 sc) ∧ w1.cell? ⟨w.heap.size, 5, none⟩ = some (.int .i64 pc) ∧ w1.cell? ⟨w.heap.size, 6, none⟩ = some (.slice A1 l1.length c1) ∧ w1.cell? ⟨w.heap.size, 7, none⟩ = some (.slice A2 l2.length c2) ∧ w1.cell? ⟨w.heap.size, 8, none⟩ = some (.string stxt) ∧ w.heap.size < w1.heap.size) := ⟨c 0, c 1, c 2, c 4, c 5, c 6, c 7, c 8, heap_lt HM.out⟩
  have HR0 := Lib.hid (Below.refl w1.heap.size w1)
  clear CT1 CT2 c
  go_wp2_with fail
  go_region_held3 (fun y => y.cell? ⟨w.heap.size, 0, none⟩ = some (.int .i64 7) ∧ y.cell? ⟨w.heap.size, 1, none⟩ = some (.string smat) ∧ y.cell? ⟨w.heap.size, 2, none⟩ = some (.string snm) ∧ y.cell? ⟨w.heap.size, 4, none⟩ = some (.int .i64 sc) ∧ y.cell? ⟨w.heap.size, 5, none⟩ = some (.int .i64 pc) ∧ y.cell? ⟨w.heap.size, 6, none⟩ = some (.slice A1 l1.length c1) ∧ y.cell? ⟨w.heap.size, 7, none⟩ = some (.slice A2 l2.length c2) ∧ y.cell? ⟨w.heap.size, 8, none⟩ = some (.string stxt) ∧ Hid (Below w1.heap.size w1 y)) (first | (exact keep8 HC.out (Below.drew HR0.out)) | (exact keep8 HC.out (Below.drew (last8 ‹_ ∧ _ ∧ _ ∧ _ ∧ _ ∧ _ ∧ _ ∧ _ ∧ Hid _›))) | (exact keep8 HC.out (trans1h (Lib.hid (last8 ‹_ ∧ _ ∧ _ ∧ _ ∧ _ ∧ _ ∧ _ ∧ _ ∧ Hid _›)) hb9))) (first | (go_at_call 51; have hq9 := last8 ‹_ ∧ _ ∧ _ ∧ _ ∧ _ ∧ _ ∧ _ ∧ _ ∧ Hid _›; (with_reducible refine (CX1.out _ hq9).mono ?_); rintro e9 w9 ⟨rfl, hb9⟩; clear hq9) | (go_at_call 51; have hq9 := last8 ‹_ ∧ _ ∧ _ ∧ _ ∧ _ ∧ _ ∧ _ ∧ _ ∧ Hid _›; (with_reducible refine (CX2.out _ hq9).mono ?_); rintro e9 w9 ⟨rfl, hb9⟩; clear hq9) | (go_at_call 24; (with_reducible refine (CE1.out _).mono ?_); rintro e9 w9 ⟨rfl, hb9⟩) | (go_at_call 24; (with_reducible refine (CE2.out _).mono ?_); rintro e9 w9 ⟨rfl, hb9⟩))
  have HBY := Lib.hid (last8 ‹_ ∧ _ ∧ _ ∧ _ ∧ _ ∧ _ ∧ _ ∧ _ ∧ Hid _›)
  obtain ⟨z0, z1, z2, z4, z5, z6, z7, z8, _⟩ := ‹_ ∧ _ ∧ _ ∧ _ ∧ _ ∧ _ ∧ _ ∧ _ ∧ Hid _›
  go_wp2_with fail
  go_ret2
  exact ⟨HRU.out, HB1.out.trans (HBY.out.mono HB1.out.size)⟩

set_option maxHeartbeats 16000000 in
set_option maxRecDepth 100000 in
theorem rencode_6 (w : World) (P : Nat → Prop) (mat nm : List UInt8) (A : Option Addr) (cp : Nat) (l : List Tm) (sc pc : Int) (A1 : Option Addr) (c1 : Nat) (l1 : List Tm) (A2 : Option Addr) (c2 : Nat) (l2 : List Tm) (txt : List UInt8)
    (hsm : mat.length ≤ 9223372036854775807) (hsn : nm.length ≤ 9223372036854775807) (h : MsIn w P A1 l1 A2 l2) (hn1 : l1.length ≤ 5000) (hn2 : l2.length ≤ 5000) (ht : Tb w)
    (hc : checkF ⟨6, mat, .mk nm l, sc, pc, l1, l2, txt⟩ = 0) :
    Calls Tryz.prog 20 #[(msgV 6 (bs mat) (bs nm) A l.length cp sc pc A1 l1.length c1 A2 l2.length c2 (bs txt))] w (OutB w (encV ⟨6, mat, .mk nm l, sc, pc, l1, l2, txt⟩)) := by
  have HB0 := Lib.hid (one_box w (.cells #[.int .i64 6, .string (bs mat), .string (bs nm), .slice A l.length cp, .int .i64 sc, .int .i64 pc, .slice A1 l1.length c1, .slice A2 l2.length c2, .string (bs txt)] 27))
  have CC := Lib.hid (rcheck_any (w.alloc (.cells #[.int .i64 6, .string (bs mat), .string (bs nm), .slice A l.length cp, .int .i64 sc, .int .i64 pc, .slice A1 l1.length c1, .slice A2 l2.length c2, .string (bs txt)] 27)) P 6 (bs mat) (bs nm) A cp l sc pc A1 c1 l1 A2 c2 l2 (bs txt) (by rw [size_bs]; omega) (by rw [size_bs]; omega) (h.keep HB0.out.1))
  rw [toList_bs, toList_bs, toList_bs] at CC
  have HIN := Lib.hid (fun (y : World) (hy : Below w.heap.size w y) => h.keep hy)
  have HTB := Lib.hid (fun (y : World) (hy : Below w.heap.size w y) => ht.below hy)
  clear h ht
  have HOK := Lib.hid (check_ok hc)
  have HCK := Lib.hid hc
  rw [hc] at CC
  have hg1 : groundF l1 = true := (check_ok hc).2.2.2.2.2.2.2.2.2.1
  have hg2 : groundF l2 = true := (check_ok hc).2.2.2.2.2.2.2.2.2.2.1
  clear hc
  have hlen1 := termsT_len hg1
  have hlen2 := termsT_len hg2
  have hk1 : ∀ j, (Lib.join (txs (l1.take j)) [44, 32]).length ≤ 100000000 := fun j => by have := termsT_len (ground_take hg1 j); have h2 := List.length_take_le' j l1; show (termsT (l1.take j)).length ≤ _; omega
  have hk2 : ∀ j, (Lib.join (txs (l2.take j)) [44, 32]).length ≤ 100000000 := fun j => by have := termsT_len (ground_take hg2 j); have h2 := List.length_take_le' j l2; show (termsT (l2.take j)).length ≤ _; omega
  have CT1 := Lib.hid (fun (y : World) (hy : Below w.heap.size w y) => rterms_text y P A1 c1 l1 (by omega) (HIN.out y hy).a1 (HIN.out y hy).hP (ground_w hg1) hk1)
  have CT2 := Lib.hid (fun (y : World) (hy : Below w.heap.size w y) => rterms_text y P A2 c2 l2 (by omega) (HIN.out y hy).a2 (HIN.out y hy).hP (ground_w hg2) hk2)
  rw [show Lib.join (txs l1) [44, 32] = termsT l1 from rfl] at CT1
  rw [show Lib.join (txs l2) [44, 32] = termsT l2 from rfl] at CT2
  have CE1 := Lib.hid (fun (y : World) => rescape_any y (bs (termsT l1)) (by rw [size_bs]; omega))
  have CE2 := Lib.hid (fun (y : World) => rescape_any y (bs (termsT l2)) (by rw [size_bs]; omega))
  rw [toList_bs] at CE1 CE2
  have he1 := (escT_len (termsT l1)).2.1
  have he2 := (escT_len (termsT l2)).2.1
  clear hk1 hk2
  have hadd : ∀ y : World, (Op.stringOp .add ⟨#[109, 111, 118, 101, 32]⟩ (bs (escT (termsT l1)))).run Tryz.prog y = .ok (.string (bs ([109, 111, 118, 101, 32] ++ escT (termsT l1)))) y := fun y => str_add_b [109, 111, 118, 101, 32] _ (by simp; omega)
  have HRU := Lib.hid (encO_ok HCK.out (s := [109, 111, 118, 101, 32] ++ escT (termsT l1)) (by unfold encF encW; simp [Lib.join, List.intercalate, wMove]))
  generalize bs ([109, 111, 118, 101, 32] ++ escT (termsT l1)) = s9 at *
  clear hlen1 hlen2 he1 he2 hg1 hg2
  generalize bs (termsT l1) = t1 at *
  generalize bs (termsT l2) = t2 at *
  generalize bs (escT (termsT l1)) = sx1 at *
  generalize bs (escT (termsT l2)) = sx2 at *
  generalize bs mat = smat at *
  generalize bs nm = snm at *
  generalize bs txt = stxt at *
  go_enter Tryz.func20, Tryz.ntmps20
  go_wp2_with fail
  generalize w.alloc (.cells #[.int .i64 6, .string smat, .string snm, .slice A l.length cp, .int .i64 sc, .int .i64 pc, .slice A1 l1.length c1, .slice A2 l2.length c2, .string stxt] 27) = w0 at *
  refine CC.out.mono ?_
  rintro e w1 ⟨rfl, hb⟩
  have HM := Lib.hid ((hb.block _ (heap_lt HB0.out.2)).trans HB0.out.2)
  have HB1 := Lib.hid (HB0.out.1.trans (hb.mono HB0.out.1.size))
  clear hb CC HB0
  have CX1 := Lib.hid (fun (y : World) (hy : Below w1.heap.size w1 y) => CT1.out y (HB1.out.trans (hy.mono HB1.out.size)))
  have CX2 := Lib.hid (fun (y : World) (hy : Below w1.heap.size w1 y) => CT2.out y (HB1.out.trans (hy.mono HB1.out.size)))
  have c := cell_blk HM.out
  have HC : Hid (w1.cell? ⟨w.heap.size, 0, none⟩ = some (.int .i64 6) ∧ w1.cell? ⟨w.heap.size, 1, none⟩ = some (.string smat) ∧ w1.cell? ⟨w.heap.size, 2, none⟩ = some (.string snm) ∧ w1.cell? ⟨w.heap.size, 4, none⟩ = some (.int .i64 sc) ∧ w1.cell? ⟨w.heap.size, 5, none⟩ = some (.int .i64 pc) ∧ w1.cell? ⟨w.heap.size, 6, none⟩ = some (.slice A1 l1.length c1) ∧ w1.cell? ⟨w.heap.size, 7, none⟩ = some (.slice A2 l2.length c2) ∧ w1.cell? ⟨w.heap.size, 8, none⟩ = some (.string stxt) ∧ w.heap.size < w1.heap.size) := ⟨c 0, c 1, c 2, c 4, c 5, c 6, c 7, c 8, heap_lt HM.out⟩
  have HR0 := Lib.hid (Below.refl w1.heap.size w1)
  clear CT1 CT2 c
  go_wp2_with fail
  go_region_held3 (fun y => y.cell? ⟨w.heap.size, 0, none⟩ = some (.int .i64 6) ∧ y.cell? ⟨w.heap.size, 1, none⟩ = some (.string smat) ∧ y.cell? ⟨w.heap.size, 2, none⟩ = some (.string snm) ∧ y.cell? ⟨w.heap.size, 4, none⟩ = some (.int .i64 sc) ∧ y.cell? ⟨w.heap.size, 5, none⟩ = some (.int .i64 pc) ∧ y.cell? ⟨w.heap.size, 6, none⟩ = some (.slice A1 l1.length c1) ∧ y.cell? ⟨w.heap.size, 7, none⟩ = some (.slice A2 l2.length c2) ∧ y.cell? ⟨w.heap.size, 8, none⟩ = some (.string stxt) ∧ Hid (Below w1.heap.size w1 y)) (first | (exact keep8 HC.out (Below.drew HR0.out)) | (exact keep8 HC.out (Below.drew (last8 ‹_ ∧ _ ∧ _ ∧ _ ∧ _ ∧ _ ∧ _ ∧ _ ∧ Hid _›))) | (exact keep8 HC.out (trans1h (Lib.hid (last8 ‹_ ∧ _ ∧ _ ∧ _ ∧ _ ∧ _ ∧ _ ∧ _ ∧ Hid _›)) hb9))) (first | (go_at_call 51; have hq9 := last8 ‹_ ∧ _ ∧ _ ∧ _ ∧ _ ∧ _ ∧ _ ∧ _ ∧ Hid _›; (with_reducible refine (CX1.out _ hq9).mono ?_); rintro e9 w9 ⟨rfl, hb9⟩; clear hq9) | (go_at_call 51; have hq9 := last8 ‹_ ∧ _ ∧ _ ∧ _ ∧ _ ∧ _ ∧ _ ∧ _ ∧ Hid _›; (with_reducible refine (CX2.out _ hq9).mono ?_); rintro e9 w9 ⟨rfl, hb9⟩; clear hq9) | (go_at_call 24; (with_reducible refine (CE1.out _).mono ?_); rintro e9 w9 ⟨rfl, hb9⟩) | (go_at_call 24; (with_reducible refine (CE2.out _).mono ?_); rintro e9 w9 ⟨rfl, hb9⟩))
  have HBY := Lib.hid (last8 ‹_ ∧ _ ∧ _ ∧ _ ∧ _ ∧ _ ∧ _ ∧ _ ∧ Hid _›)
  obtain ⟨z0, z1, z2, z4, z5, z6, z7, z8, _⟩ := ‹_ ∧ _ ∧ _ ∧ _ ∧ _ ∧ _ ∧ _ ∧ _ ∧ Hid _›
  go_wp2_with fail
  go_ret2
  exact ⟨HRU.out, HB1.out.trans (HBY.out.mono HB1.out.size)⟩

set_option maxHeartbeats 16000000 in
set_option maxRecDepth 100000 in
theorem rencode_2 (w : World) (P : Nat → Prop) (mat nm : List UInt8) (A : Option Addr) (cp : Nat) (l : List Tm) (sc pc : Int) (A1 : Option Addr) (c1 : Nat) (l1 : List Tm) (A2 : Option Addr) (c2 : Nat) (l2 : List Tm) (txt : List UInt8)
    (hsm : mat.length ≤ 9223372036854775807) (hsn : nm.length ≤ 9223372036854775807) (h : MsIn w P A1 l1 A2 l2) (hn1 : l1.length ≤ 5000) (hn2 : l2.length ≤ 5000) (ht : Tb w)
    (hc : checkF ⟨2, mat, .mk nm l, sc, pc, l1, l2, txt⟩ = 0) :
    Calls Tryz.prog 20 #[(msgV 2 (bs mat) (bs nm) A l.length cp sc pc A1 l1.length c1 A2 l2.length c2 (bs txt))] w (OutB w (encV ⟨2, mat, .mk nm l, sc, pc, l1, l2, txt⟩)) := by
  have HB0 := Lib.hid (one_box w (.cells #[.int .i64 2, .string (bs mat), .string (bs nm), .slice A l.length cp, .int .i64 sc, .int .i64 pc, .slice A1 l1.length c1, .slice A2 l2.length c2, .string (bs txt)] 27))
  have CC := Lib.hid (rcheck_any (w.alloc (.cells #[.int .i64 2, .string (bs mat), .string (bs nm), .slice A l.length cp, .int .i64 sc, .int .i64 pc, .slice A1 l1.length c1, .slice A2 l2.length c2, .string (bs txt)] 27)) P 2 (bs mat) (bs nm) A cp l sc pc A1 c1 l1 A2 c2 l2 (bs txt) (by rw [size_bs]; omega) (by rw [size_bs]; omega) (h.keep HB0.out.1))
  rw [toList_bs, toList_bs, toList_bs] at CC
  have HIN := Lib.hid (fun (y : World) (hy : Below w.heap.size w y) => h.keep hy)
  have HTB := Lib.hid (fun (y : World) (hy : Below w.heap.size w y) => ht.below hy)
  clear h ht
  have HOK := Lib.hid (check_ok hc)
  have HCK := Lib.hid hc
  rw [hc] at CC
  have hg1 : groundF l1 = true := (check_ok hc).2.2.2.2.2.2.2.2.2.1
  have hg2 : groundF l2 = true := (check_ok hc).2.2.2.2.2.2.2.2.2.2.1
  clear hc
  have hlen1 := termsT_len hg1
  have hlen2 := termsT_len hg2
  have hk1 : ∀ j, (Lib.join (txs (l1.take j)) [44, 32]).length ≤ 100000000 := fun j => by have := termsT_len (ground_take hg1 j); have h2 := List.length_take_le' j l1; show (termsT (l1.take j)).length ≤ _; omega
  have hk2 : ∀ j, (Lib.join (txs (l2.take j)) [44, 32]).length ≤ 100000000 := fun j => by have := termsT_len (ground_take hg2 j); have h2 := List.length_take_le' j l2; show (termsT (l2.take j)).length ≤ _; omega
  have CT1 := Lib.hid (fun (y : World) (hy : Below w.heap.size w y) => rterms_text y P A1 c1 l1 (by omega) (HIN.out y hy).a1 (HIN.out y hy).hP (ground_w hg1) hk1)
  have CT2 := Lib.hid (fun (y : World) (hy : Below w.heap.size w y) => rterms_text y P A2 c2 l2 (by omega) (HIN.out y hy).a2 (HIN.out y hy).hP (ground_w hg2) hk2)
  rw [show Lib.join (txs l1) [44, 32] = termsT l1 from rfl] at CT1
  rw [show Lib.join (txs l2) [44, 32] = termsT l2 from rfl] at CT2
  have CE1 := Lib.hid (fun (y : World) => rescape_any y (bs (termsT l1)) (by rw [size_bs]; omega))
  have CE2 := Lib.hid (fun (y : World) => rescape_any y (bs (termsT l2)) (by rw [size_bs]; omega))
  rw [toList_bs] at CE1 CE2
  have he1 := (escT_len (termsT l1)).2.1
  have he2 := (escT_len (termsT l2)).2.1
  clear hk1 hk2
  have hmat : mat.length ≤ 16 := name_le (HOK.out.2.1 (show (2 : Int) ≤ 4 by decide))
  have HRU := Lib.hid (encO_ok HCK.out (s := [112, 108, 97, 121, 32] ++ mat ++ [32] ++ escT (termsT l1) ++ [32] ++ escT (termsT l2)) (by unfold encF encW; simp [Lib.join, List.intercalate, wPlay]))
  have a1 : ∀ y : World, (Op.stringOp .add ⟨#[112, 108, 97, 121, 32]⟩ (bs mat)).run Tryz.prog y = .ok (.string (bs ([112, 108, 97, 121, 32] ++ mat))) y := fun y => str_add_b [112, 108, 97, 121, 32] mat (by simp; omega)
  have a2 : ∀ y : World, (Op.stringOp .add (bs ([112, 108, 97, 121, 32] ++ mat)) ⟨#[32]⟩).run Tryz.prog y = .ok (.string (bs ([112, 108, 97, 121, 32] ++ mat ++ [32]))) y := fun y => str_add_b _ [32] (by simp; omega)
  have a3 : ∀ y : World, (Op.stringOp .add (bs ([112, 108, 97, 121, 32] ++ mat ++ [32])) (bs (escT (termsT l1)))).run Tryz.prog y = .ok (.string (bs ([112, 108, 97, 121, 32] ++ mat ++ [32] ++ escT (termsT l1)))) y := fun y => str_add_b _ (escT (termsT l1)) (by simp; omega)
  have a4 : ∀ y : World, (Op.stringOp .add (bs ([112, 108, 97, 121, 32] ++ mat ++ [32] ++ escT (termsT l1))) ⟨#[32]⟩).run Tryz.prog y = .ok (.string (bs ([112, 108, 97, 121, 32] ++ mat ++ [32] ++ escT (termsT l1) ++ [32]))) y := fun y => str_add_b _ [32] (by simp; omega)
  have a5 : ∀ y : World, (Op.stringOp .add (bs ([112, 108, 97, 121, 32] ++ mat ++ [32] ++ escT (termsT l1) ++ [32])) (bs (escT (termsT l2)))).run Tryz.prog y = .ok (.string (bs ([112, 108, 97, 121, 32] ++ mat ++ [32] ++ escT (termsT l1) ++ [32] ++ escT (termsT l2)))) y := fun y => str_add_b _ (escT (termsT l2)) (by simp; omega)
  generalize bs ([112, 108, 97, 121, 32] ++ mat ++ [32] ++ escT (termsT l1) ++ [32] ++ escT (termsT l2)) = s5 at *
  generalize bs ([112, 108, 97, 121, 32] ++ mat ++ [32] ++ escT (termsT l1) ++ [32]) = s4 at *
  generalize bs ([112, 108, 97, 121, 32] ++ mat ++ [32] ++ escT (termsT l1)) = s3 at *
  generalize bs ([112, 108, 97, 121, 32] ++ mat ++ [32]) = s2 at *
  generalize bs ([112, 108, 97, 121, 32] ++ mat) = s1 at *
  clear hmat
  clear hlen1 hlen2 he1 he2 hg1 hg2
  generalize bs (termsT l1) = t1 at *
  generalize bs (termsT l2) = t2 at *
  generalize bs (escT (termsT l1)) = sx1 at *
  generalize bs (escT (termsT l2)) = sx2 at *
  generalize bs mat = smat at *
  generalize bs nm = snm at *
  generalize bs txt = stxt at *
  go_enter Tryz.func20, Tryz.ntmps20
  go_wp2_with fail
  generalize w.alloc (.cells #[.int .i64 2, .string smat, .string snm, .slice A l.length cp, .int .i64 sc, .int .i64 pc, .slice A1 l1.length c1, .slice A2 l2.length c2, .string stxt] 27) = w0 at *
  refine CC.out.mono ?_
  rintro e w1 ⟨rfl, hb⟩
  have HM := Lib.hid ((hb.block _ (heap_lt HB0.out.2)).trans HB0.out.2)
  have HB1 := Lib.hid (HB0.out.1.trans (hb.mono HB0.out.1.size))
  clear hb CC HB0
  have CX1 := Lib.hid (fun (y : World) (hy : Below w1.heap.size w1 y) => CT1.out y (HB1.out.trans (hy.mono HB1.out.size)))
  have CX2 := Lib.hid (fun (y : World) (hy : Below w1.heap.size w1 y) => CT2.out y (HB1.out.trans (hy.mono HB1.out.size)))
  have c := cell_blk HM.out
  have HC : Hid (w1.cell? ⟨w.heap.size, 0, none⟩ = some (.int .i64 2) ∧ w1.cell? ⟨w.heap.size, 1, none⟩ = some (.string smat) ∧ w1.cell? ⟨w.heap.size, 2, none⟩ = some (.string snm) ∧ w1.cell? ⟨w.heap.size, 4, none⟩ = some (.int .i64 sc) ∧ w1.cell? ⟨w.heap.size, 5, none⟩ = some (.int .i64 pc) ∧ w1.cell? ⟨w.heap.size, 6, none⟩ = some (.slice A1 l1.length c1) ∧ w1.cell? ⟨w.heap.size, 7, none⟩ = some (.slice A2 l2.length c2) ∧ w1.cell? ⟨w.heap.size, 8, none⟩ = some (.string stxt) ∧ w.heap.size < w1.heap.size) := ⟨c 0, c 1, c 2, c 4, c 5, c 6, c 7, c 8, heap_lt HM.out⟩
  have HR0 := Lib.hid (Below.refl w1.heap.size w1)
  clear CT1 CT2 c
  go_wp2_with fail
  go_region_held3 (fun y => y.cell? ⟨w.heap.size, 0, none⟩ = some (.int .i64 2) ∧ y.cell? ⟨w.heap.size, 1, none⟩ = some (.string smat) ∧ y.cell? ⟨w.heap.size, 2, none⟩ = some (.string snm) ∧ y.cell? ⟨w.heap.size, 4, none⟩ = some (.int .i64 sc) ∧ y.cell? ⟨w.heap.size, 5, none⟩ = some (.int .i64 pc) ∧ y.cell? ⟨w.heap.size, 6, none⟩ = some (.slice A1 l1.length c1) ∧ y.cell? ⟨w.heap.size, 7, none⟩ = some (.slice A2 l2.length c2) ∧ y.cell? ⟨w.heap.size, 8, none⟩ = some (.string stxt) ∧ Hid (Below w1.heap.size w1 y)) (first | (exact keep8 HC.out (Below.drew HR0.out)) | (exact keep8 HC.out (Below.drew (last8 ‹_ ∧ _ ∧ _ ∧ _ ∧ _ ∧ _ ∧ _ ∧ _ ∧ Hid _›))) | (exact keep8 HC.out (trans1h (Lib.hid (last8 ‹_ ∧ _ ∧ _ ∧ _ ∧ _ ∧ _ ∧ _ ∧ _ ∧ Hid _›)) hb9))) (first | (go_at_call 51; have hq9 := last8 ‹_ ∧ _ ∧ _ ∧ _ ∧ _ ∧ _ ∧ _ ∧ _ ∧ Hid _›; (with_reducible refine (CX1.out _ hq9).mono ?_); rintro e9 w9 ⟨rfl, hb9⟩; clear hq9) | (go_at_call 51; have hq9 := last8 ‹_ ∧ _ ∧ _ ∧ _ ∧ _ ∧ _ ∧ _ ∧ _ ∧ Hid _›; (with_reducible refine (CX2.out _ hq9).mono ?_); rintro e9 w9 ⟨rfl, hb9⟩; clear hq9) | (go_at_call 24; (with_reducible refine (CE1.out _).mono ?_); rintro e9 w9 ⟨rfl, hb9⟩) | (go_at_call 24; (with_reducible refine (CE2.out _).mono ?_); rintro e9 w9 ⟨rfl, hb9⟩))
  have HBY := Lib.hid (last8 ‹_ ∧ _ ∧ _ ∧ _ ∧ _ ∧ _ ∧ _ ∧ _ ∧ Hid _›)
  obtain ⟨z0, z1, z2, z4, z5, z6, z7, z8, _⟩ := ‹_ ∧ _ ∧ _ ∧ _ ∧ _ ∧ _ ∧ _ ∧ _ ∧ Hid _›
  go_wp2_with fail
  go_ret2
  exact ⟨HRU.out, HB1.out.trans (HBY.out.mono HB1.out.size)⟩

set_option maxHeartbeats 16000000 in
set_option maxRecDepth 100000 in
theorem rencode_3 (w : World) (P : Nat → Prop) (mat nm : List UInt8) (A : Option Addr) (cp : Nat) (l : List Tm) (sc pc : Int) (A1 : Option Addr) (c1 : Nat) (l1 : List Tm) (A2 : Option Addr) (c2 : Nat) (l2 : List Tm) (txt : List UInt8)
    (hsm : mat.length ≤ 9223372036854775807) (hsn : nm.length ≤ 9223372036854775807) (h : MsIn w P A1 l1 A2 l2) (hn1 : l1.length ≤ 5000) (hn2 : l2.length ≤ 5000) (ht : Tb w)
    (hc : checkF ⟨3, mat, .mk nm l, sc, pc, l1, l2, txt⟩ = 0) :
    Calls Tryz.prog 20 #[(msgV 3 (bs mat) (bs nm) A l.length cp sc pc A1 l1.length c1 A2 l2.length c2 (bs txt))] w (OutB w (encV ⟨3, mat, .mk nm l, sc, pc, l1, l2, txt⟩)) := by
  have HB0 := Lib.hid (one_box w (.cells #[.int .i64 3, .string (bs mat), .string (bs nm), .slice A l.length cp, .int .i64 sc, .int .i64 pc, .slice A1 l1.length c1, .slice A2 l2.length c2, .string (bs txt)] 27))
  have CC := Lib.hid (rcheck_any (w.alloc (.cells #[.int .i64 3, .string (bs mat), .string (bs nm), .slice A l.length cp, .int .i64 sc, .int .i64 pc, .slice A1 l1.length c1, .slice A2 l2.length c2, .string (bs txt)] 27)) P 3 (bs mat) (bs nm) A cp l sc pc A1 c1 l1 A2 c2 l2 (bs txt) (by rw [size_bs]; omega) (by rw [size_bs]; omega) (h.keep HB0.out.1))
  rw [toList_bs, toList_bs, toList_bs] at CC
  have HIN := Lib.hid (fun (y : World) (hy : Below w.heap.size w y) => h.keep hy)
  have HTB := Lib.hid (fun (y : World) (hy : Below w.heap.size w y) => ht.below hy)
  clear h ht
  have HOK := Lib.hid (check_ok hc)
  have HCK := Lib.hid hc
  rw [hc] at CC
  have hg1 : groundF l1 = true := (check_ok hc).2.2.2.2.2.2.2.2.2.1
  have hg2 : groundF l2 = true := (check_ok hc).2.2.2.2.2.2.2.2.2.2.1
  clear hc
  have hlen1 := termsT_len hg1
  have hlen2 := termsT_len hg2
  have hk1 : ∀ j, (Lib.join (txs (l1.take j)) [44, 32]).length ≤ 100000000 := fun j => by have := termsT_len (ground_take hg1 j); have h2 := List.length_take_le' j l1; show (termsT (l1.take j)).length ≤ _; omega
  have hk2 : ∀ j, (Lib.join (txs (l2.take j)) [44, 32]).length ≤ 100000000 := fun j => by have := termsT_len (ground_take hg2 j); have h2 := List.length_take_le' j l2; show (termsT (l2.take j)).length ≤ _; omega
  have CT1 := Lib.hid (fun (y : World) (hy : Below w.heap.size w y) => rterms_text y P A1 c1 l1 (by omega) (HIN.out y hy).a1 (HIN.out y hy).hP (ground_w hg1) hk1)
  have CT2 := Lib.hid (fun (y : World) (hy : Below w.heap.size w y) => rterms_text y P A2 c2 l2 (by omega) (HIN.out y hy).a2 (HIN.out y hy).hP (ground_w hg2) hk2)
  rw [show Lib.join (txs l1) [44, 32] = termsT l1 from rfl] at CT1
  rw [show Lib.join (txs l2) [44, 32] = termsT l2 from rfl] at CT2
  have CE1 := Lib.hid (fun (y : World) => rescape_any y (bs (termsT l1)) (by rw [size_bs]; omega))
  have CE2 := Lib.hid (fun (y : World) => rescape_any y (bs (termsT l2)) (by rw [size_bs]; omega))
  rw [toList_bs] at CE1 CE2
  have he1 := (escT_len (termsT l1)).2.1
  have he2 := (escT_len (termsT l2)).2.1
  clear hk1 hk2
  have hmat : mat.length ≤ 16 := name_le (HOK.out.2.1 (show (3 : Int) ≤ 4 by decide))
  have HRU := Lib.hid (encO_ok HCK.out (s := [115, 116, 111, 112, 32] ++ mat ++ [32] ++ escT (termsT l1) ++ [32] ++ escT (termsT l2)) (by unfold encF encW; simp [Lib.join, List.intercalate, wStop]))
  have a1 : ∀ y : World, (Op.stringOp .add ⟨#[115, 116, 111, 112, 32]⟩ (bs mat)).run Tryz.prog y = .ok (.string (bs ([115, 116, 111, 112, 32] ++ mat))) y := fun y => str_add_b [115, 116, 111, 112, 32] mat (by simp; omega)
  have a2 : ∀ y : World, (Op.stringOp .add (bs ([115, 116, 111, 112, 32] ++ mat)) ⟨#[32]⟩).run Tryz.prog y = .ok (.string (bs ([115, 116, 111, 112, 32] ++ mat ++ [32]))) y := fun y => str_add_b _ [32] (by simp; omega)
  have a3 : ∀ y : World, (Op.stringOp .add (bs ([115, 116, 111, 112, 32] ++ mat ++ [32])) (bs (escT (termsT l1)))).run Tryz.prog y = .ok (.string (bs ([115, 116, 111, 112, 32] ++ mat ++ [32] ++ escT (termsT l1)))) y := fun y => str_add_b _ (escT (termsT l1)) (by simp; omega)
  have a4 : ∀ y : World, (Op.stringOp .add (bs ([115, 116, 111, 112, 32] ++ mat ++ [32] ++ escT (termsT l1))) ⟨#[32]⟩).run Tryz.prog y = .ok (.string (bs ([115, 116, 111, 112, 32] ++ mat ++ [32] ++ escT (termsT l1) ++ [32]))) y := fun y => str_add_b _ [32] (by simp; omega)
  have a5 : ∀ y : World, (Op.stringOp .add (bs ([115, 116, 111, 112, 32] ++ mat ++ [32] ++ escT (termsT l1) ++ [32])) (bs (escT (termsT l2)))).run Tryz.prog y = .ok (.string (bs ([115, 116, 111, 112, 32] ++ mat ++ [32] ++ escT (termsT l1) ++ [32] ++ escT (termsT l2)))) y := fun y => str_add_b _ (escT (termsT l2)) (by simp; omega)
  generalize bs ([115, 116, 111, 112, 32] ++ mat ++ [32] ++ escT (termsT l1) ++ [32] ++ escT (termsT l2)) = s5 at *
  generalize bs ([115, 116, 111, 112, 32] ++ mat ++ [32] ++ escT (termsT l1) ++ [32]) = s4 at *
  generalize bs ([115, 116, 111, 112, 32] ++ mat ++ [32] ++ escT (termsT l1)) = s3 at *
  generalize bs ([115, 116, 111, 112, 32] ++ mat ++ [32]) = s2 at *
  generalize bs ([115, 116, 111, 112, 32] ++ mat) = s1 at *
  clear hmat
  clear hlen1 hlen2 he1 he2 hg1 hg2
  generalize bs (termsT l1) = t1 at *
  generalize bs (termsT l2) = t2 at *
  generalize bs (escT (termsT l1)) = sx1 at *
  generalize bs (escT (termsT l2)) = sx2 at *
  generalize bs mat = smat at *
  generalize bs nm = snm at *
  generalize bs txt = stxt at *
  go_enter Tryz.func20, Tryz.ntmps20
  go_wp2_with fail
  generalize w.alloc (.cells #[.int .i64 3, .string smat, .string snm, .slice A l.length cp, .int .i64 sc, .int .i64 pc, .slice A1 l1.length c1, .slice A2 l2.length c2, .string stxt] 27) = w0 at *
  refine CC.out.mono ?_
  rintro e w1 ⟨rfl, hb⟩
  have HM := Lib.hid ((hb.block _ (heap_lt HB0.out.2)).trans HB0.out.2)
  have HB1 := Lib.hid (HB0.out.1.trans (hb.mono HB0.out.1.size))
  clear hb CC HB0
  have CX1 := Lib.hid (fun (y : World) (hy : Below w1.heap.size w1 y) => CT1.out y (HB1.out.trans (hy.mono HB1.out.size)))
  have CX2 := Lib.hid (fun (y : World) (hy : Below w1.heap.size w1 y) => CT2.out y (HB1.out.trans (hy.mono HB1.out.size)))
  have c := cell_blk HM.out
  have HC : Hid (w1.cell? ⟨w.heap.size, 0, none⟩ = some (.int .i64 3) ∧ w1.cell? ⟨w.heap.size, 1, none⟩ = some (.string smat) ∧ w1.cell? ⟨w.heap.size, 2, none⟩ = some (.string snm) ∧ w1.cell? ⟨w.heap.size, 4, none⟩ = some (.int .i64 sc) ∧ w1.cell? ⟨w.heap.size, 5, none⟩ = some (.int .i64 pc) ∧ w1.cell? ⟨w.heap.size, 6, none⟩ = some (.slice A1 l1.length c1) ∧ w1.cell? ⟨w.heap.size, 7, none⟩ = some (.slice A2 l2.length c2) ∧ w1.cell? ⟨w.heap.size, 8, none⟩ = some (.string stxt) ∧ w.heap.size < w1.heap.size) := ⟨c 0, c 1, c 2, c 4, c 5, c 6, c 7, c 8, heap_lt HM.out⟩
  have HR0 := Lib.hid (Below.refl w1.heap.size w1)
  clear CT1 CT2 c
  go_wp2_with fail
  go_region_held3 (fun y => y.cell? ⟨w.heap.size, 0, none⟩ = some (.int .i64 3) ∧ y.cell? ⟨w.heap.size, 1, none⟩ = some (.string smat) ∧ y.cell? ⟨w.heap.size, 2, none⟩ = some (.string snm) ∧ y.cell? ⟨w.heap.size, 4, none⟩ = some (.int .i64 sc) ∧ y.cell? ⟨w.heap.size, 5, none⟩ = some (.int .i64 pc) ∧ y.cell? ⟨w.heap.size, 6, none⟩ = some (.slice A1 l1.length c1) ∧ y.cell? ⟨w.heap.size, 7, none⟩ = some (.slice A2 l2.length c2) ∧ y.cell? ⟨w.heap.size, 8, none⟩ = some (.string stxt) ∧ Hid (Below w1.heap.size w1 y)) (first | (exact keep8 HC.out (Below.drew HR0.out)) | (exact keep8 HC.out (Below.drew (last8 ‹_ ∧ _ ∧ _ ∧ _ ∧ _ ∧ _ ∧ _ ∧ _ ∧ Hid _›))) | (exact keep8 HC.out (trans1h (Lib.hid (last8 ‹_ ∧ _ ∧ _ ∧ _ ∧ _ ∧ _ ∧ _ ∧ _ ∧ Hid _›)) hb9))) (first | (go_at_call 51; have hq9 := last8 ‹_ ∧ _ ∧ _ ∧ _ ∧ _ ∧ _ ∧ _ ∧ _ ∧ Hid _›; (with_reducible refine (CX1.out _ hq9).mono ?_); rintro e9 w9 ⟨rfl, hb9⟩; clear hq9) | (go_at_call 51; have hq9 := last8 ‹_ ∧ _ ∧ _ ∧ _ ∧ _ ∧ _ ∧ _ ∧ _ ∧ Hid _›; (with_reducible refine (CX2.out _ hq9).mono ?_); rintro e9 w9 ⟨rfl, hb9⟩; clear hq9) | (go_at_call 24; (with_reducible refine (CE1.out _).mono ?_); rintro e9 w9 ⟨rfl, hb9⟩) | (go_at_call 24; (with_reducible refine (CE2.out _).mono ?_); rintro e9 w9 ⟨rfl, hb9⟩))
  have HBY := Lib.hid (last8 ‹_ ∧ _ ∧ _ ∧ _ ∧ _ ∧ _ ∧ _ ∧ _ ∧ Hid _›)
  obtain ⟨z0, z1, z2, z4, z5, z6, z7, z8, _⟩ := ‹_ ∧ _ ∧ _ ∧ _ ∧ _ ∧ _ ∧ _ ∧ _ ∧ Hid _›
  go_wp2_with fail
  go_ret2
  exact ⟨HRU.out, HB1.out.trans (HBY.out.mono HB1.out.size)⟩

set_option maxHeartbeats 16000000 in
set_option maxRecDepth 100000 in
theorem rencode_1 (w : World) (P : Nat → Prop) (mat nm : List UInt8) (A : Option Addr) (cp : Nat) (l : List Tm) (sc pc : Int) (A1 : Option Addr) (c1 : Nat) (l1 : List Tm) (A2 : Option Addr) (c2 : Nat) (l2 : List Tm) (txt : List UInt8)
    (hsm : mat.length ≤ 9223372036854775807) (hsn : nm.length ≤ 9223372036854775807) (h : MsIn w P A1 l1 A2 l2) (hn1 : l1.length ≤ 5000) (hn2 : l2.length ≤ 5000) (ht : Tb w)
    (htx : txt.length ≤ 100000000)
    (hc : checkF ⟨1, mat, .mk nm l, sc, pc, l1, l2, txt⟩ = 0) :
    Calls Tryz.prog 20 #[(msgV 1 (bs mat) (bs nm) A l.length cp sc pc A1 l1.length c1 A2 l2.length c2 (bs txt))] w (OutB w (encV ⟨1, mat, .mk nm l, sc, pc, l1, l2, txt⟩)) := by
  have HB0 := Lib.hid (one_box w (.cells #[.int .i64 1, .string (bs mat), .string (bs nm), .slice A l.length cp, .int .i64 sc, .int .i64 pc, .slice A1 l1.length c1, .slice A2 l2.length c2, .string (bs txt)] 27))
  have CC := Lib.hid (rcheck_any (w.alloc (.cells #[.int .i64 1, .string (bs mat), .string (bs nm), .slice A l.length cp, .int .i64 sc, .int .i64 pc, .slice A1 l1.length c1, .slice A2 l2.length c2, .string (bs txt)] 27)) P 1 (bs mat) (bs nm) A cp l sc pc A1 c1 l1 A2 c2 l2 (bs txt) (by rw [size_bs]; omega) (by rw [size_bs]; omega) (h.keep HB0.out.1))
  rw [toList_bs, toList_bs, toList_bs] at CC
  have HIN := Lib.hid (fun (y : World) (hy : Below w.heap.size w y) => h.keep hy)
  have HTB := Lib.hid (fun (y : World) (hy : Below w.heap.size w y) => ht.below hy)
  clear h ht
  have HOK := Lib.hid (check_ok hc)
  have HCK := Lib.hid hc
  rw [hc] at CC
  have hg1 : groundF l1 = true := (check_ok hc).2.2.2.2.2.2.2.2.2.1
  have hg2 : groundF l2 = true := (check_ok hc).2.2.2.2.2.2.2.2.2.2.1
  clear hc
  have hlen1 := termsT_len hg1
  have hlen2 := termsT_len hg2
  have hk1 : ∀ j, (Lib.join (txs (l1.take j)) [44, 32]).length ≤ 100000000 := fun j => by have := termsT_len (ground_take hg1 j); have h2 := List.length_take_le' j l1; show (termsT (l1.take j)).length ≤ _; omega
  have hk2 : ∀ j, (Lib.join (txs (l2.take j)) [44, 32]).length ≤ 100000000 := fun j => by have := termsT_len (ground_take hg2 j); have h2 := List.length_take_le' j l2; show (termsT (l2.take j)).length ≤ _; omega
  have CT1 := Lib.hid (fun (y : World) (hy : Below w.heap.size w y) => rterms_text y P A1 c1 l1 (by omega) (HIN.out y hy).a1 (HIN.out y hy).hP (ground_w hg1) hk1)
  have CT2 := Lib.hid (fun (y : World) (hy : Below w.heap.size w y) => rterms_text y P A2 c2 l2 (by omega) (HIN.out y hy).a2 (HIN.out y hy).hP (ground_w hg2) hk2)
  rw [show Lib.join (txs l1) [44, 32] = termsT l1 from rfl] at CT1
  rw [show Lib.join (txs l2) [44, 32] = termsT l2 from rfl] at CT2
  have CE1 := Lib.hid (fun (y : World) => rescape_any y (bs (termsT l1)) (by rw [size_bs]; omega))
  have CE2 := Lib.hid (fun (y : World) => rescape_any y (bs (termsT l2)) (by rw [size_bs]; omega))
  rw [toList_bs] at CE1 CE2
  have he1 := (escT_len (termsT l1)).2.1
  have he2 := (escT_len (termsT l2)).2.1
  clear hk1 hk2
  obtain ⟨hnm, _, hsc1, hsc2, hpc1, hpc2⟩ := HOK.out.2.2.2.1 rfl
  have hnm : nm.length ≤ 16 := name_le hnm
  have hsc1 : 1 ≤ sc := hsc1
  have hsc2 : sc ≤ 1000 := hsc2
  have hpc1 : 1 ≤ pc := hpc1
  have hpc2 : pc ≤ 1000 := hpc2
  have hmat : mat.length ≤ 16 := name_le (HOK.out.2.1 (show (1 : Int) ≤ 4 by decide))
  have hiS : I64 sc := ⟨by omega, by omega⟩
  have hiP : I64 pc := ⟨by omega, by omega⟩
  have hls := Lib.itoa_length_le sc hiS.1 hiS.2
  have hlp := Lib.itoa_length_le pc hiP.1 hiP.2
  have het := (escT_len txt).2.1
  have HRU := Lib.hid (encO_ok HCK.out (s := [115, 116, 97, 114, 116, 32] ++ mat ++ [32] ++ nm ++ [32] ++ Lib.itoa sc ++ [32] ++ Lib.itoa pc ++ [32] ++ escT txt) (by unfold encF encW; simp [Lib.join, List.intercalate, wStart, Tm.name]))
  have CI1 := Lib.hid (fun (y : World) (hy : Below w.heap.size w y) => itoa_below y sc hiS (HTB.out y hy))
  have CI2 := Lib.hid (fun (y : World) (hy : Below w.heap.size w y) => itoa_below y pc hiP (HTB.out y hy))
  have CET := Lib.hid (fun (y : World) => rescape_any y (bs txt) (by rw [size_bs]; exact htx))
  rw [toList_bs] at CET
  have a0 : ∀ y : World, (Op.stringOp .add ⟨#[115, 116, 97, 114, 116, 32]⟩ (bs mat)).run Tryz.prog y = .ok (.string (bs ([115, 116, 97, 114, 116, 32] ++ mat))) y := fun y => str_add_b ([115, 116, 97, 114, 116, 32]) (mat) (by simp; omega)
  have a1 : ∀ y : World, (Op.stringOp .add (bs ([115, 116, 97, 114, 116, 32] ++ mat)) ⟨#[32]⟩).run Tryz.prog y = .ok (.string (bs ([115, 116, 97, 114, 116, 32] ++ mat ++ [32]))) y := fun y => str_add_b ([115, 116, 97, 114, 116, 32] ++ mat) ([32]) (by simp; omega)
  have a2 : ∀ y : World, (Op.stringOp .add (bs ([115, 116, 97, 114, 116, 32] ++ mat ++ [32])) (bs nm)).run Tryz.prog y = .ok (.string (bs ([115, 116, 97, 114, 116, 32] ++ mat ++ [32] ++ nm))) y := fun y => str_add_b ([115, 116, 97, 114, 116, 32] ++ mat ++ [32]) (nm) (by simp; omega)
  have a3 : ∀ y : World, (Op.stringOp .add (bs ([115, 116, 97, 114, 116, 32] ++ mat ++ [32] ++ nm)) ⟨#[32]⟩).run Tryz.prog y = .ok (.string (bs ([115, 116, 97, 114, 116, 32] ++ mat ++ [32] ++ nm ++ [32]))) y := fun y => str_add_b ([115, 116, 97, 114, 116, 32] ++ mat ++ [32] ++ nm) ([32]) (by simp; omega)
  have a4 : ∀ y : World, (Op.stringOp .add (bs ([115, 116, 97, 114, 116, 32] ++ mat ++ [32] ++ nm ++ [32])) (bs (Lib.itoa sc))).run Tryz.prog y = .ok (.string (bs ([115, 116, 97, 114, 116, 32] ++ mat ++ [32] ++ nm ++ [32] ++ Lib.itoa sc))) y := fun y => str_add_b ([115, 116, 97, 114, 116, 32] ++ mat ++ [32] ++ nm ++ [32]) (Lib.itoa sc) (by simp; omega)
  have a5 : ∀ y : World, (Op.stringOp .add (bs ([115, 116, 97, 114, 116, 32] ++ mat ++ [32] ++ nm ++ [32] ++ Lib.itoa sc)) ⟨#[32]⟩).run Tryz.prog y = .ok (.string (bs ([115, 116, 97, 114, 116, 32] ++ mat ++ [32] ++ nm ++ [32] ++ Lib.itoa sc ++ [32]))) y := fun y => str_add_b ([115, 116, 97, 114, 116, 32] ++ mat ++ [32] ++ nm ++ [32] ++ Lib.itoa sc) ([32]) (by simp; omega)
  have a6 : ∀ y : World, (Op.stringOp .add (bs ([115, 116, 97, 114, 116, 32] ++ mat ++ [32] ++ nm ++ [32] ++ Lib.itoa sc ++ [32])) (bs (Lib.itoa pc))).run Tryz.prog y = .ok (.string (bs ([115, 116, 97, 114, 116, 32] ++ mat ++ [32] ++ nm ++ [32] ++ Lib.itoa sc ++ [32] ++ Lib.itoa pc))) y := fun y => str_add_b ([115, 116, 97, 114, 116, 32] ++ mat ++ [32] ++ nm ++ [32] ++ Lib.itoa sc ++ [32]) (Lib.itoa pc) (by simp; omega)
  have a7 : ∀ y : World, (Op.stringOp .add (bs ([115, 116, 97, 114, 116, 32] ++ mat ++ [32] ++ nm ++ [32] ++ Lib.itoa sc ++ [32] ++ Lib.itoa pc)) ⟨#[32]⟩).run Tryz.prog y = .ok (.string (bs ([115, 116, 97, 114, 116, 32] ++ mat ++ [32] ++ nm ++ [32] ++ Lib.itoa sc ++ [32] ++ Lib.itoa pc ++ [32]))) y := fun y => str_add_b ([115, 116, 97, 114, 116, 32] ++ mat ++ [32] ++ nm ++ [32] ++ Lib.itoa sc ++ [32] ++ Lib.itoa pc) ([32]) (by simp; omega)
  have a8 : ∀ y : World, (Op.stringOp .add (bs ([115, 116, 97, 114, 116, 32] ++ mat ++ [32] ++ nm ++ [32] ++ Lib.itoa sc ++ [32] ++ Lib.itoa pc ++ [32])) (bs (escT txt))).run Tryz.prog y = .ok (.string (bs ([115, 116, 97, 114, 116, 32] ++ mat ++ [32] ++ nm ++ [32] ++ Lib.itoa sc ++ [32] ++ Lib.itoa pc ++ [32] ++ escT txt))) y := fun y => str_add_b ([115, 116, 97, 114, 116, 32] ++ mat ++ [32] ++ nm ++ [32] ++ Lib.itoa sc ++ [32] ++ Lib.itoa pc ++ [32]) (escT txt) (by simp; omega)
  clear hls hlp het hnm hmat hsc1 hsc2 hpc1 hpc2 hiS hiP htx
  generalize bs ([115, 116, 97, 114, 116, 32] ++ mat ++ [32] ++ nm ++ [32] ++ Lib.itoa sc ++ [32] ++ Lib.itoa pc ++ [32] ++ escT txt) = s8 at *
  generalize bs ([115, 116, 97, 114, 116, 32] ++ mat ++ [32] ++ nm ++ [32] ++ Lib.itoa sc ++ [32] ++ Lib.itoa pc ++ [32]) = s7 at *
  generalize bs ([115, 116, 97, 114, 116, 32] ++ mat ++ [32] ++ nm ++ [32] ++ Lib.itoa sc ++ [32] ++ Lib.itoa pc) = s6 at *
  generalize bs ([115, 116, 97, 114, 116, 32] ++ mat ++ [32] ++ nm ++ [32] ++ Lib.itoa sc ++ [32]) = s5 at *
  generalize bs ([115, 116, 97, 114, 116, 32] ++ mat ++ [32] ++ nm ++ [32] ++ Lib.itoa sc) = s4 at *
  generalize bs ([115, 116, 97, 114, 116, 32] ++ mat ++ [32] ++ nm ++ [32]) = s3 at *
  generalize bs ([115, 116, 97, 114, 116, 32] ++ mat ++ [32] ++ nm) = s2 at *
  generalize bs ([115, 116, 97, 114, 116, 32] ++ mat ++ [32]) = s1 at *
  generalize bs ([115, 116, 97, 114, 116, 32] ++ mat) = s0 at *
  generalize bs (Lib.itoa sc) = si1 at *
  generalize bs (Lib.itoa pc) = si2 at *
  generalize bs (escT txt) = set1 at *
  clear hlen1 hlen2 he1 he2 hg1 hg2
  generalize bs (termsT l1) = t1 at *
  generalize bs (termsT l2) = t2 at *
  generalize bs (escT (termsT l1)) = sx1 at *
  generalize bs (escT (termsT l2)) = sx2 at *
  generalize bs mat = smat at *
  generalize bs nm = snm at *
  generalize bs txt = stxt at *
  go_enter Tryz.func20, Tryz.ntmps20
  go_wp2_with fail
  generalize w.alloc (.cells #[.int .i64 1, .string smat, .string snm, .slice A l.length cp, .int .i64 sc, .int .i64 pc, .slice A1 l1.length c1, .slice A2 l2.length c2, .string stxt] 27) = w0 at *
  refine CC.out.mono ?_
  rintro e w1 ⟨rfl, hb⟩
  have HM := Lib.hid ((hb.block _ (heap_lt HB0.out.2)).trans HB0.out.2)
  have HB1 := Lib.hid (HB0.out.1.trans (hb.mono HB0.out.1.size))
  clear hb CC HB0
  have CX1 := Lib.hid (fun (y : World) (hy : Below w1.heap.size w1 y) => CT1.out y (HB1.out.trans (hy.mono HB1.out.size)))
  have CX2 := Lib.hid (fun (y : World) (hy : Below w1.heap.size w1 y) => CT2.out y (HB1.out.trans (hy.mono HB1.out.size)))
  have c := cell_blk HM.out
  have HC : Hid (w1.cell? ⟨w.heap.size, 0, none⟩ = some (.int .i64 1) ∧ w1.cell? ⟨w.heap.size, 1, none⟩ = some (.string smat) ∧ w1.cell? ⟨w.heap.size, 2, none⟩ = some (.string snm) ∧ w1.cell? ⟨w.heap.size, 4, none⟩ = some (.int .i64 sc) ∧ w1.cell? ⟨w.heap.size, 5, none⟩ = some (.int .i64 pc) ∧ w1.cell? ⟨w.heap.size, 6, none⟩ = some (.slice A1 l1.length c1) ∧ w1.cell? ⟨w.heap.size, 7, none⟩ = some (.slice A2 l2.length c2) ∧ w1.cell? ⟨w.heap.size, 8, none⟩ = some (.string stxt) ∧ w.heap.size < w1.heap.size) := ⟨c 0, c 1, c 2, c 4, c 5, c 6, c 7, c 8, heap_lt HM.out⟩
  have HR0 := Lib.hid (Below.refl w1.heap.size w1)
  clear CT1 CT2 c
  go_wp2_with fail
  go_region_held3 (fun y => y.cell? ⟨w.heap.size, 0, none⟩ = some (.int .i64 1) ∧ y.cell? ⟨w.heap.size, 1, none⟩ = some (.string smat) ∧ y.cell? ⟨w.heap.size, 2, none⟩ = some (.string snm) ∧ y.cell? ⟨w.heap.size, 4, none⟩ = some (.int .i64 sc) ∧ y.cell? ⟨w.heap.size, 5, none⟩ = some (.int .i64 pc) ∧ y.cell? ⟨w.heap.size, 6, none⟩ = some (.slice A1 l1.length c1) ∧ y.cell? ⟨w.heap.size, 7, none⟩ = some (.slice A2 l2.length c2) ∧ y.cell? ⟨w.heap.size, 8, none⟩ = some (.string stxt) ∧ Hid (Below w1.heap.size w1 y)) (first | (exact keep8 HC.out (Below.drew HR0.out)) | (exact keep8 HC.out (Below.drew (last8 ‹_ ∧ _ ∧ _ ∧ _ ∧ _ ∧ _ ∧ _ ∧ _ ∧ Hid _›))) | (exact keep8 HC.out (trans1h (Lib.hid (last8 ‹_ ∧ _ ∧ _ ∧ _ ∧ _ ∧ _ ∧ _ ∧ _ ∧ Hid _›)) hb9))) (first | (go_at_call 51; have hq9 := last8 ‹_ ∧ _ ∧ _ ∧ _ ∧ _ ∧ _ ∧ _ ∧ _ ∧ Hid _›; (with_reducible refine (CX1.out _ hq9).mono ?_); rintro e9 w9 ⟨rfl, hb9⟩; clear hq9) | (go_at_call 51; have hq9 := last8 ‹_ ∧ _ ∧ _ ∧ _ ∧ _ ∧ _ ∧ _ ∧ _ ∧ Hid _›; (with_reducible refine (CX2.out _ hq9).mono ?_); rintro e9 w9 ⟨rfl, hb9⟩; clear hq9) | (go_at_call 24; (with_reducible refine (CE1.out _).mono ?_); rintro e9 w9 ⟨rfl, hb9⟩) | (go_at_call 24; (with_reducible refine (CE2.out _).mono ?_); rintro e9 w9 ⟨rfl, hb9⟩))
  have HBY := Lib.hid (last8 ‹_ ∧ _ ∧ _ ∧ _ ∧ _ ∧ _ ∧ _ ∧ _ ∧ Hid _›)
  obtain ⟨z0, z1, z2, z4, z5, z6, z7, z8, _⟩ := ‹_ ∧ _ ∧ _ ∧ _ ∧ _ ∧ _ ∧ _ ∧ _ ∧ Hid _›
  have HZ := Lib.hid (HB1.out.trans (HBY.out.mono HB1.out.size))
  generalize hwx : w9 = wx at *
  clear hwx
  have HC5 : Hid (wx.cell? ⟨w.heap.size, 1, none⟩ = some (.string smat) ∧ wx.cell? ⟨w.heap.size, 2, none⟩ = some (.string snm) ∧ wx.cell? ⟨w.heap.size, 4, none⟩ = some (.int .i64 sc) ∧ wx.cell? ⟨w.heap.size, 5, none⟩ = some (.int .i64 pc) ∧ wx.cell? ⟨w.heap.size, 8, none⟩ = some (.string stxt) ∧ w.heap.size < wx.heap.size) := ⟨z1, z2, z4, z5, z8, Nat.lt_of_lt_of_le (heap_lt HM.out) HBY.out.size⟩
  have HR5 := Lib.hid (Below.refl wx.heap.size wx)
  have CY1 := Lib.hid (fun (y : World) (hy : Below wx.heap.size wx y) => CI1.out y (HZ.out.trans (hy.mono HZ.out.size)))
  have CY2 := Lib.hid (fun (y : World) (hy : Below wx.heap.size wx y) => CI2.out y (HZ.out.trans (hy.mono HZ.out.size)))
  clear CI1 CI2 CX1 CX2 HC
  go_wp2_with fail
  clear z0 z1 z2 z4 z5 z6 z7 z8
  go_region_held3 (fun y => y.cell? ⟨w.heap.size, 1, none⟩ = some (.string smat) ∧ y.cell? ⟨w.heap.size, 2, none⟩ = some (.string snm) ∧ y.cell? ⟨w.heap.size, 4, none⟩ = some (.int .i64 sc) ∧ y.cell? ⟨w.heap.size, 5, none⟩ = some (.int .i64 pc) ∧ y.cell? ⟨w.heap.size, 8, none⟩ = some (.string stxt) ∧ Hid (Below wx.heap.size wx y)) (first | (exact keep5 HC5.out (Below.drew HR5.out)) | (exact keep5 HC5.out (Below.drew (last5 ‹_ ∧ _ ∧ _ ∧ _ ∧ _ ∧ Hid _›))) | (exact keep5 HC5.out (trans1h (Lib.hid (last5 ‹_ ∧ _ ∧ _ ∧ _ ∧ _ ∧ Hid _›)) hb8))) (first | (go_at_call 37; have hq8 := last5 ‹_ ∧ _ ∧ _ ∧ _ ∧ _ ∧ Hid _›; (with_reducible refine (CY1.out _ hq8).mono ?_); rintro e8 w8 ⟨rfl, hb8⟩; clear hq8) | (go_at_call 37; have hq8 := last5 ‹_ ∧ _ ∧ _ ∧ _ ∧ _ ∧ Hid _›; (with_reducible refine (CY2.out _ hq8).mono ?_); rintro e8 w8 ⟨rfl, hb8⟩; clear hq8) | (go_at_call 24; (with_reducible refine (CET.out _).mono ?_); rintro e8 w8 ⟨rfl, hb8⟩))
  go_wp2_with fail
  go_ret2
  exact ⟨HRU.out, HZ.out.trans (Below.mono (last5 ‹_ ∧ _ ∧ _ ∧ _ ∧ _ ∧ Hid _›) HZ.out.size)⟩

theorem rencode_any (w : World) (P : Nat → Prop) (k : Int) (mat nm : List UInt8) (A : Option Addr) (cp : Nat) (l : List Tm) (sc pc : Int) (A1 : Option Addr) (c1 : Nat) (l1 : List Tm) (A2 : Option Addr) (c2 : Nat) (l2 : List Tm) (txt : List UInt8)
    (hsm : mat.length ≤ 9223372036854775807) (hsn : nm.length ≤ 9223372036854775807) (h : MsIn w P A1 l1 A2 l2) (hn1 : l1.length ≤ 5000) (hn2 : l2.length ≤ 5000) (ht : Tb w) (htx : txt.length ≤ 100000000) :
    Calls Tryz.prog 20 #[msgV k (bs mat) (bs nm) A l.length cp sc pc A1 l1.length c1 A2 l2.length c2 (bs txt)] w (OutB w (encV ⟨k, mat, .mk nm l, sc, pc, l1, l2, txt⟩)) := by
  by_cases hc : checkF ⟨k, mat, .mk nm l, sc, pc, l1, l2, txt⟩ = 0
  · have hk := (check_ok hc).1
    have hk : 1 ≤ k ∧ k ≤ 7 := hk
    have h7 : k = 1 ∨ k = 2 ∨ k = 3 ∨ k = 4 ∨ k = 5 ∨ k = 6 ∨ k = 7 := by omega
    rcases h7 with rfl | rfl | rfl | rfl | rfl | rfl | rfl
    · exact rencode_1 w P _ _ _ _ _ _ _ _ _ _ _ _ _ _ hsm hsn h hn1 hn2 ht htx hc
    · exact rencode_2 w P _ _ _ _ _ _ _ _ _ _ _ _ _ _ hsm hsn h hn1 hn2 ht hc
    · exact rencode_3 w P _ _ _ _ _ _ _ _ _ _ _ _ _ _ hsm hsn h hn1 hn2 ht hc
    · exact rencode_4 w P _ _ _ _ _ _ _ _ _ _ _ _ _ _ hsm hsn h hn1 hn2 ht hc
    · exact rencode_5 w P _ _ _ _ _ _ _ _ _ _ _ _ _ _ hsm hsn h hn1 hn2 ht hc
    · exact rencode_6 w P _ _ _ _ _ _ _ _ _ _ _ _ _ _ hsm hsn h hn1 hn2 ht hc
    · exact rencode_7 w P _ _ _ _ _ _ _ _ _ _ _ _ _ _ hsm hsn h hn1 hn2 ht hc
  · exact rencode_no w P k _ _ _ _ _ _ _ _ _ _ _ _ _ _ hsm hsn h hn1 hn2 ht hc

end Go.Proofs.YtmplpbdldcokjaaGreatDoor
