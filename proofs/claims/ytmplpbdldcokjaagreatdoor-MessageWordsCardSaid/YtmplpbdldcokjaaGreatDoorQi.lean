/- The walk of message.Encode, kind by kind. -/
import Derived.Test.YtmplpbdldcokjaaGreatDoorQh
namespace Go.Proofs.YtmplpbdldcokjaaGreatDoor
open Go Go.RowKit Go.Shelf
set_option linter.unusedSimpArgs false
set_option linter.unusedVariables false

theorem keep1 {w4 x : World} {a : Addr} {va : Value} (h : w4.cell? a = some va ∧ a.block < w4.heap.size) (hb : Below w4.heap.size w4 x) : x.cell? a = some va ∧ Hid (Below w4.heap.size w4 x) :=
  ⟨(hb.cell h.2).trans h.1, hb⟩
theorem last1 {p1 p : Prop} (h : p1 ∧ Hid p) : p := h.2.out
theorem trans1h {w a b : World} (h : Hid (Below w.heap.size w a)) (hb : Below a.heap.size a b) : Below w.heap.size w b := h.out.trans (hb.mono h.out.size)
theorem encO_ok {m : Ms} (h : checkF m = 0) {s : List UInt8} (hs : encF m = s) : Ending.returned (Value.tuple #[.string (bs s), .int .i64 0]) = Ending.returned (encV m) := by
  unfold encV encO; rw [if_pos h, hs]
theorem encO_no {m : Ms} {z : Int} (h : checkF m = z) (hz : z ≠ 0) : Ending.returned (Value.tuple #[.string ⟨#[]⟩, .int .i64 z]) = Ending.returned (encV m) := by
  unfold encV encO; rw [if_neg (by rw [h]; exact hz), h]; rfl
theorem name_le {l : List UInt8} (h : nameF l = true) : l.length ≤ 16 := len_name h

set_option maxHeartbeats 16000000 in
set_option maxRecDepth 100000 in
theorem encode_no (w : World) (P : Nat → Prop) (k : Int) (mat nm : List UInt8) (A : Option Addr) (cp : Nat) (l : List Tm) (sc pc : Int) (A1 : Option Addr) (c1 : Nat) (l1 : List Tm) (A2 : Option Addr) (c2 : Nat) (l2 : List Tm) (txt : List UInt8)
    (hsm : mat.length ≤ 9223372036854775807) (hsn : nm.length ≤ 9223372036854775807) (h : MsIn w P A1 l1 A2 l2) (hn1 : l1.length ≤ 5000) (hn2 : l2.length ≤ 5000) (ht : Tb w)
    (hc : checkF ⟨k, mat, .mk nm l, sc, pc, l1, l2, txt⟩ ≠ 0) :
    Calls Tryz.prog 12 #[(msgV k (bs mat) (bs nm) A l.length cp sc pc A1 l1.length c1 A2 l2.length c2 (bs txt))] w (OutB w (encV ⟨k, mat, .mk nm l, sc, pc, l1, l2, txt⟩)) := by
  have HB0 := Lib.hid (one_box w (.cells #[.int .i64 k, .string (bs mat), .string (bs nm), .slice A l.length cp, .int .i64 sc, .int .i64 pc, .slice A1 l1.length c1, .slice A2 l2.length c2, .string (bs txt)] 27))
  have CC := Lib.hid (check_any (w.alloc (.cells #[.int .i64 k, .string (bs mat), .string (bs nm), .slice A l.length cp, .int .i64 sc, .int .i64 pc, .slice A1 l1.length c1, .slice A2 l2.length c2, .string (bs txt)] 27)) P k (bs mat) (bs nm) A cp l sc pc A1 c1 l1 A2 c2 l2 (bs txt) (by rw [size_bs]; omega) (by rw [size_bs]; omega) (h.keep HB0.out.1))
  rw [toList_bs, toList_bs, toList_bs] at CC
  have HIN := Lib.hid (fun (y : World) (hy : Below w.heap.size w y) => h.keep hy)
  have HTB := Lib.hid (fun (y : World) (hy : Below w.heap.size w y) => ht.below hy)
  have hmf : ∀ (fn : Fn) (first cap : Array Value) (w : World), (Instr.makeFunc fn first cap).run Tryz.prog w = .ok (.func fn first cap) w := fun _ _ _ _ => rfl
  clear h ht
  have HR : Hid (∀ z : Int, checkF ⟨k, mat, .mk nm l, sc, pc, l1, l2, txt⟩ = z → Ending.returned (Value.tuple #[.string ⟨#[]⟩, .int .i64 z]) = Ending.returned (encV ⟨k, mat, .mk nm l, sc, pc, l1, l2, txt⟩)) := fun z hz => encO_no hz (by rw [← hz]; exact hc)
  generalize hz : checkF ⟨k, mat, .mk nm l, sc, pc, l1, l2, txt⟩ = z at *
  have HRU := Lib.hid (HR.out z rfl)
  have e1 : (z != 0) = true := by simpa using hc
  clear HR hz hc
  go_enter Tryz.func12, Tryz.ntmps12
  go_wp2_with fail
  generalize w.alloc (.cells #[.int .i64 k, .string (bs mat), .string (bs nm), .slice A l.length cp, .int .i64 sc, .int .i64 pc, .slice A1 l1.length c1, .slice A2 l2.length c2, .string (bs txt)] 27) = w0 at *
  refine CC.out.mono ?_
  rintro e w1 ⟨rfl, hb⟩
  have HM := Lib.hid ((hb.block _ (heap_lt HB0.out.2)).trans HB0.out.2)
  have HB1 := Lib.hid (HB0.out.1.trans (hb.mono HB0.out.1.size))
  clear hb CC HB0
  go_wp2_with fail
  go_ret2
  exact ⟨HRU.out, HB1.out⟩

set_option maxHeartbeats 16000000 in
set_option maxRecDepth 100000 in
theorem encode_4 (w : World) (P : Nat → Prop) (mat nm : List UInt8) (A : Option Addr) (cp : Nat) (l : List Tm) (sc pc : Int) (A1 : Option Addr) (c1 : Nat) (l1 : List Tm) (A2 : Option Addr) (c2 : Nat) (l2 : List Tm) (txt : List UInt8)
    (hsm : mat.length ≤ 9223372036854775807) (hsn : nm.length ≤ 9223372036854775807) (h : MsIn w P A1 l1 A2 l2) (hn1 : l1.length ≤ 5000) (hn2 : l2.length ≤ 5000) (ht : Tb w)
    (hc : checkF ⟨4, mat, .mk nm l, sc, pc, l1, l2, txt⟩ = 0) :
    Calls Tryz.prog 12 #[(msgV 4 (bs mat) (bs nm) A l.length cp sc pc A1 l1.length c1 A2 l2.length c2 (bs txt))] w (OutB w (encV ⟨4, mat, .mk nm l, sc, pc, l1, l2, txt⟩)) := by
  have HB0 := Lib.hid (one_box w (.cells #[.int .i64 4, .string (bs mat), .string (bs nm), .slice A l.length cp, .int .i64 sc, .int .i64 pc, .slice A1 l1.length c1, .slice A2 l2.length c2, .string (bs txt)] 27))
  have CC := Lib.hid (check_any (w.alloc (.cells #[.int .i64 4, .string (bs mat), .string (bs nm), .slice A l.length cp, .int .i64 sc, .int .i64 pc, .slice A1 l1.length c1, .slice A2 l2.length c2, .string (bs txt)] 27)) P 4 (bs mat) (bs nm) A cp l sc pc A1 c1 l1 A2 c2 l2 (bs txt) (by rw [size_bs]; omega) (by rw [size_bs]; omega) (h.keep HB0.out.1))
  rw [toList_bs, toList_bs, toList_bs] at CC
  have HIN := Lib.hid (fun (y : World) (hy : Below w.heap.size w y) => h.keep hy)
  have HTB := Lib.hid (fun (y : World) (hy : Below w.heap.size w y) => ht.below hy)
  have hmf : ∀ (fn : Fn) (first cap : Array Value) (w : World), (Instr.makeFunc fn first cap).run Tryz.prog w = .ok (.func fn first cap) w := fun _ _ _ _ => rfl
  clear h ht
  have HOK := Lib.hid (check_ok hc)
  have HCK := Lib.hid hc
  rw [hc] at CC
  clear hc
  have hmat : mat.length ≤ 16 := name_le (HOK.out.2.1 (show (4 : Int) ≤ 4 by decide))
  have hadd : ∀ y : World, (Op.stringOp .add ⟨#[97, 98, 111, 114, 116, 32]⟩ (bs mat)).run Tryz.prog y = .ok (.string (bs ([97, 98, 111, 114, 116, 32] ++ mat))) y := fun y => str_add_b [97, 98, 111, 114, 116, 32] mat (by simp; omega)
  have HRU := Lib.hid (encO_ok HCK.out (s := [97, 98, 111, 114, 116, 32] ++ mat) (by unfold encF encW; simp [Lib.join, List.intercalate, wAbort]))
  generalize bs ([97, 98, 111, 114, 116, 32] ++ mat) = s9 at *
  go_enter Tryz.func12, Tryz.ntmps12
  go_wp2_with fail
  generalize w.alloc (.cells #[.int .i64 4, .string (bs mat), .string (bs nm), .slice A l.length cp, .int .i64 sc, .int .i64 pc, .slice A1 l1.length c1, .slice A2 l2.length c2, .string (bs txt)] 27) = w0 at *
  refine CC.out.mono ?_
  rintro e w1 ⟨rfl, hb⟩
  have HM := Lib.hid ((hb.block _ (heap_lt HB0.out.2)).trans HB0.out.2)
  have HB1 := Lib.hid (HB0.out.1.trans (hb.mono HB0.out.1.size))
  clear hb CC HB0
  have m0 := cell_blk HM.out 0
  have m1 := cell_blk HM.out 1
  go_wp2_with fail
  go_ret2
  exact ⟨HRU.out, HB1.out⟩

set_option maxHeartbeats 16000000 in
set_option maxRecDepth 100000 in
theorem encode_5 (w : World) (P : Nat → Prop) (mat nm : List UInt8) (A : Option Addr) (cp : Nat) (l : List Tm) (sc pc : Int) (A1 : Option Addr) (c1 : Nat) (l1 : List Tm) (A2 : Option Addr) (c2 : Nat) (l2 : List Tm) (txt : List UInt8)
    (hsm : mat.length ≤ 9223372036854775807) (hsn : nm.length ≤ 9223372036854775807) (h : MsIn w P A1 l1 A2 l2) (hn1 : l1.length ≤ 5000) (hn2 : l2.length ≤ 5000) (ht : Tb w)
    (hc : checkF ⟨5, mat, .mk nm l, sc, pc, l1, l2, txt⟩ = 0) :
    Calls Tryz.prog 12 #[(msgV 5 (bs mat) (bs nm) A l.length cp sc pc A1 l1.length c1 A2 l2.length c2 (bs txt))] w (OutB w (encV ⟨5, mat, .mk nm l, sc, pc, l1, l2, txt⟩)) := by
  have HB0 := Lib.hid (one_box w (.cells #[.int .i64 5, .string (bs mat), .string (bs nm), .slice A l.length cp, .int .i64 sc, .int .i64 pc, .slice A1 l1.length c1, .slice A2 l2.length c2, .string (bs txt)] 27))
  have CC := Lib.hid (check_any (w.alloc (.cells #[.int .i64 5, .string (bs mat), .string (bs nm), .slice A l.length cp, .int .i64 sc, .int .i64 pc, .slice A1 l1.length c1, .slice A2 l2.length c2, .string (bs txt)] 27)) P 5 (bs mat) (bs nm) A cp l sc pc A1 c1 l1 A2 c2 l2 (bs txt) (by rw [size_bs]; omega) (by rw [size_bs]; omega) (h.keep HB0.out.1))
  rw [toList_bs, toList_bs, toList_bs] at CC
  have HIN := Lib.hid (fun (y : World) (hy : Below w.heap.size w y) => h.keep hy)
  have HTB := Lib.hid (fun (y : World) (hy : Below w.heap.size w y) => ht.below hy)
  have hmf : ∀ (fn : Fn) (first cap : Array Value) (w : World), (Instr.makeFunc fn first cap).run Tryz.prog w = .ok (.func fn first cap) w := fun _ _ _ _ => rfl
  clear h ht
  have HOK := Lib.hid (check_ok hc)
  have HCK := Lib.hid hc
  rw [hc] at CC
  clear hc
  have HRU := Lib.hid (encO_ok HCK.out (s := wReady) (by unfold encF encW; simp [Lib.join, List.intercalate]))
  rw [show bs wReady = ⟨#[114, 101, 97, 100, 121]⟩ from rfl] at HRU
  go_enter Tryz.func12, Tryz.ntmps12
  go_wp2_with fail
  generalize w.alloc (.cells #[.int .i64 5, .string (bs mat), .string (bs nm), .slice A l.length cp, .int .i64 sc, .int .i64 pc, .slice A1 l1.length c1, .slice A2 l2.length c2, .string (bs txt)] 27) = w0 at *
  refine CC.out.mono ?_
  rintro e w1 ⟨rfl, hb⟩
  have HM := Lib.hid ((hb.block _ (heap_lt HB0.out.2)).trans HB0.out.2)
  have HB1 := Lib.hid (HB0.out.1.trans (hb.mono HB0.out.1.size))
  clear hb CC HB0
  have m0 := cell_blk HM.out 0
  go_wp2_with fail
  go_ret2
  exact ⟨HRU.out, HB1.out⟩

set_option maxHeartbeats 16000000 in
set_option maxRecDepth 100000 in
theorem encode_7 (w : World) (P : Nat → Prop) (mat nm : List UInt8) (A : Option Addr) (cp : Nat) (l : List Tm) (sc pc : Int) (A1 : Option Addr) (c1 : Nat) (l1 : List Tm) (A2 : Option Addr) (c2 : Nat) (l2 : List Tm) (txt : List UInt8)
    (hsm : mat.length ≤ 9223372036854775807) (hsn : nm.length ≤ 9223372036854775807) (h : MsIn w P A1 l1 A2 l2) (hn1 : l1.length ≤ 5000) (hn2 : l2.length ≤ 5000) (ht : Tb w)
    (hc : checkF ⟨7, mat, .mk nm l, sc, pc, l1, l2, txt⟩ = 0) :
    Calls Tryz.prog 12 #[(msgV 7 (bs mat) (bs nm) A l.length cp sc pc A1 l1.length c1 A2 l2.length c2 (bs txt))] w (OutB w (encV ⟨7, mat, .mk nm l, sc, pc, l1, l2, txt⟩)) := by
  have HB0 := Lib.hid (one_box w (.cells #[.int .i64 7, .string (bs mat), .string (bs nm), .slice A l.length cp, .int .i64 sc, .int .i64 pc, .slice A1 l1.length c1, .slice A2 l2.length c2, .string (bs txt)] 27))
  have CC := Lib.hid (check_any (w.alloc (.cells #[.int .i64 7, .string (bs mat), .string (bs nm), .slice A l.length cp, .int .i64 sc, .int .i64 pc, .slice A1 l1.length c1, .slice A2 l2.length c2, .string (bs txt)] 27)) P 7 (bs mat) (bs nm) A cp l sc pc A1 c1 l1 A2 c2 l2 (bs txt) (by rw [size_bs]; omega) (by rw [size_bs]; omega) (h.keep HB0.out.1))
  rw [toList_bs, toList_bs, toList_bs] at CC
  have HIN := Lib.hid (fun (y : World) (hy : Below w.heap.size w y) => h.keep hy)
  have HTB := Lib.hid (fun (y : World) (hy : Below w.heap.size w y) => ht.below hy)
  have hmf : ∀ (fn : Fn) (first cap : Array Value) (w : World), (Instr.makeFunc fn first cap).run Tryz.prog w = .ok (.func fn first cap) w := fun _ _ _ _ => rfl
  clear h ht
  have HOK := Lib.hid (check_ok hc)
  have HCK := Lib.hid hc
  rw [hc] at CC
  clear hc
  have HRU := Lib.hid (encO_ok HCK.out (s := wDone) (by unfold encF encW; simp [Lib.join, List.intercalate]))
  rw [show bs wDone = ⟨#[100, 111, 110, 101]⟩ from rfl] at HRU
  go_enter Tryz.func12, Tryz.ntmps12
  go_wp2_with fail
  generalize w.alloc (.cells #[.int .i64 7, .string (bs mat), .string (bs nm), .slice A l.length cp, .int .i64 sc, .int .i64 pc, .slice A1 l1.length c1, .slice A2 l2.length c2, .string (bs txt)] 27) = w0 at *
  refine CC.out.mono ?_
  rintro e w1 ⟨rfl, hb⟩
  have HM := Lib.hid ((hb.block _ (heap_lt HB0.out.2)).trans HB0.out.2)
  have HB1 := Lib.hid (HB0.out.1.trans (hb.mono HB0.out.1.size))
  clear hb CC HB0
  have m0 := cell_blk HM.out 0
  go_wp2_with fail
  go_ret2
  exact ⟨HRU.out, HB1.out⟩

set_option maxHeartbeats 16000000 in
set_option maxRecDepth 100000 in
theorem encode_6 (w : World) (P : Nat → Prop) (mat nm : List UInt8) (A : Option Addr) (cp : Nat) (l : List Tm) (sc pc : Int) (A1 : Option Addr) (c1 : Nat) (l1 : List Tm) (A2 : Option Addr) (c2 : Nat) (l2 : List Tm) (txt : List UInt8)
    (hsm : mat.length ≤ 9223372036854775807) (hsn : nm.length ≤ 9223372036854775807) (h : MsIn w P A1 l1 A2 l2) (hn1 : l1.length ≤ 5000) (hn2 : l2.length ≤ 5000) (ht : Tb w)
    (hc : checkF ⟨6, mat, .mk nm l, sc, pc, l1, l2, txt⟩ = 0) :
    Calls Tryz.prog 12 #[(msgV 6 (bs mat) (bs nm) A l.length cp sc pc A1 l1.length c1 A2 l2.length c2 (bs txt))] w (OutB w (encV ⟨6, mat, .mk nm l, sc, pc, l1, l2, txt⟩)) := by
  have HB0 := Lib.hid (one_box w (.cells #[.int .i64 6, .string (bs mat), .string (bs nm), .slice A l.length cp, .int .i64 sc, .int .i64 pc, .slice A1 l1.length c1, .slice A2 l2.length c2, .string (bs txt)] 27))
  have CC := Lib.hid (check_any (w.alloc (.cells #[.int .i64 6, .string (bs mat), .string (bs nm), .slice A l.length cp, .int .i64 sc, .int .i64 pc, .slice A1 l1.length c1, .slice A2 l2.length c2, .string (bs txt)] 27)) P 6 (bs mat) (bs nm) A cp l sc pc A1 c1 l1 A2 c2 l2 (bs txt) (by rw [size_bs]; omega) (by rw [size_bs]; omega) (h.keep HB0.out.1))
  rw [toList_bs, toList_bs, toList_bs] at CC
  have HIN := Lib.hid (fun (y : World) (hy : Below w.heap.size w y) => h.keep hy)
  have HTB := Lib.hid (fun (y : World) (hy : Below w.heap.size w y) => ht.below hy)
  have hmf : ∀ (fn : Fn) (first cap : Array Value) (w : World), (Instr.makeFunc fn first cap).run Tryz.prog w = .ok (.func fn first cap) w := fun _ _ _ _ => rfl
  clear h ht
  have HOK := Lib.hid (check_ok hc)
  have HCK := Lib.hid hc
  rw [hc] at CC
  clear hc
  have hg1 : groundF l1 = true := HOK.out.2.2.2.2.2.2.2.2.2.1
  have hlen := termsT_len hg1
  have hl1 : l1.length = 1 := HOK.out.2.2.2.2.2.2.2.2.1 rfl
  have he1 := (escT_len (termsT l1)).2.1
  have hadd : ∀ y : World, (Op.stringOp .add ⟨#[109, 111, 118, 101, 32]⟩ (bs (escT (termsT l1)))).run Tryz.prog y = .ok (.string (bs ([109, 111, 118, 101, 32] ++ escT (termsT l1)))) y := fun y => str_add_b [109, 111, 118, 101, 32] _ (by simp; omega)
  have HRU := Lib.hid (encO_ok HCK.out (s := [109, 111, 118, 101, 32] ++ escT (termsT l1)) (by unfold encF encW; simp [Lib.join, List.intercalate, wMove]))
  have CL := Lib.hid (fun (y : World) (hy : Below w.heap.size w y) (hcl : y.cell? ⟨w.heap.size, 6, none⟩ = some (.slice A1 l1.length c1)) => enc_list6 y P w.heap.size A1 c1 l1 hcl hn1 (HIN.out y hy).a1 (HIN.out y hy).hP hg1)
  clear hlen hl1 he1 hg1
  generalize bs ([109, 111, 118, 101, 32] ++ escT (termsT l1)) = s9 at *
  generalize bs (escT (termsT l1)) = s8 at *
  go_enter Tryz.func12, Tryz.ntmps12
  go_wp2_with fail
  generalize w.alloc (.cells #[.int .i64 6, .string (bs mat), .string (bs nm), .slice A l.length cp, .int .i64 sc, .int .i64 pc, .slice A1 l1.length c1, .slice A2 l2.length c2, .string (bs txt)] 27) = w0 at *
  refine CC.out.mono ?_
  rintro e w1 ⟨rfl, hb⟩
  have HM := Lib.hid ((hb.block _ (heap_lt HB0.out.2)).trans HB0.out.2)
  have HB1 := Lib.hid (HB0.out.1.trans (hb.mono HB0.out.1.size))
  clear hb CC HB0
  have m0 := cell_blk HM.out 0
  have CX := Lib.hid (CL.out _ HB1.out (by have := cell_blk HM.out 6; exact this))
  go_wp2_with fail
  refine CX.out.mono ?_
  rintro e w2 ⟨rfl, hb⟩
  have HB2 := Lib.hid (HB1.out.trans (hb.mono HB1.out.size))
  clear hb
  go_wp2_with fail
  go_ret2
  exact ⟨HRU.out, HB2.out⟩

set_option maxHeartbeats 16000000 in
set_option maxRecDepth 100000 in
theorem encode_2 (w : World) (P : Nat → Prop) (mat nm : List UInt8) (A : Option Addr) (cp : Nat) (l : List Tm) (sc pc : Int) (A1 : Option Addr) (c1 : Nat) (l1 : List Tm) (A2 : Option Addr) (c2 : Nat) (l2 : List Tm) (txt : List UInt8)
    (hsm : mat.length ≤ 9223372036854775807) (hsn : nm.length ≤ 9223372036854775807) (h : MsIn w P A1 l1 A2 l2) (hn1 : l1.length ≤ 5000) (hn2 : l2.length ≤ 5000) (ht : Tb w)
    (hc : checkF ⟨2, mat, .mk nm l, sc, pc, l1, l2, txt⟩ = 0) :
    Calls Tryz.prog 12 #[(msgV 2 (bs mat) (bs nm) A l.length cp sc pc A1 l1.length c1 A2 l2.length c2 (bs txt))] w (OutB w (encV ⟨2, mat, .mk nm l, sc, pc, l1, l2, txt⟩)) := by
  have HB0 := Lib.hid (one_box w (.cells #[.int .i64 2, .string (bs mat), .string (bs nm), .slice A l.length cp, .int .i64 sc, .int .i64 pc, .slice A1 l1.length c1, .slice A2 l2.length c2, .string (bs txt)] 27))
  have CC := Lib.hid (check_any (w.alloc (.cells #[.int .i64 2, .string (bs mat), .string (bs nm), .slice A l.length cp, .int .i64 sc, .int .i64 pc, .slice A1 l1.length c1, .slice A2 l2.length c2, .string (bs txt)] 27)) P 2 (bs mat) (bs nm) A cp l sc pc A1 c1 l1 A2 c2 l2 (bs txt) (by rw [size_bs]; omega) (by rw [size_bs]; omega) (h.keep HB0.out.1))
  rw [toList_bs, toList_bs, toList_bs] at CC
  have HIN := Lib.hid (fun (y : World) (hy : Below w.heap.size w y) => h.keep hy)
  have HTB := Lib.hid (fun (y : World) (hy : Below w.heap.size w y) => ht.below hy)
  have hmf : ∀ (fn : Fn) (first cap : Array Value) (w : World), (Instr.makeFunc fn first cap).run Tryz.prog w = .ok (.func fn first cap) w := fun _ _ _ _ => rfl
  clear h ht
  have HOK := Lib.hid (check_ok hc)
  have HCK := Lib.hid hc
  rw [hc] at CC
  clear hc
  have hmat : mat.length ≤ 16 := name_le (HOK.out.2.1 (show (2 : Int) ≤ 4 by decide))
  have hg1 : groundF l1 = true := HOK.out.2.2.2.2.2.2.2.2.2.1
  have hg2 : groundF l2 = true := HOK.out.2.2.2.2.2.2.2.2.2.2.1
  have hlen1 := termsT_len hg1
  have hlen2 := termsT_len hg2
  have hl1 : l1.length ≤ 1 := HOK.out.2.2.2.2.2.2.2.1 (show (2 : Int) = 2 ∨ (2 : Int) = 3 by decide)
  have he1 := (escT_len (termsT l1)).2.1
  have he2 := (escT_len (termsT l2)).2.1
  have HRU := Lib.hid (encO_ok HCK.out (s := [112, 108, 97, 121, 32] ++ mat ++ [32] ++ escT (termsT l1) ++ [32] ++ escT (termsT l2)) (by unfold encF encW; simp [Lib.join, List.intercalate, wPlay]))
  have CL1 := Lib.hid (fun (y : World) (hy : Below w.heap.size w y) (hcl : y.cell? ⟨w.heap.size, 6, none⟩ = some (.slice A1 l1.length c1)) => enc_list6 y P w.heap.size A1 c1 l1 hcl hn1 (HIN.out y hy).a1 (HIN.out y hy).hP hg1)
  have CL2 := Lib.hid (fun (y : World) (hy : Below w.heap.size w y) (hcl : y.cell? ⟨w.heap.size, 7, none⟩ = some (.slice A2 l2.length c2)) => enc_list7 y P w.heap.size A2 c2 l2 hcl hn2 (HIN.out y hy).a2 (HIN.out y hy).hP hg2)
  generalize escT (termsT l1) = x1 at *
  generalize escT (termsT l2) = x2 at *
  have a1 : ∀ y : World, (Op.stringOp .add ⟨#[112, 108, 97, 121, 32]⟩ (bs mat)).run Tryz.prog y = .ok (.string (bs ([112, 108, 97, 121, 32] ++ mat))) y := fun y => str_add_b [112, 108, 97, 121, 32] mat (by simp; omega)
  have a2 : ∀ y : World, (Op.stringOp .add (bs ([112, 108, 97, 121, 32] ++ mat)) ⟨#[32]⟩).run Tryz.prog y = .ok (.string (bs ([112, 108, 97, 121, 32] ++ mat ++ [32]))) y := fun y => str_add_b _ [32] (by simp; omega)
  have a3 : ∀ y : World, (Op.stringOp .add (bs ([112, 108, 97, 121, 32] ++ mat ++ [32])) (bs x1)).run Tryz.prog y = .ok (.string (bs ([112, 108, 97, 121, 32] ++ mat ++ [32] ++ x1))) y := fun y => str_add_b _ x1 (by simp; omega)
  have a4 : ∀ y : World, (Op.stringOp .add (bs ([112, 108, 97, 121, 32] ++ mat ++ [32] ++ x1)) ⟨#[32]⟩).run Tryz.prog y = .ok (.string (bs ([112, 108, 97, 121, 32] ++ mat ++ [32] ++ x1 ++ [32]))) y := fun y => str_add_b _ [32] (by simp; omega)
  have a5 : ∀ y : World, (Op.stringOp .add (bs ([112, 108, 97, 121, 32] ++ mat ++ [32] ++ x1 ++ [32])) (bs x2)).run Tryz.prog y = .ok (.string (bs ([112, 108, 97, 121, 32] ++ mat ++ [32] ++ x1 ++ [32] ++ x2))) y := fun y => str_add_b _ x2 (by simp; omega)
  clear hlen1 hlen2 hl1 he1 he2 hg1 hg2 hmat
  generalize bs ([112, 108, 97, 121, 32] ++ mat ++ [32] ++ x1 ++ [32] ++ x2) = s5 at *
  generalize bs ([112, 108, 97, 121, 32] ++ mat ++ [32] ++ x1 ++ [32]) = s4 at *
  generalize bs ([112, 108, 97, 121, 32] ++ mat ++ [32] ++ x1) = s3 at *
  generalize bs ([112, 108, 97, 121, 32] ++ mat ++ [32]) = s2 at *
  generalize bs ([112, 108, 97, 121, 32] ++ mat) = s1 at *
  generalize bs x1 = sx1 at *
  generalize bs x2 = sx2 at *
  generalize bs mat = smat at *
  generalize bs nm = snm at *
  generalize bs txt = stxt at *
  go_enter Tryz.func12, Tryz.ntmps12
  go_wp2_with fail
  generalize w.alloc (.cells #[.int .i64 2, .string (bs mat), .string (bs nm), .slice A l.length cp, .int .i64 sc, .int .i64 pc, .slice A1 l1.length c1, .slice A2 l2.length c2, .string (bs txt)] 27) = w0 at *
  refine CC.out.mono ?_
  rintro e w1 ⟨rfl, hb⟩
  have HM := Lib.hid ((hb.block _ (heap_lt HB0.out.2)).trans HB0.out.2)
  have HB1 := Lib.hid (HB0.out.1.trans (hb.mono HB0.out.1.size))
  clear hb CC HB0
  have m0 := cell_blk HM.out 0
  have CX1 := Lib.hid (fun (y : World) (hy : Below w1.heap.size w1 y) => CL1.out y (HB1.out.trans (hy.mono HB1.out.size)) ((hy.cell (p := ⟨w.heap.size, 6, none⟩) (heap_lt HM.out)).trans (cell_blk HM.out 6)))
  have CX2 := Lib.hid (fun (y : World) (hy : Below w1.heap.size w1 y) => CL2.out y (HB1.out.trans (hy.mono HB1.out.size)) ((hy.cell (p := ⟨w.heap.size, 7, none⟩) (heap_lt HM.out)).trans (cell_blk HM.out 7)))
  have HC : Hid (w1.cell? ⟨w.heap.size, 1, none⟩ = some (.string smat) ∧ w.heap.size < w1.heap.size) := ⟨cell_blk HM.out 1, heap_lt HM.out⟩
  have HR0 := Lib.hid (Below.refl w1.heap.size w1)
  clear CL1 CL2
  go_wp2_with fail
  clear m0
  go_region_held3 (fun y => y.cell? ⟨w.heap.size, 1, none⟩ = some (.string smat) ∧ Hid (Below w1.heap.size w1 y)) (first | (exact keep1 HC.out (Below.drew HR0.out)) | (exact keep1 HC.out (Below.drew (last1 ‹_ ∧ Hid _›))) | (exact keep1 HC.out (trans1h (Lib.hid (last1 ‹_ ∧ Hid _›)) hb9))) (first | (go_at_call 33; refine (CX1.out _ (last1 ‹_ ∧ Hid _›)).mono ?_; rintro e9 w9 ⟨rfl, hb9⟩) | (go_at_call 35; refine (CX2.out _ (last1 ‹_ ∧ Hid _›)).mono ?_; rintro e9 w9 ⟨rfl, hb9⟩))
  go_wp2_with fail
  go_ret2
  exact ⟨HRU.out, HB1.out.trans (Below.mono (last1 ‹_ ∧ Hid _›) HB1.out.size)⟩

set_option maxHeartbeats 16000000 in
set_option maxRecDepth 100000 in
theorem encode_3 (w : World) (P : Nat → Prop) (mat nm : List UInt8) (A : Option Addr) (cp : Nat) (l : List Tm) (sc pc : Int) (A1 : Option Addr) (c1 : Nat) (l1 : List Tm) (A2 : Option Addr) (c2 : Nat) (l2 : List Tm) (txt : List UInt8)
    (hsm : mat.length ≤ 9223372036854775807) (hsn : nm.length ≤ 9223372036854775807) (h : MsIn w P A1 l1 A2 l2) (hn1 : l1.length ≤ 5000) (hn2 : l2.length ≤ 5000) (ht : Tb w)
    (hc : checkF ⟨3, mat, .mk nm l, sc, pc, l1, l2, txt⟩ = 0) :
    Calls Tryz.prog 12 #[(msgV 3 (bs mat) (bs nm) A l.length cp sc pc A1 l1.length c1 A2 l2.length c2 (bs txt))] w (OutB w (encV ⟨3, mat, .mk nm l, sc, pc, l1, l2, txt⟩)) := by
  have HB0 := Lib.hid (one_box w (.cells #[.int .i64 3, .string (bs mat), .string (bs nm), .slice A l.length cp, .int .i64 sc, .int .i64 pc, .slice A1 l1.length c1, .slice A2 l2.length c2, .string (bs txt)] 27))
  have CC := Lib.hid (check_any (w.alloc (.cells #[.int .i64 3, .string (bs mat), .string (bs nm), .slice A l.length cp, .int .i64 sc, .int .i64 pc, .slice A1 l1.length c1, .slice A2 l2.length c2, .string (bs txt)] 27)) P 3 (bs mat) (bs nm) A cp l sc pc A1 c1 l1 A2 c2 l2 (bs txt) (by rw [size_bs]; omega) (by rw [size_bs]; omega) (h.keep HB0.out.1))
  rw [toList_bs, toList_bs, toList_bs] at CC
  have HIN := Lib.hid (fun (y : World) (hy : Below w.heap.size w y) => h.keep hy)
  have HTB := Lib.hid (fun (y : World) (hy : Below w.heap.size w y) => ht.below hy)
  have hmf : ∀ (fn : Fn) (first cap : Array Value) (w : World), (Instr.makeFunc fn first cap).run Tryz.prog w = .ok (.func fn first cap) w := fun _ _ _ _ => rfl
  clear h ht
  have HOK := Lib.hid (check_ok hc)
  have HCK := Lib.hid hc
  rw [hc] at CC
  clear hc
  have hmat : mat.length ≤ 16 := name_le (HOK.out.2.1 (show (3 : Int) ≤ 4 by decide))
  have hg1 : groundF l1 = true := HOK.out.2.2.2.2.2.2.2.2.2.1
  have hg2 : groundF l2 = true := HOK.out.2.2.2.2.2.2.2.2.2.2.1
  have hlen1 := termsT_len hg1
  have hlen2 := termsT_len hg2
  have hl1 : l1.length ≤ 1 := HOK.out.2.2.2.2.2.2.2.1 (show (3 : Int) = 2 ∨ (3 : Int) = 3 by decide)
  have he1 := (escT_len (termsT l1)).2.1
  have he2 := (escT_len (termsT l2)).2.1
  have HRU := Lib.hid (encO_ok HCK.out (s := [115, 116, 111, 112, 32] ++ mat ++ [32] ++ escT (termsT l1) ++ [32] ++ escT (termsT l2)) (by unfold encF encW; simp [Lib.join, List.intercalate, wStop]))
  have CL1 := Lib.hid (fun (y : World) (hy : Below w.heap.size w y) (hcl : y.cell? ⟨w.heap.size, 6, none⟩ = some (.slice A1 l1.length c1)) => enc_list6 y P w.heap.size A1 c1 l1 hcl hn1 (HIN.out y hy).a1 (HIN.out y hy).hP hg1)
  have CL2 := Lib.hid (fun (y : World) (hy : Below w.heap.size w y) (hcl : y.cell? ⟨w.heap.size, 7, none⟩ = some (.slice A2 l2.length c2)) => enc_list7 y P w.heap.size A2 c2 l2 hcl hn2 (HIN.out y hy).a2 (HIN.out y hy).hP hg2)
  generalize escT (termsT l1) = x1 at *
  generalize escT (termsT l2) = x2 at *
  have a1 : ∀ y : World, (Op.stringOp .add ⟨#[115, 116, 111, 112, 32]⟩ (bs mat)).run Tryz.prog y = .ok (.string (bs ([115, 116, 111, 112, 32] ++ mat))) y := fun y => str_add_b [115, 116, 111, 112, 32] mat (by simp; omega)
  have a2 : ∀ y : World, (Op.stringOp .add (bs ([115, 116, 111, 112, 32] ++ mat)) ⟨#[32]⟩).run Tryz.prog y = .ok (.string (bs ([115, 116, 111, 112, 32] ++ mat ++ [32]))) y := fun y => str_add_b _ [32] (by simp; omega)
  have a3 : ∀ y : World, (Op.stringOp .add (bs ([115, 116, 111, 112, 32] ++ mat ++ [32])) (bs x1)).run Tryz.prog y = .ok (.string (bs ([115, 116, 111, 112, 32] ++ mat ++ [32] ++ x1))) y := fun y => str_add_b _ x1 (by simp; omega)
  have a4 : ∀ y : World, (Op.stringOp .add (bs ([115, 116, 111, 112, 32] ++ mat ++ [32] ++ x1)) ⟨#[32]⟩).run Tryz.prog y = .ok (.string (bs ([115, 116, 111, 112, 32] ++ mat ++ [32] ++ x1 ++ [32]))) y := fun y => str_add_b _ [32] (by simp; omega)
  have a5 : ∀ y : World, (Op.stringOp .add (bs ([115, 116, 111, 112, 32] ++ mat ++ [32] ++ x1 ++ [32])) (bs x2)).run Tryz.prog y = .ok (.string (bs ([115, 116, 111, 112, 32] ++ mat ++ [32] ++ x1 ++ [32] ++ x2))) y := fun y => str_add_b _ x2 (by simp; omega)
  clear hlen1 hlen2 hl1 he1 he2 hg1 hg2 hmat
  generalize bs ([115, 116, 111, 112, 32] ++ mat ++ [32] ++ x1 ++ [32] ++ x2) = s5 at *
  generalize bs ([115, 116, 111, 112, 32] ++ mat ++ [32] ++ x1 ++ [32]) = s4 at *
  generalize bs ([115, 116, 111, 112, 32] ++ mat ++ [32] ++ x1) = s3 at *
  generalize bs ([115, 116, 111, 112, 32] ++ mat ++ [32]) = s2 at *
  generalize bs ([115, 116, 111, 112, 32] ++ mat) = s1 at *
  generalize bs x1 = sx1 at *
  generalize bs x2 = sx2 at *
  generalize bs mat = smat at *
  generalize bs nm = snm at *
  generalize bs txt = stxt at *
  go_enter Tryz.func12, Tryz.ntmps12
  go_wp2_with fail
  generalize w.alloc (.cells #[.int .i64 3, .string (bs mat), .string (bs nm), .slice A l.length cp, .int .i64 sc, .int .i64 pc, .slice A1 l1.length c1, .slice A2 l2.length c2, .string (bs txt)] 27) = w0 at *
  refine CC.out.mono ?_
  rintro e w1 ⟨rfl, hb⟩
  have HM := Lib.hid ((hb.block _ (heap_lt HB0.out.2)).trans HB0.out.2)
  have HB1 := Lib.hid (HB0.out.1.trans (hb.mono HB0.out.1.size))
  clear hb CC HB0
  have m0 := cell_blk HM.out 0
  have CX1 := Lib.hid (fun (y : World) (hy : Below w1.heap.size w1 y) => CL1.out y (HB1.out.trans (hy.mono HB1.out.size)) ((hy.cell (p := ⟨w.heap.size, 6, none⟩) (heap_lt HM.out)).trans (cell_blk HM.out 6)))
  have CX2 := Lib.hid (fun (y : World) (hy : Below w1.heap.size w1 y) => CL2.out y (HB1.out.trans (hy.mono HB1.out.size)) ((hy.cell (p := ⟨w.heap.size, 7, none⟩) (heap_lt HM.out)).trans (cell_blk HM.out 7)))
  have HC : Hid (w1.cell? ⟨w.heap.size, 1, none⟩ = some (.string smat) ∧ w.heap.size < w1.heap.size) := ⟨cell_blk HM.out 1, heap_lt HM.out⟩
  have HR0 := Lib.hid (Below.refl w1.heap.size w1)
  clear CL1 CL2
  go_wp2_with fail
  clear m0
  go_region_held3 (fun y => y.cell? ⟨w.heap.size, 1, none⟩ = some (.string smat) ∧ Hid (Below w1.heap.size w1 y)) (first | (exact keep1 HC.out (Below.drew HR0.out)) | (exact keep1 HC.out (Below.drew (last1 ‹_ ∧ Hid _›))) | (exact keep1 HC.out (trans1h (Lib.hid (last1 ‹_ ∧ Hid _›)) hb9))) (first | (go_at_call 33; refine (CX1.out _ (last1 ‹_ ∧ Hid _›)).mono ?_; rintro e9 w9 ⟨rfl, hb9⟩) | (go_at_call 35; refine (CX2.out _ (last1 ‹_ ∧ Hid _›)).mono ?_; rintro e9 w9 ⟨rfl, hb9⟩))
  go_wp2_with fail
  go_ret2
  exact ⟨HRU.out, HB1.out.trans (Below.mono (last1 ‹_ ∧ Hid _›) HB1.out.size)⟩

end Go.Proofs.YtmplpbdldcokjaaGreatDoor
