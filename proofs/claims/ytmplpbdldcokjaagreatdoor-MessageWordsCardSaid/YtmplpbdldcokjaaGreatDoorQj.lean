/- The walk of message.Encode of a start message, and of any message. -/
import Derived.Test.YtmplpbdldcokjaaGreatDoorQi
namespace Go.Proofs.YtmplpbdldcokjaaGreatDoor
open Go Go.RowKit Go.Shelf
set_option linter.unusedSimpArgs false
set_option linter.unusedVariables false

theorem keep5 {w4 x : World} {q : Nat} {v1 v2 v4 v5 v8 : Value} (h : w4.cell? ⟨q, 1, none⟩ = some v1 ∧ w4.cell? ⟨q, 2, none⟩ = some v2 ∧ w4.cell? ⟨q, 4, none⟩ = some v4 ∧ w4.cell? ⟨q, 5, none⟩ = some v5 ∧ w4.cell? ⟨q, 8, none⟩ = some v8 ∧ q < w4.heap.size) (hb : Below w4.heap.size w4 x) :
    x.cell? ⟨q, 1, none⟩ = some v1 ∧ x.cell? ⟨q, 2, none⟩ = some v2 ∧ x.cell? ⟨q, 4, none⟩ = some v4 ∧ x.cell? ⟨q, 5, none⟩ = some v5 ∧ x.cell? ⟨q, 8, none⟩ = some v8 ∧ Hid (Below w4.heap.size w4 x) := by
  obtain ⟨h1, h2, h4, h5, h8, hl⟩ := h
  exact ⟨(hb.cell (p := ⟨q, 1, none⟩) hl).trans h1, (hb.cell (p := ⟨q, 2, none⟩) hl).trans h2, (hb.cell (p := ⟨q, 4, none⟩) hl).trans h4, (hb.cell (p := ⟨q, 5, none⟩) hl).trans h5, (hb.cell (p := ⟨q, 8, none⟩) hl).trans h8, hb⟩
theorem last5 {p1 p2 p3 p4 p5 p : Prop} (h : p1 ∧ p2 ∧ p3 ∧ p4 ∧ p5 ∧ Hid p) : p := h.2.2.2.2.2.out
theorem alloc1h {w a : World} (h : Below w.heap.size w a) (o : Obj) : Below w.heap.size w (a.alloc o) := h.alloc h.size o
theorem join_six (y : World) (x0 x1 x2 x3 x4 x5 : List UInt8) (hm : (Lib.join [x0, x1, x2, x3, x4, x5] [32]).length ≤ 140737488355328) :
    Calls Tryz.prog 36 #[.slice (some ⟨y.heap.size, 0, none⟩) 6 6, .string ⟨#[32]⟩] (y.alloc (.cells #[.string (bs x0), .string (bs x1), .string (bs x2), .string (bs x3), .string (bs x4), .string (bs x5)] 9)) (OutB (y.alloc (.cells #[.string (bs x0), .string (bs x1), .string (bs x2), .string (bs x3), .string (bs x4), .string (bs x5)] 9)) (.string (bs (Lib.join [x0, x1, x2, x3, x4, x5] [32])))) := by
  have hh := heap_alloc_new y (.cells #[.string (bs x0), .string (bs x1), .string (bs x2), .string (bs x3), .string (bs x4), .string (bs x5)] 9)
  have hc := cell_blk hh
  have := strings_Join y.heap.size 0 6 ([x0, x1, x2, x3, x4, x5].map bs) (bs [32]) (y.alloc (.cells #[.string (bs x0), .string (bs x1), .string (bs x2), .string (bs x3), .string (bs x4), .string (bs x5)] 9)) (fun j u hj => by
    rw [Nat.zero_add, hc j]
    match j, hj with
    | 0, hj => simp at hj ⊢; exact hj
    | 1, hj => simp at hj ⊢; exact hj
    | 2, hj => simp at hj ⊢; exact hj
    | 3, hj => simp at hj ⊢; exact hj
    | 4, hj => simp at hj ⊢; exact hj
    | 5, hj => simp at hj ⊢; exact hj
    | j + 6, hj => simp at hj) (heap_lt hh) (by simp) (by simp) (by
      have e : (([x0, x1, x2, x3, x4, x5].map bs).map (·.data.toList)) = [x0, x1, x2, x3, x4, x5] := by simp [toList_bs]
      rw [e, toList_bs]; exact hm)
  have e : (([x0, x1, x2, x3, x4, x5].map bs).map (·.data.toList)) = [x0, x1, x2, x3, x4, x5] := by simp [toList_bs]
  rw [e, toList_bs] at this
  exact this

set_option maxHeartbeats 16000000 in
set_option maxRecDepth 100000 in
theorem encode_1 (w : World) (P : Nat → Prop) (mat nm : List UInt8) (A : Option Addr) (cp : Nat) (l : List Tm) (sc pc : Int) (A1 : Option Addr) (c1 : Nat) (l1 : List Tm) (A2 : Option Addr) (c2 : Nat) (l2 : List Tm) (txt : List UInt8)
    (hsm : mat.length ≤ 9223372036854775807) (hsn : nm.length ≤ 9223372036854775807) (h : MsIn w P A1 l1 A2 l2) (hn1 : l1.length ≤ 5000) (hn2 : l2.length ≤ 5000) (ht : Tb w)
    (htx : txt.length ≤ 100000000)
    (hc : checkF ⟨1, mat, .mk nm l, sc, pc, l1, l2, txt⟩ = 0) :
    Calls Tryz.prog 12 #[(msgV 1 (bs mat) (bs nm) A l.length cp sc pc A1 l1.length c1 A2 l2.length c2 (bs txt))] w (OutB w (encV ⟨1, mat, .mk nm l, sc, pc, l1, l2, txt⟩)) := by
  have HB0 := Lib.hid (one_box w (.cells #[.int .i64 1, .string (bs mat), .string (bs nm), .slice A l.length cp, .int .i64 sc, .int .i64 pc, .slice A1 l1.length c1, .slice A2 l2.length c2, .string (bs txt)] 27))
  have CC := Lib.hid (check_any (w.alloc (.cells #[.int .i64 1, .string (bs mat), .string (bs nm), .slice A l.length cp, .int .i64 sc, .int .i64 pc, .slice A1 l1.length c1, .slice A2 l2.length c2, .string (bs txt)] 27)) P 1 (bs mat) (bs nm) A cp l sc pc A1 c1 l1 A2 c2 l2 (bs txt) (by rw [size_bs]; omega) (by rw [size_bs]; omega) (h.keep HB0.out.1))
  rw [toList_bs, toList_bs, toList_bs] at CC
  have HIN := Lib.hid (fun (y : World) (hy : Below w.heap.size w y) => h.keep hy)
  have HTB := Lib.hid (fun (y : World) (hy : Below w.heap.size w y) => ht.below hy)
  have hmf : ∀ (fn : Fn) (first cap : Array Value) (w : World), (Instr.makeFunc fn first cap).run Tryz.prog w = .ok (.func fn first cap) w := fun _ _ _ _ => rfl
  clear h ht
  have HOK := Lib.hid (check_ok hc)
  have HCK := Lib.hid hc
  rw [hc] at CC
  clear hc
  obtain ⟨hnm, _, hsc1, hsc2, hpc1, hpc2⟩ := HOK.out.2.2.2.1 rfl
  have hnm : nm.length ≤ 16 := name_le hnm
  have hsc1 : 1 ≤ sc := hsc1
  have hsc2 : sc ≤ 1000 := hsc2
  have hpc1 : 1 ≤ pc := hpc1
  have hpc2 : pc ≤ 1000 := hpc2
  have hmat : mat.length ≤ 16 := name_le (HOK.out.2.1 (show (1 : Int) ≤ 4 by decide))
  have hiS : I64 sc := ⟨by omega, by omega⟩
  have hiP : I64 pc := ⟨by omega, by omega⟩
  have hls := Lib.itoa_length_le sc hiS.1 hiS.2
  have hlp := Lib.itoa_length_le pc hiP.1 hiP.2
  have he1 := (escT_len txt).2.1
  have HRU := Lib.hid (encO_ok HCK.out (s := Lib.join [wStart, mat, nm, Lib.itoa sc, Lib.itoa pc, escT txt] [32]) rfl)
  have hjl : (Lib.join [wStart, mat, nm, Lib.itoa sc, Lib.itoa pc, escT txt] [32]).length ≤ 140737488355328 := by
    rw [Lib.join_cons]
    simp [Lib.joinTail, wStart]
    omega
  have CJ := Lib.hid (fun (y : World) => join_six y wStart mat nm (Lib.itoa sc) (Lib.itoa pc) (escT txt) hjl)
  have CI1 := Lib.hid (fun (y : World) (hy : Below w.heap.size w y) => itoa_below y sc hiS (HTB.out y hy))
  have CI2 := Lib.hid (fun (y : World) (hy : Below w.heap.size w y) => itoa_below y pc hiP (HTB.out y hy))
  have CE := Lib.hid (fun (y : World) => escape_any y (bs txt) (by rw [size_bs]; exact htx))
  rw [toList_bs] at CE
  clear hls hlp he1 hjl hnm hmat hsc1 hsc2 hpc1 hpc2 hiS hiP htx
  rw [show bs wStart = ⟨#[115, 116, 97, 114, 116]⟩ from rfl] at CJ
  generalize bs (Lib.join [wStart, mat, nm, Lib.itoa sc, Lib.itoa pc, escT txt] [32]) = s9 at *
  generalize bs (Lib.itoa sc) = s3 at *
  generalize bs (Lib.itoa pc) = s4 at *
  generalize bs (escT txt) = s5 at *
  generalize bs mat = smat at *
  generalize bs nm = snm at *
  generalize bs txt = stxt at *
  go_enter Tryz.func12, Tryz.ntmps12
  go_wp2_with fail
  generalize w.alloc (.cells #[.int .i64 1, .string (bs mat), .string (bs nm), .slice A l.length cp, .int .i64 sc, .int .i64 pc, .slice A1 l1.length c1, .slice A2 l2.length c2, .string (bs txt)] 27) = w0 at *
  refine CC.out.mono ?_
  rintro e w1 ⟨rfl, hb⟩
  have HM := Lib.hid ((hb.block _ (heap_lt HB0.out.2)).trans HB0.out.2)
  have HB1 := Lib.hid (HB0.out.1.trans (hb.mono HB0.out.1.size))
  clear hb CC HB0
  have m0 := cell_blk HM.out 0
  have CX1 := Lib.hid (fun (y : World) (hy : Below w1.heap.size w1 y) => CI1.out y (HB1.out.trans (hy.mono HB1.out.size)))
  have CX2 := Lib.hid (fun (y : World) (hy : Below w1.heap.size w1 y) => CI2.out y (HB1.out.trans (hy.mono HB1.out.size)))
  have c := cell_blk HM.out
  have HC : Hid (w1.cell? ⟨w.heap.size, 1, none⟩ = some (.string smat) ∧ w1.cell? ⟨w.heap.size, 2, none⟩ = some (.string snm) ∧ w1.cell? ⟨w.heap.size, 4, none⟩ = some (.int .i64 sc) ∧ w1.cell? ⟨w.heap.size, 5, none⟩ = some (.int .i64 pc) ∧ w1.cell? ⟨w.heap.size, 8, none⟩ = some (.string stxt) ∧ w.heap.size < w1.heap.size) := ⟨c 1, c 2, c 4, c 5, c 8, heap_lt HM.out⟩
  have HR0 := Lib.hid (Below.refl w1.heap.size w1)
  clear CI1 CI2 c
  go_wp2_with fail
  clear m0
  go_region_held3 (fun y => y.cell? ⟨w.heap.size, 1, none⟩ = some (.string smat) ∧ y.cell? ⟨w.heap.size, 2, none⟩ = some (.string snm) ∧ y.cell? ⟨w.heap.size, 4, none⟩ = some (.int .i64 sc) ∧ y.cell? ⟨w.heap.size, 5, none⟩ = some (.int .i64 pc) ∧ y.cell? ⟨w.heap.size, 8, none⟩ = some (.string stxt) ∧ Hid (Below w1.heap.size w1 y)) (first | (exact keep5 HC.out (Below.drew HR0.out)) | (exact keep5 HC.out (Below.drew (last5 ‹_ ∧ _ ∧ _ ∧ _ ∧ _ ∧ Hid _›))) | (exact keep5 HC.out (trans1h (Lib.hid (last5 ‹_ ∧ _ ∧ _ ∧ _ ∧ _ ∧ Hid _›)) hb9)) | (exact keep5 HC.out (alloc1h (last5 ‹_ ∧ _ ∧ _ ∧ _ ∧ _ ∧ Hid _›) _))) (first | (go_at_call 37; refine (CX1.out _ (last5 ‹_ ∧ _ ∧ _ ∧ _ ∧ _ ∧ Hid _›)).mono ?_; rintro e9 w9 ⟨rfl, hb9⟩) | (go_at_call 37; refine (CX2.out _ (last5 ‹_ ∧ _ ∧ _ ∧ _ ∧ _ ∧ Hid _›)).mono ?_; rintro e9 w9 ⟨rfl, hb9⟩) | (go_at_call 14; refine (CE.out _).mono ?_; rintro e9 w9 ⟨rfl, hb9⟩) | (go_at_call 36; refine (CJ.out _).mono ?_; rintro e9 w9 ⟨rfl, hb9⟩))
  go_wp2_with fail
  go_ret2
  exact ⟨HRU.out, HB1.out.trans (Below.mono (last5 ‹_ ∧ _ ∧ _ ∧ _ ∧ _ ∧ Hid _›) HB1.out.size)⟩

theorem encode_any (w : World) (P : Nat → Prop) (k : Int) (mat nm : List UInt8) (A : Option Addr) (cp : Nat) (l : List Tm) (sc pc : Int) (A1 : Option Addr) (c1 : Nat) (l1 : List Tm) (A2 : Option Addr) (c2 : Nat) (l2 : List Tm) (txt : List UInt8)
    (hsm : mat.length ≤ 9223372036854775807) (hsn : nm.length ≤ 9223372036854775807) (h : MsIn w P A1 l1 A2 l2) (hn1 : l1.length ≤ 5000) (hn2 : l2.length ≤ 5000) (ht : Tb w) (htx : txt.length ≤ 100000000) :
    Calls Tryz.prog 12 #[msgV k (bs mat) (bs nm) A l.length cp sc pc A1 l1.length c1 A2 l2.length c2 (bs txt)] w (OutB w (encV ⟨k, mat, .mk nm l, sc, pc, l1, l2, txt⟩)) := by
  by_cases hc : checkF ⟨k, mat, .mk nm l, sc, pc, l1, l2, txt⟩ = 0
  · have hk := (check_ok hc).1
    have hk : 1 ≤ k ∧ k ≤ 7 := hk
    have h7 : k = 1 ∨ k = 2 ∨ k = 3 ∨ k = 4 ∨ k = 5 ∨ k = 6 ∨ k = 7 := by omega
    rcases h7 with rfl | rfl | rfl | rfl | rfl | rfl | rfl
    · exact encode_1 w P _ _ _ _ _ _ _ _ _ _ _ _ _ _ hsm hsn h hn1 hn2 ht htx hc
    · exact encode_2 w P _ _ _ _ _ _ _ _ _ _ _ _ _ _ hsm hsn h hn1 hn2 ht hc
    · exact encode_3 w P _ _ _ _ _ _ _ _ _ _ _ _ _ _ hsm hsn h hn1 hn2 ht hc
    · exact encode_4 w P _ _ _ _ _ _ _ _ _ _ _ _ _ _ hsm hsn h hn1 hn2 ht hc
    · exact encode_5 w P _ _ _ _ _ _ _ _ _ _ _ _ _ _ hsm hsn h hn1 hn2 ht hc
    · exact encode_6 w P _ _ _ _ _ _ _ _ _ _ _ _ _ _ hsm hsn h hn1 hn2 ht hc
    · exact encode_7 w P _ _ _ _ _ _ _ _ _ _ _ _ _ _ hsm hsn h hn1 hn2 ht hc
  · exact encode_no w P k _ _ _ _ _ _ _ _ _ _ _ _ _ _ hsm hsn h hn1 hn2 ht hc

end Go.Proofs.YtmplpbdldcokjaaGreatDoor
