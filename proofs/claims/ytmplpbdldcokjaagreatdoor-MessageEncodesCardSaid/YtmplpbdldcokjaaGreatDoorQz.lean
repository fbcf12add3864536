/- The law MessageEncodes. -/
import Derived.Test.YtmplpbdldcokjaaGreatDoorQt
import Derived.Test.YtmplpbdldcokjaaGreatDoorQy
namespace Go.Proofs.YtmplpbdldcokjaaGreatDoor
open Go Go.RowKit Go.Shelf
set_option linter.unusedSimpArgs false
set_option linter.unusedVariables false

theorem MsO.keep2 {w w' : World} {k : Int} {mat nm : List UInt8} {A : Option Addr} {cp : Nat} {l : List Tm} {A1 : Option Addr} {l1 : List Tm} {A2 : Option Addr} {l2 : List Tm} {txt : List UInt8} (h : MsO w k mat nm A cp l A1 l1 A2 l2 txt) (hb : Below w.heap.size w w') : MsO w' k mat nm A cp l A1 l1 A2 l2 txt :=
  ⟨h.mat, h.txt, h.role.keep (fun b hp hl => ⟨Nat.lt_of_lt_of_le hp hb.size, hb.block b hl⟩) hb.size, h.rb, ⟨h.ins.n1, h.ins.n2, fun _ h => h, h.ins.a1.keep keeps_tm (fun b hp hl => ⟨Nat.lt_of_lt_of_le hp hb.size, hb.block b hl⟩) hb.size, h.ins.b1, h.ins.a2.keep keeps_tm (fun b hp hl => ⟨Nat.lt_of_lt_of_le hp hb.size, hb.block b hl⟩) hb.size, h.ins.b2⟩⟩

set_option maxHeartbeats 16000000 in
set_option maxRecDepth 100000 in
theorem law_encodes (w : World) (hm : Mw w) (k : Int) (mat nm : List UInt8) (A : Option Addr) (cp : Nat) (l : List Tm) (sc pc : Int) (A1 : Option Addr) (c1 : Nat) (l1 : List Tm) (A2 : Option Addr) (c2 : Nat) (l2 : List Tm) (txt : List UInt8) (h : MsO w k mat nm A cp l A1 l1 A2 l2 txt) :
    Calls Tryz.prog 6 #[msgV k (bs mat) (bs nm) A l.length cp sc pc A1 l1.length c1 A2 l2.length c2 (bs txt)] w (YesP w) := by
  have HM := Lib.hid hm
  have HO := Lib.hid h
  have CA := Lib.hid (fun (y : World) (hy : Below w.heap.size w y) => awake_any y (HM.out.below hy))
  have HB0 := Lib.hid (one_box w (.cells #[.int .i64 k, .string (bs mat), .string (bs nm), .slice A l.length cp, .int .i64 sc, .int .i64 pc, .slice A1 l1.length c1, .slice A2 l2.length c2, .string (bs txt)] 27))
  have CS := Lib.hid (short_any (w.alloc (.cells #[.int .i64 k, .string (bs mat), .string (bs nm), .slice A l.length cp, .int .i64 sc, .int .i64 pc, .slice A1 l1.length c1, .slice A2 l2.length c2, .string (bs txt)] 27)) k mat nm A cp l sc pc A1 c1 l1 A2 c2 l2 txt (h.keep2 HB0.out.1))
  have hmat := h.mat
  have hnm := h.nm
  clear hm h
  have CE := Lib.hid (fun (y : World) (hy : Below w.heap.size w y) (n1 : l1.length ≤ 20) (n2 : l2.length ≤ 20) (nt : txt.length ≤ 17000) => encode_any y _ k mat nm A cp l sc pc A1 c1 l1 A2 c2 l2 txt hmat hnm (HO.out.keep2 hy).ins (by omega) (by omega) (HM.out.below hy).tb (by omega))
  have CR := Lib.hid (fun (y : World) (hy : Below w.heap.size w y) (n1 : l1.length ≤ 20) (n2 : l2.length ≤ 20) (nt : txt.length ≤ 17000) => rencode_any y _ k mat nm A cp l sc pc A1 c1 l1 A2 c2 l2 txt hmat hnm (HO.out.keep2 hy).ins (by omega) (by omega) (HM.out.below hy).tb (by omega))
  clear hmat hnm
  unfold encV at CE CR
  generalize bs (encO ⟨k, mat, .mk nm l, sc, pc, l1, l2, txt⟩).1 = s0 at *
  generalize (encO ⟨k, mat, .mk nm l, sc, pc, l1, l2, txt⟩).2 = z0 at *
  generalize bs mat = smat at *
  generalize bs nm = snm at *
  generalize bs txt = stxt at *
  have e1 : (z0 == z0) = true := by simp
  have e2 : (s0.toList == s0.toList) = true := by simp
  go_enter Tryz.func6, Tryz.ntmps6
  go_wp2_with fail
  generalize w.alloc (.cells #[.int .i64 k, .string smat, .string snm, .slice A l.length cp, .int .i64 sc, .int .i64 pc, .slice A1 l1.length c1, .slice A2 l2.length c2, .string stxt] 27) = w0 at *
  refine CS.out.mono ?_
  rintro e w1 ⟨b, rfl, hb, hsh⟩
  have HX1 := Lib.hid ((hb.block _ (heap_lt HB0.out.2)).trans HB0.out.2)
  have HB1 := Lib.hid (HB0.out.1.trans (hb.mono HB0.out.1.size))
  clear hb
  cases b
  · go_wp2_with fail
    refine (CA.out _ HB1.out).mono ?_
    rintro e w2 ⟨rfl, hb⟩
    have HB2 := Lib.hid (HB1.out.trans (hb.mono HB1.out.size))
    clear hb
    go_wp2_with fail
    go_ret
    exact ⟨rfl, HB2.out⟩
  · obtain ⟨nt, n1, n2⟩ := hsh rfl
    have CE1 := Lib.hid (CE.out w1 HB1.out n1 n2 nt)
    have CR1 := Lib.hid (fun (y : World) (hy : Below w.heap.size w y) => CR.out y hy n1 n2 nt)
    clear hsh nt n1 n2 CE CR
    have c := cell_blk HX1.out
    have m0 := c 0; have m1 := c 1; have m2 := c 2; have m3 := c 3; have m4 := c 4; have m5 := c 5; have m6 := c 6; have m7 := c 7; have m8 := c 8
    clear c
    go_wp2_with fail
    clear m0 m1 m2 m3 m4 m5 m6 m7 m8
    refine CE1.out.mono ?_
    rintro e w2 ⟨rfl, hb⟩
    have HX2 := Lib.hid ((hb.block _ (heap_lt HX1.out)).trans HX1.out)
    have HB2 := Lib.hid (HB1.out.trans (hb.mono HB1.out.size))
    clear hb
    have c := cell_blk HX2.out
    have m0 := c 0; have m1 := c 1; have m2 := c 2; have m3 := c 3; have m4 := c 4; have m5 := c 5; have m6 := c 6; have m7 := c 7; have m8 := c 8
    clear c
    go_wp2_with fail
    clear m0 m1 m2 m3 m4 m5 m6 m7 m8
    refine (CR1.out _ HB2.out).mono ?_
    rintro e w3 ⟨rfl, hb⟩
    have HB3 := Lib.hid (HB2.out.trans (hb.mono HB2.out.size))
    clear hb
    go_wp2_with fail
    refine (CA.out _ HB3.out).mono ?_
    rintro e w4 ⟨rfl, hb⟩
    have HB4 := Lib.hid (HB3.out.trans (hb.mono HB3.out.size))
    clear hb
    go_wp2_with fail
    go_ret
    exact ⟨rfl, HB4.out⟩
end Go.Proofs.YtmplpbdldcokjaaGreatDoor
