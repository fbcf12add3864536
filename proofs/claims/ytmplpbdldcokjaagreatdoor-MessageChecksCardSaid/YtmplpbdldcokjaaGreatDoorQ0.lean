/- The law MessageChecks. -/
import Derived.Test.YtmplpbdldcokjaaGreatDoorQt
import Derived.Test.YtmplpbdldcokjaaGreatDoorQy
import Derived.Test.YtmplpbdldcokjaaGreatDoorHd
namespace Go.Proofs.YtmplpbdldcokjaaGreatDoor
open Go Go.RowKit Go.Shelf
set_option linter.unusedSimpArgs false
set_option linter.unusedVariables false

theorem MsO.keep3 {w w' : World} {k : Int} {mat nm : List UInt8} {A : Option Addr} {cp : Nat} {l : List Tm} {A1 : Option Addr} {l1 : List Tm} {A2 : Option Addr} {l2 : List Tm} {txt : List UInt8} (h : MsO w k mat nm A cp l A1 l1 A2 l2 txt) (hb : Below w.heap.size w w') : MsO w' k mat nm A cp l A1 l1 A2 l2 txt :=
  ⟨h.mat, h.txt, h.role.keep (fun b hp hl => ⟨Nat.lt_of_lt_of_le hp hb.size, hb.block b hl⟩) hb.size, h.rb, ⟨h.ins.n1, h.ins.n2, fun _ h => h, h.ins.a1.keep keeps_tm (fun b hp hl => ⟨Nat.lt_of_lt_of_le hp hb.size, hb.block b hl⟩) hb.size, h.ins.b1, h.ins.a2.keep keeps_tm (fun b hp hl => ⟨Nat.lt_of_lt_of_le hp hb.size, hb.block b hl⟩) hb.size, h.ins.b2⟩⟩

set_option maxHeartbeats 16000000 in
set_option maxRecDepth 100000 in
theorem law_checks (w : World) (hm : Mw w) (k : Int) (mat nm : List UInt8) (A : Option Addr) (cp : Nat) (l : List Tm) (sc pc : Int) (A1 : Option Addr) (c1 : Nat) (l1 : List Tm) (A2 : Option Addr) (c2 : Nat) (l2 : List Tm) (txt : List UInt8) (h : MsO w k mat nm A cp l A1 l1 A2 l2 txt) :
    Calls Tryz.prog 5 #[msgV k (bs mat) (bs nm) A l.length cp sc pc A1 l1.length c1 A2 l2.length c2 (bs txt)] w (YesP w) := by
  have HM := Lib.hid hm
  have HO := Lib.hid h
  have HB0 := Lib.hid (one_box w (.cells #[.int .i64 k, .string (bs mat), .string (bs nm), .slice A l.length cp, .int .i64 sc, .int .i64 pc, .slice A1 l1.length c1, .slice A2 l2.length c2, .string (bs txt)] 27))
  have hmat := h.mat
  have hnm := h.nm
  clear hm h
  have CA := Lib.hid (fun (y : World) (hy : Below (w.alloc (.cells #[.int .i64 k, .string (bs mat), .string (bs nm), .slice A l.length cp, .int .i64 sc, .int .i64 pc, .slice A1 l1.length c1, .slice A2 l2.length c2, .string (bs txt)] 27)).heap.size (w.alloc (.cells #[.int .i64 k, .string (bs mat), .string (bs nm), .slice A l.length cp, .int .i64 sc, .int .i64 pc, .slice A1 l1.length c1, .slice A2 l2.length c2, .string (bs txt)] 27)) y) => awake_any y (HM.out.below (HB0.out.1.trans (hy.mono HB0.out.1.size))))
  have CS := Lib.hid (fun (y : World) (hy : Below (w.alloc (.cells #[.int .i64 k, .string (bs mat), .string (bs nm), .slice A l.length cp, .int .i64 sc, .int .i64 pc, .slice A1 l1.length c1, .slice A2 l2.length c2, .string (bs txt)] 27)).heap.size (w.alloc (.cells #[.int .i64 k, .string (bs mat), .string (bs nm), .slice A l.length cp, .int .i64 sc, .int .i64 pc, .slice A1 l1.length c1, .slice A2 l2.length c2, .string (bs txt)] 27)) y) => short_any y k mat nm A cp l sc pc A1 c1 l1 A2 c2 l2 txt (HO.out.keep3 (HB0.out.1.trans (hy.mono HB0.out.1.size))))
  have CK := Lib.hid (fun (y : World) (hy : Below (w.alloc (.cells #[.int .i64 k, .string (bs mat), .string (bs nm), .slice A l.length cp, .int .i64 sc, .int .i64 pc, .slice A1 l1.length c1, .slice A2 l2.length c2, .string (bs txt)] 27)).heap.size (w.alloc (.cells #[.int .i64 k, .string (bs mat), .string (bs nm), .slice A l.length cp, .int .i64 sc, .int .i64 pc, .slice A1 l1.length c1, .slice A2 l2.length c2, .string (bs txt)] 27)) y) => check_any y _ k (bs mat) (bs nm) A cp l sc pc A1 c1 l1 A2 c2 l2 (bs txt) (by rw [size_bs]; exact hmat) (by rw [size_bs]; exact hnm) (HO.out.keep3 (HB0.out.1.trans (hy.mono HB0.out.1.size))).ins)
  have CR := Lib.hid (fun (y : World) (hy : Below (w.alloc (.cells #[.int .i64 k, .string (bs mat), .string (bs nm), .slice A l.length cp, .int .i64 sc, .int .i64 pc, .slice A1 l1.length c1, .slice A2 l2.length c2, .string (bs txt)] 27)).heap.size (w.alloc (.cells #[.int .i64 k, .string (bs mat), .string (bs nm), .slice A l.length cp, .int .i64 sc, .int .i64 pc, .slice A1 l1.length c1, .slice A2 l2.length c2, .string (bs txt)] 27)) y) => rcheck_any y _ k (bs mat) (bs nm) A cp l sc pc A1 c1 l1 A2 c2 l2 (bs txt) (by rw [size_bs]; exact hmat) (by rw [size_bs]; exact hnm) (HO.out.keep3 (HB0.out.1.trans (hy.mono HB0.out.1.size))).ins)
  rw [toList_bs, toList_bs, toList_bs] at CK CR
  clear hmat hnm HM
  generalize checkF ⟨k, mat, .mk nm l, sc, pc, l1, l2, txt⟩ = z at *
  generalize bs mat = smat at *
  generalize bs nm = snm at *
  generalize bs txt = stxt at *
  have HX := Lib.hid HB0.out.2
  go_enter Tryz.func5, Tryz.ntmps5
  go_wp2_with fail
  generalize w.alloc (.cells #[.int .i64 k, .string smat, .string snm, .slice A l.length cp, .int .i64 sc, .int .i64 pc, .slice A1 l1.length c1, .slice A2 l2.length c2, .string stxt] 27) = w0 at *
  refine wp_region_held_drew (S := fun y => Below w0.heap.size w0 y) (by kernel_rfl) (Below.drew (Below.refl _ _)) (fun hHeld => ?_)
  refine held_take (i := 0) (by rfl) (by kernel_rfl) (by kernel_rfl) (by kernel_rfl) (by intro c a w h; exact h) (by rfl) (by intro w' hSw; have c := cell_blk ((hSw.block _ (heap_lt HX.out)).trans HX.out); have m0 := c 0; have m1 := c 1; have m2 := c 2; have m3 := c 3; have m4 := c 4; have m5 := c 5; have m6 := c 6; have m7 := c 7; have m8 := c 8; clear c; go_simp; try with_reducible rfl) hHeld ?_
  try simp only [Act.put, List.setIfInBounds_toArray, List.set_cons_zero, List.set_cons_succ]
  refine wpAnyH_ready (rs := [1]) (by kernel_rfl) (by simp) ?_
  refine held_one (by rfl) (fun K hK => ?_)
  go_simp
  refine (CS.out _ hHeld).mono ?_
  rintro e9 w9 ⟨b, rfl, hb9, -⟩
  refine hK.out _ _ (hHeld.trans (hb9.mono hHeld.size)) (fun hHeld9 => ?_)
  clear hb9
  clear hHeld hK K
  have hHeld := hHeld9
  clear hHeld9
  try simp only [Act.put, List.setIfInBounds_toArray, List.set_cons_zero, List.set_cons_succ]
  cases b
  focus
    refine held_take (i := 2) (by rfl) (by kernel_rfl) (by kernel_rfl) (by kernel_rfl) (by intro c a w h; exact h) (by rfl) (by intro w' hSw; go_simp; try with_reducible rfl) hHeld ?_
    try simp only [Act.put, List.setIfInBounds_toArray, List.set_cons_zero, List.set_cons_succ]
    refine held_take (i := 3) (by rfl) (by kernel_rfl) (by kernel_rfl) (by kernel_rfl) (by intro c a w h; exact h) (by rfl) (by intro w' hSw; go_simp; try with_reducible rfl) hHeld ?_
    try simp only [Act.put, List.setIfInBounds_toArray, List.set_cons_zero, List.set_cons_succ]
    refine wpAnyH_ready (rs := [4]) (by kernel_rfl) (by simp) ?_
    refine held_one (by rfl) (fun K hK => ?_)
    go_simp
    refine (CA.out _ hHeld).mono ?_
    rintro e9 w9 ⟨rfl, hb9⟩
    refine hK.out _ _ (hHeld.trans (hb9.mono hHeld.size)) (fun hHeld9 => ?_)
    clear hb9
    clear hHeld hK K
    have hHeld := hHeld9
    clear hHeld9
    try simp only [Act.put, List.setIfInBounds_toArray, List.set_cons_zero, List.set_cons_succ]
    refine held_take (i := 5) (by rfl) (by kernel_rfl) (by kernel_rfl) (by kernel_rfl) (by intro c a w h; exact h) (by rfl) (by intro w' hSw; go_simp; try with_reducible rfl) hHeld ?_
    try simp only [Act.put, List.setIfInBounds_toArray, List.set_cons_zero, List.set_cons_succ]
    refine held_take (i := 6) (by rfl) (by kernel_rfl) (by kernel_rfl) (by kernel_rfl) (by intro c a w h; exact h) (by rfl) (by intro w' hSw; go_simp; try with_reducible rfl) hHeld ?_
    try simp only [Act.put, List.setIfInBounds_toArray, List.set_cons_zero, List.set_cons_succ]
    refine held_skip (i := 7) (by rfl) (by kernel_rfl) (by kernel_rfl) (by kernel_rfl) (by intro c a w h; exact h) (by rfl) hHeld ?_
    try simp only [Act.put, List.setIfInBounds_toArray, List.set_cons_zero, List.set_cons_succ]
    refine held_skip (i := 8) (by rfl) (by kernel_rfl) (by kernel_rfl) (by kernel_rfl) (by intro c a w h; exact h) (by rfl) hHeld ?_
    try simp only [Act.put, List.setIfInBounds_toArray, List.set_cons_zero, List.set_cons_succ]
    refine held_skip (i := 9) (by rfl) (by kernel_rfl) (by kernel_rfl) (by kernel_rfl) (by intro c a w h; exact h) (by rfl) hHeld ?_
    try simp only [Act.put, List.setIfInBounds_toArray, List.set_cons_zero, List.set_cons_succ]
    refine held_skip (i := 10) (by rfl) (by kernel_rfl) (by kernel_rfl) (by kernel_rfl) (by intro c a w h; exact h) (by rfl) hHeld ?_
    try simp only [Act.put, List.setIfInBounds_toArray, List.set_cons_zero, List.set_cons_succ]
    refine held_skip (i := 11) (by rfl) (by kernel_rfl) (by kernel_rfl) (by kernel_rfl) (by intro c a w h; exact h) (by rfl) hHeld ?_
    try simp only [Act.put, List.setIfInBounds_toArray, List.set_cons_zero, List.set_cons_succ]
    refine held_skip (i := 12) (by rfl) (by kernel_rfl) (by kernel_rfl) (by kernel_rfl) (by intro c a w h; exact h) (by rfl) hHeld ?_
    try simp only [Act.put, List.setIfInBounds_toArray, List.set_cons_zero, List.set_cons_succ]
    refine held_skip (i := 13) (by rfl) (by kernel_rfl) (by kernel_rfl) (by kernel_rfl) (by intro c a w h; exact h) (by rfl) hHeld ?_
    try simp only [Act.put, List.setIfInBounds_toArray, List.set_cons_zero, List.set_cons_succ]
    refine held_skip (i := 14) (by rfl) (by kernel_rfl) (by kernel_rfl) (by kernel_rfl) (by intro c a w h; exact h) (by rfl) hHeld ?_
    try simp only [Act.put, List.setIfInBounds_toArray, List.set_cons_zero, List.set_cons_succ]
    refine held_skip (i := 15) (by rfl) (by kernel_rfl) (by kernel_rfl) (by kernel_rfl) (by intro c a w h; exact h) (by rfl) hHeld ?_
    try simp only [Act.put, List.setIfInBounds_toArray, List.set_cons_zero, List.set_cons_succ]
    refine held_skip (i := 16) (by rfl) (by kernel_rfl) (by kernel_rfl) (by kernel_rfl) (by intro c a w h; exact h) (by rfl) hHeld ?_
    try simp only [Act.put, List.setIfInBounds_toArray, List.set_cons_zero, List.set_cons_succ]
    refine held_skip (i := 17) (by rfl) (by kernel_rfl) (by kernel_rfl) (by kernel_rfl) (by intro c a w h; exact h) (by rfl) hHeld ?_
    try simp only [Act.put, List.setIfInBounds_toArray, List.set_cons_zero, List.set_cons_succ]
    refine held_skip (i := 18) (by rfl) (by kernel_rfl) (by kernel_rfl) (by kernel_rfl) (by intro c a w h; exact h) (by rfl) hHeld ?_
    try simp only [Act.put, List.setIfInBounds_toArray, List.set_cons_zero, List.set_cons_succ]
    refine held_skip (i := 19) (by rfl) (by kernel_rfl) (by kernel_rfl) (by kernel_rfl) (by intro c a w h; exact h) (by rfl) hHeld ?_
    try simp only [Act.put, List.setIfInBounds_toArray, List.set_cons_zero, List.set_cons_succ]
    refine held_skip (i := 20) (by rfl) (by kernel_rfl) (by kernel_rfl) (by kernel_rfl) (by intro c a w h; exact h) (by rfl) hHeld ?_
    try simp only [Act.put, List.setIfInBounds_toArray, List.set_cons_zero, List.set_cons_succ]
    refine held_skip (i := 21) (by rfl) (by kernel_rfl) (by kernel_rfl) (by kernel_rfl) (by intro c a w h; exact h) (by rfl) hHeld ?_
    try simp only [Act.put, List.setIfInBounds_toArray, List.set_cons_zero, List.set_cons_succ]
    refine held_skip (i := 22) (by rfl) (by kernel_rfl) (by kernel_rfl) (by kernel_rfl) (by intro c a w h; exact h) (by rfl) hHeld ?_
    try simp only [Act.put, List.setIfInBounds_toArray, List.set_cons_zero, List.set_cons_succ]
    refine held_skip (i := 23) (by rfl) (by kernel_rfl) (by kernel_rfl) (by kernel_rfl) (by intro c a w h; exact h) (by rfl) hHeld ?_
    try simp only [Act.put, List.setIfInBounds_toArray, List.set_cons_zero, List.set_cons_succ]
    refine held_take (i := 24) (by rfl) (by kernel_rfl) (by kernel_rfl) (by kernel_rfl) (by intro c a w h; exact h) (by rfl) (by intro w' hSw; go_simp; try with_reducible rfl) hHeld ?_
    try simp only [Act.put, List.setIfInBounds_toArray, List.set_cons_zero, List.set_cons_succ]
    refine held_take (i := 25) (by rfl) (by kernel_rfl) (by kernel_rfl) (by kernel_rfl) (by intro c a w h; exact h) (by rfl) (by intro w' hSw; go_simp; try with_reducible rfl) hHeld ?_
    try simp only [Act.put, List.setIfInBounds_toArray, List.set_cons_zero, List.set_cons_succ]
    refine wpAnyH_done (by kernel_rfl) ?_ _
    go_wp2_with fail
    go_ret
    exact ⟨rfl, HB0.out.1.trans (hHeld.mono HB0.out.1.size)⟩
  focus
    refine held_take (i := 2) (by rfl) (by kernel_rfl) (by kernel_rfl) (by kernel_rfl) (by intro c a w h; exact h) (by rfl) (by intro w' hSw; go_simp; try with_reducible rfl) hHeld ?_
    try simp only [Act.put, List.setIfInBounds_toArray, List.set_cons_zero, List.set_cons_succ]
    refine held_take (i := 3) (by rfl) (by kernel_rfl) (by kernel_rfl) (by kernel_rfl) (by intro c a w h; exact h) (by rfl) (by intro w' hSw; go_simp; try with_reducible rfl) hHeld ?_
    try simp only [Act.put, List.setIfInBounds_toArray, List.set_cons_zero, List.set_cons_succ]
    refine held_skip (i := 4) (by rfl) (by kernel_rfl) (by kernel_rfl) (by kernel_rfl) (by intro c a w h; exact h) (by rfl) hHeld ?_
    try simp only [Act.put, List.setIfInBounds_toArray, List.set_cons_zero, List.set_cons_succ]
    refine held_take (i := 5) (by rfl) (by kernel_rfl) (by kernel_rfl) (by kernel_rfl) (by intro c a w h; exact h) (by rfl) (by intro w' hSw; go_simp; try with_reducible rfl) hHeld ?_
    try simp only [Act.put, List.setIfInBounds_toArray, List.set_cons_zero, List.set_cons_succ]
    refine held_take (i := 6) (by rfl) (by kernel_rfl) (by kernel_rfl) (by kernel_rfl) (by intro c a w h; exact h) (by rfl) (by intro w' hSw; go_simp; try with_reducible rfl) hHeld ?_
    try simp only [Act.put, List.setIfInBounds_toArray, List.set_cons_zero, List.set_cons_succ]
    refine held_take (i := 7) (by rfl) (by kernel_rfl) (by kernel_rfl) (by kernel_rfl) (by intro c a w h; exact h) (by rfl) (by intro w' hSw; have c := cell_blk ((hSw.block _ (heap_lt HX.out)).trans HX.out); have m0 := c 0; have m1 := c 1; have m2 := c 2; have m3 := c 3; have m4 := c 4; have m5 := c 5; have m6 := c 6; have m7 := c 7; have m8 := c 8; clear c; go_simp; try with_reducible rfl) hHeld ?_
    try simp only [Act.put, List.setIfInBounds_toArray, List.set_cons_zero, List.set_cons_succ]
    refine held_take (i := 9) (by rfl) (by kernel_rfl) (by kernel_rfl) (by kernel_rfl) (by intro c a w h; exact h) (by rfl) (by intro w' hSw; have c := cell_blk ((hSw.block _ (heap_lt HX.out)).trans HX.out); have m0 := c 0; have m1 := c 1; have m2 := c 2; have m3 := c 3; have m4 := c 4; have m5 := c 5; have m6 := c 6; have m7 := c 7; have m8 := c 8; clear c; go_simp; try with_reducible rfl) hHeld ?_
    try simp only [Act.put, List.setIfInBounds_toArray, List.set_cons_zero, List.set_cons_succ]
    refine wpAnyH_ready (rs := [8]) (by kernel_rfl) (by simp) ?_
    refine held_one (by rfl) (fun K hK => ?_)
    go_simp
    refine (CK.out _ hHeld).mono ?_
    rintro e9 w9 ⟨rfl, hb9⟩
    refine hK.out _ _ (hHeld.trans (hb9.mono hHeld.size)) (fun hHeld9 => ?_)
    clear hb9
    clear hHeld hK K
    have hHeld := hHeld9
    clear hHeld9
    try simp only [Act.put, List.setIfInBounds_toArray, List.set_cons_zero, List.set_cons_succ]
    refine wpAnyH_ready (rs := [10]) (by kernel_rfl) (by simp) ?_
    refine held_one (by rfl) (fun K hK => ?_)
    go_simp
    refine (CR.out _ hHeld).mono ?_
    rintro e9 w9 ⟨rfl, hb9⟩
    refine hK.out _ _ (hHeld.trans (hb9.mono hHeld.size)) (fun hHeld9 => ?_)
    clear hb9
    clear hHeld hK K
    have hHeld := hHeld9
    clear hHeld9
    try simp only [Act.put, List.setIfInBounds_toArray, List.set_cons_zero, List.set_cons_succ]
    refine held_take (i := 11) (by rfl) (by kernel_rfl) (by kernel_rfl) (by kernel_rfl) (by intro c a w h; exact h) (by rfl) (by intro w' hSw; go_simp; try with_reducible rfl) hHeld ?_
    try simp only [Act.put, List.setIfInBounds_toArray, List.set_cons_zero, List.set_cons_succ]
    refine held_take (i := 12) (by rfl) (by kernel_rfl) (by kernel_rfl) (by kernel_rfl) (by intro c a w h; exact h) (by rfl) (by intro w' hSw; go_simp; try with_reducible rfl) hHeld ?_
    try simp only [Act.put, List.setIfInBounds_toArray, List.set_cons_zero, List.set_cons_succ]
    refine held_take (i := 13) (by rfl) (by kernel_rfl) (by kernel_rfl) (by kernel_rfl) (by intro c a w h; exact h) (by rfl) (by intro w' hSw; go_simp; try with_reducible rfl) hHeld ?_
    try simp only [Act.put, List.setIfInBounds_toArray, List.set_cons_zero, List.set_cons_succ]
    refine held_take (i := 14) (by rfl) (by kernel_rfl) (by kernel_rfl) (by kernel_rfl) (by intro c a w h; exact h) (by rfl) (by intro w' hSw; have c := cell_blk ((hSw.block _ (heap_lt HX.out)).trans HX.out); have m0 := c 0; have m1 := c 1; have m2 := c 2; have m3 := c 3; have m4 := c 4; have m5 := c 5; have m6 := c 6; have m7 := c 7; have m8 := c 8; clear c; go_simp; try with_reducible rfl) hHeld ?_
    try simp only [Act.put, List.setIfInBounds_toArray, List.set_cons_zero, List.set_cons_succ]
    refine held_take (i := 16) (by rfl) (by kernel_rfl) (by kernel_rfl) (by kernel_rfl) (by intro c a w h; exact h) (by rfl) (by intro w' hSw; go_simp; try with_reducible rfl) hHeld ?_
    try simp only [Act.put, List.setIfInBounds_toArray, List.set_cons_zero, List.set_cons_succ]
    refine held_take (i := 17) (by rfl) (by kernel_rfl) (by kernel_rfl) (by kernel_rfl) (by intro c a w h; exact h) (by rfl) (by intro w' hSw; have c := cell_blk ((hSw.block _ (heap_lt HX.out)).trans HX.out); have m0 := c 0; have m1 := c 1; have m2 := c 2; have m3 := c 3; have m4 := c 4; have m5 := c 5; have m6 := c 6; have m7 := c 7; have m8 := c 8; clear c; go_simp; try with_reducible rfl) hHeld ?_
    try simp only [Act.put, List.setIfInBounds_toArray, List.set_cons_zero, List.set_cons_succ]
    refine wpAnyH_ready (rs := [15]) (by kernel_rfl) (by simp) ?_
    refine held_one (by rfl) (fun K hK => ?_)
    go_simp
    refine (mreply_any _ k).mono ?_
    rintro e9 w9 ⟨rfl, rfl⟩
    refine hK.out _ _ hHeld (fun hHeld9 => ?_)
    clear hHeld hK K
    have hHeld := hHeld9
    clear hHeld9
    try simp only [Act.put, List.setIfInBounds_toArray, List.set_cons_zero, List.set_cons_succ]
    refine wpAnyH_ready (rs := [18]) (by kernel_rfl) (by simp) ?_
    refine held_one (by rfl) (fun K hK => ?_)
    go_simp
    refine (rreply_any _ k).mono ?_
    rintro e9 w9 ⟨rfl, rfl⟩
    refine hK.out _ _ hHeld (fun hHeld9 => ?_)
    clear hHeld hK K
    have hHeld := hHeld9
    clear hHeld9
    try simp only [Act.put, List.setIfInBounds_toArray, List.set_cons_zero, List.set_cons_succ]
    generalize (decide (5 ≤ k) && decide (k ≤ 7)) = r at *
    refine held_take (i := 19) (by rfl) (by kernel_rfl) (by kernel_rfl) (by kernel_rfl) (by intro c a w h; exact h) (by rfl) (by intro w' hSw; go_simp; try with_reducible rfl) hHeld ?_
    try simp only [Act.put, List.setIfInBounds_toArray, List.set_cons_zero, List.set_cons_succ]
    refine held_take (i := 20) (by rfl) (by kernel_rfl) (by kernel_rfl) (by kernel_rfl) (by intro c a w h; exact h) (by rfl) (by intro w' hSw; go_simp; try with_reducible rfl) hHeld ?_
    try simp only [Act.put, List.setIfInBounds_toArray, List.set_cons_zero, List.set_cons_succ]
    refine held_take (i := 21) (by rfl) (by kernel_rfl) (by kernel_rfl) (by kernel_rfl) (by intro c a w h; exact h) (by rfl) (by intro w' hSw; go_simp; try with_reducible rfl) hHeld ?_
    try simp only [Act.put, List.setIfInBounds_toArray, List.set_cons_zero, List.set_cons_succ]
    refine wpAnyH_ready (rs := [22]) (by kernel_rfl) (by simp) ?_
    refine held_one (by rfl) (fun K hK => ?_)
    go_simp
    refine (CA.out _ hHeld).mono ?_
    rintro e9 w9 ⟨rfl, hb9⟩
    refine hK.out _ _ (hHeld.trans (hb9.mono hHeld.size)) (fun hHeld9 => ?_)
    clear hb9
    clear hHeld hK K
    have hHeld := hHeld9
    clear hHeld9
    try simp only [Act.put, List.setIfInBounds_toArray, List.set_cons_zero, List.set_cons_succ]
    refine held_take (i := 23) (by rfl) (by kernel_rfl) (by kernel_rfl) (by kernel_rfl) (by intro c a w h; exact h) (by rfl) (by intro w' hSw; go_simp; try with_reducible rfl) hHeld ?_
    try simp only [Act.put, List.setIfInBounds_toArray, List.set_cons_zero, List.set_cons_succ]
    refine held_take (i := 24) (by rfl) (by kernel_rfl) (by kernel_rfl) (by kernel_rfl) (by intro c a w h; exact h) (by rfl) (by intro w' hSw; go_simp; try with_reducible rfl) hHeld ?_
    try simp only [Act.put, List.setIfInBounds_toArray, List.set_cons_zero, List.set_cons_succ]
    refine held_take (i := 25) (by rfl) (by kernel_rfl) (by kernel_rfl) (by kernel_rfl) (by intro c a w h; exact h) (by rfl) (by intro w' hSw; go_simp; try with_reducible rfl) hHeld ?_
    try simp only [Act.put, List.setIfInBounds_toArray, List.set_cons_zero, List.set_cons_succ]
    refine wpAnyH_done (by kernel_rfl) ?_ _
    go_wp2_with fail
    go_ret
    exact ⟨rfl, HB0.out.1.trans (hHeld.mono HB0.out.1.size)⟩
end Go.Proofs.YtmplpbdldcokjaaGreatDoor
