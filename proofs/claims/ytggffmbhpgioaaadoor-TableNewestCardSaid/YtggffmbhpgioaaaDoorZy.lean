/- The walk of law31.TableNewest. -/
import Derived.Test.YtggffmbhpgioaaaDoorZx
import Derived.Test.YtggffmbhpgioaaaDoorZv
import Derived.Test.YtggffmbhpgioaaaDoorZs
namespace Go.Proofs.YtggffmbhpgioaaaDoor
open Go Go.RowKit Go.Shelf
set_option linter.unusedSimpArgs false

set_option maxHeartbeats 16000000 in
set_option maxRecDepth 100000 in
theorem law_newest_yes (w : World) (A : Option Addr) (ca n : Nat) (l : List Op1) (n0 : 0 < n) (n1 : n ≤ 4096) (hs : shortB l = true) (ha : OpS w A l) (ht : Tb w) :
    Calls Tryd.prog 7 #[.int .i64 n, .slice A l.length ca] w (OutB w (.bool true)) := by
  have HTB := Lib.hid ht
  have HO := Lib.hid ha
  have HS := Lib.hid (short_keys hs)
  have hl80 : l.length ≤ 80 := HS.out.2
  have CN := Lib.hid (new_any w n n0 n1)
  have CS := Lib.hid (fun (y : World) (hb : Below w.heap.size w y) => short_any y A ca l (by omega) (ha.below hb (Nat.le_refl _)))
  rw [hs] at CS
  clear ht ha hs
  go_enter Tryd.func7, Tryd.ntmps7
  go_wp2_with fail
  refine CN.out.mono ?_
  rintro e0 w1 ⟨bt, bs, rfl, ht, hlo, hls, hb⟩
  have HA := Lib.hid (show LS w w1 bt bs n (List.replicate (2 * n) en0) 0 0 from ⟨ht, hb, hlo, hls⟩)
  clear ht hb hlo hls CN
  go_wp2_with fail
  refine (CS.out _ HA.out.below).mono ?_
  rintro e0 w2 ⟨rfl, rfl⟩
  clear CS
  go_wp2_with fail
  go_loopg [7, 8] l.length (fun q c i wr => ∃ (k cc : Nat) (T : List En) (h m : Int), k + q = l.length ∧ i = .int .i64 k ∧ cc ≤ k ∧ c = .int .i64 cc ∧ 0 ≤ h ∧ h ≤ k ∧ 0 ≤ m ∧ m ≤ k ∧ Hid (LS w wr bt bs n T h m ∧ InvN n T (l.take k) cc))
  case atStart => exact ⟨0, 0, _, 0, 0, by omega, rfl, by omega, rfl, by omega, by omega, by omega, by omega, HA.out, by rw [List.take_zero]; exact invN_rep _⟩
  case round =>
    clear HA
    obtain ⟨k, cc, T, h, m, hkq, rfl, hck, rfl, h0, h1, m0, m1, HI⟩ := hrel
    by_cases hlk : k < l.length
    rotate_left
    · obtain rfl : k = l.length := by omega
      go_wp2_with fail
      refine (clear_any wr HI.out.1.tab).mono ?_
      rintro e0 w3 ⟨rfl, ht, hg⟩
      have HL := Lib.hid (HI.out.1.put ht hg)
      have CL := Lib.hid (len_any w3 ht)
      rw [len_rep] at CL
      clear ht hg HI
      go_wp2_with fail
      refine CL.out.mono ?_
      rintro e0 w4 ⟨rfl, hb⟩
      have HB := Lib.hid (HL.out.keep hb).below
      clear hb CL HL
      go_wp2_with fail
      refine (awake_any _ (HTB.out.below HB.out)).mono ?_
      rintro e0 wz ⟨rfl, hb⟩
      have HBz := Lib.hid (HB.out.trans (hb.mono HB.out.size))
      clear hb
      go_wp2_with fail
      go_ret
      exact ⟨rfl, HBz.out⟩
    obtain ⟨x, hx⟩ : ∃ x, l[k]? = some x := ⟨_, List.getElem?_eq_getElem hlk⟩
    obtain ⟨ob, oo, rfl, hob, hc⟩ := HO.out (by omega)
    have HX := Lib.hid hx
    have hks := HS.out.1 x (List.mem_of_getElem? hx)
    have HCC := Lib.hid hc
    clear hx hc
    go_wp2_with fail
    obtain ⟨wo, hwo⟩ : ∃ wo : World, wo = wr := ⟨_, rfl⟩
    have HWO := Lib.hid hwo
    clear hwo
    go_loopg [9, 10] k (fun q2 p i wy => ∃ (j : Nat) (pb : Bool), j + q2 = k ∧ i = .int .i64 j ∧ p = .bool pb ∧ Hid ((l.take j).any (seenB x.key) = pb ∧ LS w wy bt bs n T h m))
    case atStart => exact ⟨0, false, by omega, rfl, rfl, by simp, HI.out.1⟩
    case round =>
      obtain ⟨j, pb, hjq, rfl, rfl, HJ⟩ := hrel
      by_cases hjk : j < k
      focus
        obtain ⟨y, hy⟩ : ∃ y, l[j]? = some y := ⟨_, List.getElem?_eq_getElem (by omega)⟩
        have HAY := Lib.hid (any_snoc (seenB x.key) hy)
        have hbw := HJ.out.2.below
        obtain ⟨-, e1, -, -, -, -, -⟩ := (HCC.out j y hy).below hbw hob
        obtain ⟨-, o1, -, -, -, -, -⟩ := (HCC.out k x HX.out).below hbw hob
        have HJ1 := Lib.hid HJ.out.1
        have HGD := Lib.hid (fun m => HJ.out.2.keep (bdn wr m))
        clear HJ hy hbw
        cases pb
        rotate_left
        focus
          go_wp2_with fail
          go_quiet (fail)
          go_wp2_with fail
          go_roundg (k - (j + 1))
          case measure => omega
          case rel => exact ⟨j + 1, true, by omega, by go_num, rfl, by rw [HAY.out, HJ1.out]; simp [seenB, *], HGD.out _⟩
        by_cases k1 : (y.key.toList == x.key.toList) = true
        focus
          go_wp2_with fail
          go_quiet (fail)
          go_wp2_with fail
          go_roundg (k - (j + 1))
          case measure => omega
          case rel => exact ⟨j + 1, true, by omega, by go_num, rfl, by rw [HAY.out, HJ1.out]; simp [seenB, *], HGD.out _⟩
        have k1 : (y.key.toList == x.key.toList) = false := by simpa using k1
        go_wp2_with fail
        go_quiet (fail)
        go_wp2_with fail
        go_roundg (k - (j + 1))
        case measure => omega
        case rel => exact ⟨j + 1, false, by omega, by go_num, rfl, by rw [HAY.out, HJ1.out]; simp [seenB, *], HGD.out _⟩
      obtain rfl : j = k := by omega
      have HJ1 := Lib.hid HJ.out.1
      have HJ2 := Lib.hid HJ.out.2
      have hbw := HJ.out.2.below
      obtain ⟨o0, o1, o2, o3, o4, o5, o6⟩ := (HCC.out j x HX.out).below hbw hob
      have hlt1 := HJ.out.2.lt
      have hlt2 := HJ.out.2.ls
      have hob1 : ob ≠ bt := by omega
      have hob2 : ob ≠ bs := by omega
      clear hlt1 hlt2 hbw HJ
      have o3' : wr.cell? ⟨ob, oo + j * 7 + 3 + 1, none⟩ = some (.int .i64 x.b.b) := o4
      have o4' : wr.cell? ⟨ob, oo + j * 7 + 3 + 2, none⟩ = some (.int .i64 x.b.c) := o5
      have o5' : wr.cell? ⟨ob, oo + j * 7 + 3 + 3, none⟩ = some (.int .i64 x.b.e) := o6
      clear o4 o5 o6
      have HL := Lib.hid HJ2.out.drew
      have CP := Lib.hid (fun (y : World) (t : TabM y bt bs n T h m) => put_any y t x.key (by omega) x.d x.b.a x.b.b x.b.c x.b.e)
      go_wp2_with fail
      refine region_tail 16 (by kernel_rfl) (by kernel_rfl) ?_
      simp only [List.take_succ_cons, List.take_zero, List.drop_succ_cons, List.drop_zero]
      repeat still_step
      refine wpStill_nil ?_
      generalize wr.drew = wd at *
      go_wp2_with fail
      refine (CP.out _ HL.out.tab).mono ?_
      rintro e9 w9 ⟨rfl, ht9, hg9⟩
      replace HL := Lib.hid (show LS w w9 bt bs n _ h m from HL.out.put ht9 hg9)
      clear ht9 hg9 CP o0 o1 o2 o3 o3' o4' o5' HJ2
      have HT1 : Hid (l.take (j + 1) = l.take j ++ [x]) := by
        obtain ⟨a1, a2⟩ := List.getElem?_eq_some_iff.1 HX.out
        unfold Hid
        rw [List.take_succ_eq_append_getElem a1, a2]
      cases pb
      rotate_left
      focus
        -- the key was put before
        have HN := Lib.hid (HI.out.2.same n0 x HJ1.out)
        rw [← HT1.out] at HN
        have hr1 := HN.out.room.1
        have hr2 := HN.out.room.2
        generalize putF T (slotI x.key n) ⟨true, x.key, x.d, ⟨x.b.a, x.b.b, x.b.c, x.b.e⟩⟩ = T' at *
        have CL := Lib.hid (fun (y : World) (t : TabM y bt bs n T' h m) => len_any y t)
        generalize lenF T' = ll at *
        go_wp2_with fail
        refine (CL.out _ HL.out.tab).mono ?_
        rintro e9 wa ⟨rfl, hb⟩
        replace HL := Lib.hid (HL.out.keep hb)
        clear hb
        have d1 : ¬ (2 * (n : Int) < (ll : Int)) := by omega
        have d2 : ¬ ((cc : Int) < (ll : Int)) := by omega
        go_wp2_with fail
        refine (CL.out _ HL.out.tab).mono ?_
        rintro e9 wb ⟨rfl, hb⟩
        replace HL := Lib.hid (HL.out.keep hb)
        clear hb CL
        go_wp2_with fail
        go_roundg (l.length - (j + 1))
        case measure => omega
        case rel => exact ⟨j + 1, cc, T', h, m, by omega, by go_num, by omega, rfl, by omega, by omega, by omega, by omega, HL.out, HN.out⟩
      -- a new key
      have HN := Lib.hid (HI.out.2.new n0 x HJ1.out)
      have hfd := HI.out.2.found n0 x HJ1.out
      rw [← HT1.out] at HN
      have hr1 := HN.out.room.1
      have hr2 := HN.out.room.2
      have HRT : Hid ((⟨x.b.a, x.b.b, x.b.c, x.b.e⟩ : Bd) = x.b) := rfl
      generalize hT' : putF T (slotI x.key n) ⟨true, x.key, x.d, x.b⟩ = T' at *
      have HL0 : Hid (LS w w9 bt bs n T' h m) := HL.out
      have HT2 := Lib.hid hT'
      clear hT' HL
      have HL := HL0
      clear HL0
      have hks2 : x.key.size ≤ 60 := hks
      obtain ⟨z, hz⟩ : ∃ z, z = x.b := ⟨_, rfl⟩
      have HZ := Lib.hid hz
      have CG := Lib.hid (fun (y : World) (t : TabM y bt bs n T' h m) => get_law y t x.key hks x.d h0 (by omega) m0 (by omega) hfd (z := z) (by rw [hz]; rfl) (s := true) rfl)
      clear hz hfd
      have CL := Lib.hid (fun (y : World) (t : TabM y bt bs n T' (h + 1) m) => len_any y t)
      generalize lenF T' = ll at *
      have hbw := HL.out.below
      obtain ⟨-, o1, o2, -, -, -, -⟩ := (HCC.out j x HX.out).below hbw hob
      clear hbw
      obtain ⟨k, hkj⟩ : ∃ k, k = j := ⟨_, rfl⟩
      subst hkj
      go_upto_region 16 with (fail)
      go_cut [11, 12] (fun s8 s9 wx => ∃ q, s8 = .pointer (some ⟨q, 0, none⟩) ∧ s9 = .bool true ∧ GS w wx bt bs n T' (h + 1) m q z)
      case first =>
        refine wp_region_held_drew (S := fun y => y.cell? ⟨ob, oo + k * 7 + 1, none⟩ = some (.string x.key) ∧ y.cell? ⟨ob, oo + k * 7 + 2, none⟩ = some (.int .i64 x.d)) (by kernel_rfl) ⟨o1, o2⟩ (fun hHeld => ?_)
        have HL9 := Lib.hid HL.out.drew
        generalize w9.drew = wd at *
        refine held_take (i := 0) (by rfl) (by kernel_rfl) (by kernel_rfl) (by kernel_rfl) (by intro c a w h; exact h) (by rfl) (by intro w' hSw; obtain ⟨s1, s2⟩ := hSw; go_simp; try with_reducible rfl) hHeld ?_
        try simp only [Act.put, List.setIfInBounds_toArray, List.set_cons_zero, List.set_cons_succ]
        refine held_take (i := 1) (by rfl) (by kernel_rfl) (by kernel_rfl) (by kernel_rfl) (by intro c a w h; exact h) (by rfl) (by intro w' hSw; obtain ⟨s1, s2⟩ := hSw; go_simp; try with_reducible rfl) hHeld ?_
        try simp only [Act.put, List.setIfInBounds_toArray, List.set_cons_zero, List.set_cons_succ]
        refine held_take (i := 2) (by rfl) (by kernel_rfl) (by kernel_rfl) (by kernel_rfl) (by intro c a w h; exact h) (by rfl) (by intro w' hSw; obtain ⟨s1, s2⟩ := hSw; go_simp; try with_reducible rfl) hHeld ?_
        try simp only [Act.put, List.setIfInBounds_toArray, List.set_cons_zero, List.set_cons_succ]
        refine held_take (i := 3) (by rfl) (by kernel_rfl) (by kernel_rfl) (by kernel_rfl) (by intro c a w h; exact h) (by rfl) (by intro w' hSw; obtain ⟨s1, s2⟩ := hSw; go_simp; try with_reducible rfl) hHeld ?_
        try simp only [Act.put, List.setIfInBounds_toArray, List.set_cons_zero, List.set_cons_succ]
        refine held_take (i := 4) (by rfl) (by kernel_rfl) (by kernel_rfl) (by kernel_rfl) (by intro c a w h; exact h) (by rfl) (by intro w' hSw; obtain ⟨s1, s2⟩ := hSw; go_simp; try with_reducible rfl) hHeld ?_
        try simp only [Act.put, List.setIfInBounds_toArray, List.set_cons_zero, List.set_cons_succ]
        refine held_take (i := 5) (by rfl) (by kernel_rfl) (by kernel_rfl) (by kernel_rfl) (by intro c a w h; exact h) (by rfl) (by intro w' hSw; obtain ⟨s1, s2⟩ := hSw; go_simp; try with_reducible rfl) hHeld ?_
        try simp only [Act.put, List.setIfInBounds_toArray, List.set_cons_zero, List.set_cons_succ]
        refine held_take (i := 6) (by rfl) (by kernel_rfl) (by kernel_rfl) (by kernel_rfl) (by intro c a w h; exact h) (by rfl) (by intro w' hSw; obtain ⟨s1, s2⟩ := hSw; go_simp; try with_reducible rfl) hHeld ?_
        try simp only [Act.put, List.setIfInBounds_toArray, List.set_cons_zero, List.set_cons_succ]
        refine held_take (i := 7) (by rfl) (by kernel_rfl) (by kernel_rfl) (by kernel_rfl) (by intro c a w h; exact h) (by rfl) (by intro w' hSw; obtain ⟨s1, s2⟩ := hSw; go_simp; try with_reducible rfl) hHeld ?_
        try simp only [Act.put, List.setIfInBounds_toArray, List.set_cons_zero, List.set_cons_succ]
        refine held_take (i := 8) (by rfl) (by kernel_rfl) (by kernel_rfl) (by kernel_rfl) (by intro c a w h; exact h) (by rfl) (by intro w' hSw; obtain ⟨s1, s2⟩ := hSw; go_simp; try with_reducible rfl) hHeld ?_
        try simp only [Act.put, List.setIfInBounds_toArray, List.set_cons_zero, List.set_cons_succ]
        refine held_take (i := 9) (by rfl) (by kernel_rfl) (by kernel_rfl) (by kernel_rfl) (by intro c a w h; exact h) (by rfl) (by intro w' hSw; obtain ⟨s1, s2⟩ := hSw; go_simp; try with_reducible rfl) hHeld ?_
        try simp only [Act.put, List.setIfInBounds_toArray, List.set_cons_zero, List.set_cons_succ]
        refine held_take (i := 10) (by rfl) (by kernel_rfl) (by kernel_rfl) (by kernel_rfl) (by intro c a w h; exact h) (by rfl) (by intro w' hSw; obtain ⟨s1, s2⟩ := hSw; go_simp; try with_reducible rfl) hHeld ?_
        try simp only [Act.put, List.setIfInBounds_toArray, List.set_cons_zero, List.set_cons_succ]
        refine wpAnyH_ready (rs := [11, 15]) (by kernel_rfl) (by simp) ?_
        refine held_two (by rfl) (by rfl) (fun K hK => ?_) (fun K hK => ?_)
        focus
          go_simp
          refine (CG.out _ HL9.out.tab).mono ?_
          rintro e9 w9 ⟨rfl, ht9, hg9⟩
          have HL8 := Lib.hid (HL9.out.get ht9 hg9)
          refine hK.out _ _ ⟨cell_grown hg9 hHeld.1 hob1, cell_grown hg9 hHeld.2 hob1⟩ (fun hHeld9 => ?_)
          clear hHeld hK K ht9 hg9
          have hHeld := hHeld9
          clear hHeld9
          try simp only [Act.put, List.setIfInBounds_toArray, List.set_cons_zero, List.set_cons_succ]
          refine held_take (i := 12) (by rfl) (by kernel_rfl) (by kernel_rfl) (by kernel_rfl) (by intro c a w h; exact h) (by rfl) (by intro w' hSw; obtain ⟨s1, s2⟩ := hSw; go_simp; try with_reducible rfl) hHeld ?_
          try simp only [Act.put, List.setIfInBounds_toArray, List.set_cons_zero, List.set_cons_succ]
          refine held_take (i := 13) (by rfl) (by kernel_rfl) (by kernel_rfl) (by kernel_rfl) (by intro c a w h; exact h) (by rfl) (by intro w' hSw; obtain ⟨s1, s2⟩ := hSw; go_simp; try with_reducible rfl) hHeld ?_
          try simp only [Act.put, List.setIfInBounds_toArray, List.set_cons_zero, List.set_cons_succ]
          refine held_take (i := 14) (by rfl) (by kernel_rfl) (by kernel_rfl) (by kernel_rfl) (by intro c a w h; exact h) (by rfl) (by intro w' hSw; obtain ⟨s1, s2⟩ := hSw; go_simp; try with_reducible rfl) hHeld ?_
          try simp only [Act.put, List.setIfInBounds_toArray, List.set_cons_zero, List.set_cons_succ]
          have hHeld0 := hHeld
          refine wpAnyH_ready (rs := [15]) (by kernel_rfl) (by simp) ?_
          refine held_one (by rfl) (fun K hK => ?_)
          go_simp
          refine hK.out _ _ (⟨(World.cell?_alloc_lt _ _ _ (World.block_lt_of_cell? _ _ hHeld.1)).trans hHeld.1, (World.cell?_alloc_lt _ _ _ (World.block_lt_of_cell? _ _ hHeld.2)).trans hHeld.2⟩) (fun hHeld9 => ?_)
          clear hK K
          have hHeld := hHeld9
          clear hHeld9
          try simp only [Act.put, List.setIfInBounds_toArray, List.set_cons_zero, List.set_cons_succ]
          refine wpAnyH_ready (rs := [16]) (by kernel_rfl) (by simp) ?_
          refine held_one (by rfl) (fun K hK => ?_)
          go_simp
          refine hK.out _ _ (⟨(World.cell?_alloc_lt w9 (.cells #[.int .i64 z.a, .int .i64 z.b, .int .i64 z.c, .int .i64 z.e] 37) _ (World.block_lt_of_cell? w9 _ hHeld0.1)).trans hHeld0.1, (World.cell?_alloc_lt w9 (.cells #[.int .i64 z.a, .int .i64 z.b, .int .i64 z.c, .int .i64 z.e] 37) _ (World.block_lt_of_cell? w9 _ hHeld0.2)).trans hHeld0.2⟩) (fun hHeld9 => ?_)
          clear hK K
          have hHeld := hHeld9
          clear hHeld9
          try simp only [Act.put, List.setIfInBounds_toArray, List.set_cons_zero, List.set_cons_succ]
          refine held_take (i := 17) (by rfl) (by kernel_rfl) (by kernel_rfl) (by kernel_rfl) (by intro c a w h; exact h) (by rfl) (by intro w' hSw; obtain ⟨s1, s2⟩ := hSw; go_simp; try with_reducible rfl) hHeld ?_
          try simp only [Act.put, List.setIfInBounds_toArray, List.set_cons_zero, List.set_cons_succ]
          refine wpAnyH_done (by kernel_rfl) ?_ _
          go_wp2_with fail
          go_meet
          exact ⟨_, rfl, rfl, GS.after HL8.out z⟩
        focus
          go_simp
          have HN := Lib.hid (one_new wd (.cells #[.int .i64 0, .int .i64 0, .int .i64 0, .int .i64 0] 37))
          refine hK.out _ _ ⟨(World.cell?_alloc_lt wd (.cells #[.int .i64 0, .int .i64 0, .int .i64 0, .int .i64 0] 37) _ (World.block_lt_of_cell? wd _ hHeld.1)).trans hHeld.1, (World.cell?_alloc_lt wd (.cells #[.int .i64 0, .int .i64 0, .int .i64 0, .int .i64 0] 37) _ (World.block_lt_of_cell? wd _ hHeld.2)).trans hHeld.2⟩ (fun hHeld9 => ?_)
          clear hHeld hK K
          have hHeld := hHeld9
          clear hHeld9
          try simp only [Act.put, List.setIfInBounds_toArray, List.set_cons_zero, List.set_cons_succ]
          have hqob : wd.heap.size ≠ ob := by have := HL9.out.below.size; omega
          have HL7 := Lib.hid (HL9.out.keep HN.out.1)
          have hq1 : wd.heap.size ≠ bt := by have := HL9.out.tab.lt; omega
          have hq2 : wd.heap.size ≠ bs := by have := HL9.out.tab.lt; omega
          have hq3 : w.heap.size ≤ wd.heap.size := HL9.out.below.size
          generalize wd.alloc (.cells #[.int .i64 0, .int .i64 0, .int .i64 0, .int .i64 0] 37) = we at *
          generalize wd.heap.size = q at *
          refine wpAnyH_ready (rs := [11]) (by kernel_rfl) (by simp) ?_
          refine held_one (by rfl) (fun K hK => ?_)
          go_simp
          refine (CG.out _ HL7.out.tab).mono ?_
          rintro e9 w9 ⟨rfl, ht9, hg9⟩
          have HL8 := Lib.hid (HL7.out.get ht9 hg9)
          have HQ := Lib.hid ((hg9.block _ (Array.getElem?_eq_some_iff.1 HN.out.2).1 (by simpa using hq1)).trans HN.out.2)
          refine hK.out _ _ ⟨cell_grown hg9 hHeld.1 hob1, cell_grown hg9 hHeld.2 hob1⟩ (fun hHeld9 => ?_)
          clear hHeld hK K ht9 hg9
          have hHeld := hHeld9
          clear hHeld9
          try simp only [Act.put, List.setIfInBounds_toArray, List.set_cons_zero, List.set_cons_succ]
          refine held_take (i := 12) (by rfl) (by kernel_rfl) (by kernel_rfl) (by kernel_rfl) (by intro c a w h; exact h) (by rfl) (by intro w' hSw; obtain ⟨s1, s2⟩ := hSw; go_simp; try with_reducible rfl) hHeld ?_
          try simp only [Act.put, List.setIfInBounds_toArray, List.set_cons_zero, List.set_cons_succ]
          refine held_take (i := 13) (by rfl) (by kernel_rfl) (by kernel_rfl) (by kernel_rfl) (by intro c a w h; exact h) (by rfl) (by intro w' hSw; obtain ⟨s1, s2⟩ := hSw; go_simp; try with_reducible rfl) hHeld ?_
          try simp only [Act.put, List.setIfInBounds_toArray, List.set_cons_zero, List.set_cons_succ]
          refine held_take (i := 14) (by rfl) (by kernel_rfl) (by kernel_rfl) (by kernel_rfl) (by intro c a w h; exact h) (by rfl) (by intro w' hSw; obtain ⟨s1, s2⟩ := hSw; go_simp; try with_reducible rfl) hHeld ?_
          try simp only [Act.put, List.setIfInBounds_toArray, List.set_cons_zero, List.set_cons_succ]
          have HG := Lib.hid (GS.ahead HL8.out HQ.out hq1 hq2 hq3 z)
          have c0 := cell_blk HQ.out 0
          have c1 := cell_blk HQ.out 1
          have c2 := cell_blk HQ.out 2
          have c3 := cell_blk HQ.out 3
          have fq : ∀ o, w9.frozen? ⟨q, o, none⟩ = false := fun o => free_blk HQ.out o
          have hqo : q ≠ ob := hqob
          refine wpAnyH_ready (rs := [16]) (by kernel_rfl) (by simp) ?_
          refine held_one (by rfl) (fun K hK => ?_)
          go_simp
          refine hK.out _ _ ⟨?_, ?_⟩ (fun hHeld9 => ?_)
          · exact cells_far hHeld.1 hqo z
          · exact cells_far hHeld.2 hqo z
          clear hHeld hK K c0 c1 c2 c3 fq
          have hHeld := hHeld9
          clear hHeld9
          try simp only [Act.put, List.setIfInBounds_toArray, List.set_cons_zero, List.set_cons_succ]
          refine held_take (i := 17) (by rfl) (by kernel_rfl) (by kernel_rfl) (by kernel_rfl) (by intro c a w h; exact h) (by rfl) (by intro w' hSw; obtain ⟨s1, s2⟩ := hSw; go_simp; try with_reducible rfl) hHeld ?_
          try simp only [Act.put, List.setIfInBounds_toArray, List.set_cons_zero, List.set_cons_succ]
          refine wpAnyH_done (by kernel_rfl) ?_ _
          go_wp2_with fail
          go_meet
          exact ⟨_, rfl, rfl, HG.out⟩
      case rest =>
        obtain ⟨q, rfl, rfl, hG⟩ := hcut
        have hbw := hG.ls.below
        obtain ⟨-, -, -, o3, o4, o5, o6⟩ := (HCC.out k x HX.out).below hbw hob
        have o3' : wc.cell? ⟨ob, oo + k * 7 + 3 + 1, none⟩ = some (.int .i64 x.b.b) := o4
        have o4' : wc.cell? ⟨ob, oo + k * 7 + 3 + 2, none⟩ = some (.int .i64 x.b.c) := o5
        have o5' : wc.cell? ⟨ob, oo + k * 7 + 3 + 3, none⟩ = some (.int .i64 x.b.e) := o6
        have p0 := cell_blk hG.blk 0
        have p1 := cell_blk hG.blk 1
        have p2 := cell_blk hG.blk 2
        have p3 := cell_blk hG.blk 3
        rw [HZ.out] at p0 p1 p2 p3
        have HGD := Lib.hid (fun m => hG.ls.keep (bdn wc m))
        clear hG hbw o4 o5 o6
        go_wp2_with fail
        go_quiet (fail)
        clear o3 o3' o4' o5' p0 p1 p2 p3
        go_wp2_with fail
        refine (CL.out _ (HGD.out _).tab).mono ?_
        rintro e9 wa ⟨rfl, hb⟩
        have HL := Lib.hid ((HGD.out _).keep hb)
        clear hb HGD
        have d1 : ¬ (2 * (n : Int) < (ll : Int)) := by omega
        have d2 : ¬ ((cc : Int) + 1 < (ll : Int)) := by omega
        go_wp2_with fail
        refine (CL.out _ HL.out.tab).mono ?_
        rintro e9 wb ⟨rfl, hb⟩
        replace HL := Lib.hid (HL.out.keep hb)
        clear hb CL
        go_wp2_with fail
        go_roundg (l.length - (k + 1))
        case measure => omega
        case rel => exact ⟨k + 1, cc + 1, T', h + 1, m, by omega, by go_num, by omega, by go_num, by omega, by omega, by omega, by omega, HL.out, HN.out⟩
end Go.Proofs.YtggffmbhpgioaaaDoor
