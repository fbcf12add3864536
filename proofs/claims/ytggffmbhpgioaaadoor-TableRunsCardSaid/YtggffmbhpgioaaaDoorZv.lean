/- The walk of law31.TableTrue. -/
import Derived.Test.YtggffmbhpgioaaaDoorZu
namespace Go.Proofs.YtggffmbhpgioaaaDoor
open Go Go.RowKit Go.Shelf
set_option linter.unusedSimpArgs false

theorem bdn (w : World) (n : Nat) : Below w.heap.size w (w.drewN n) := below_dn (Below.refl _ _) n
theorem cells_far {y : World} {q g o : Nat} {u : Value} (h : y.cell? ⟨g, o, none⟩ = some u) (hn : q ≠ g) (z : Bd) : ((((y.setCell ⟨q, 0, none⟩ (.int .i64 z.a)).setCell ⟨q, 1, none⟩ (.int .i64 z.b)).setCell ⟨q, 2, none⟩ (.int .i64 z.c)).setCell ⟨q, 3, none⟩ (.int .i64 z.e)).cell? ⟨g, o, none⟩ = some u := by
  have hg := grown_storeB y q z
  exact hg.cell h (by simp; omega)

set_option maxHeartbeats 16000000 in
set_option maxRecDepth 100000 in
theorem law_true_yes (w : World) (A : Option Addr) (ca n : Nat) (l : List Op1) (n0 : 0 < n) (n1 : n ≤ 4096) (hs : shortB l = true) (ha : OpS w A l) (ht : Tb w) :
    Calls Tryd.prog 4 #[.int .i64 n, .slice A l.length ca] w (OutB w (.bool true)) := by
  have HTB := Lib.hid ht
  have HO := Lib.hid ha
  have HS := Lib.hid (short_keys hs)
  have hl80 : l.length ≤ 80 := HS.out.2
  have CN := Lib.hid (new_any w n n0 n1)
  have CS := Lib.hid (fun (y : World) (hb : Below w.heap.size w y) => short_any y A ca l (by omega) (ha.below hb (Nat.le_refl _)))
  rw [hs] at CS
  clear ht ha hs n0 n1
  go_enter Tryd.func4, Tryd.ntmps4
  go_wp2_with fail
  refine CN.out.mono ?_
  rintro e0 w1 ⟨bt, bs, rfl, ht, hlo, hls, hb⟩
  have HA := Lib.hid (show LS w w1 bt bs n (List.replicate (2 * n) en0) 0 0 from ⟨ht, hb, hlo, hls⟩)
  clear ht hb hlo hls CN
  go_wp2_with fail
  refine (CS.out _ HA.out.below).mono ?_
  rintro e0 w2 ⟨rfl, rfl⟩
  clear CS
  go_wp2_with fail
  go_loopg [7] l.length (fun q i wr => ∃ (k : Nat) (T : List En) (h m : Int), k + q = l.length ∧ i = .int .i64 k ∧ 0 ≤ h ∧ h ≤ k ∧ 0 ≤ m ∧ m ≤ k ∧ Hid (LS w wr bt bs n T h m ∧ InvT T (l.take k)))
  case atStart => exact ⟨0, _, 0, 0, by omega, rfl, by omega, by omega, by omega, by omega, HA.out, by rw [List.take_zero]; exact invT_rep _⟩
  case round =>
    clear HA
    obtain ⟨k, T, h, m, hkq, rfl, h0, h1, m0, m1, HI⟩ := hrel
    by_cases hlk : k < l.length
    rotate_left
    · obtain rfl : k = l.length := by omega
      go_wp2_with fail
      refine (awake_any _ (HTB.out.below HI.out.1.below)).mono ?_
      rintro e0 wz ⟨rfl, hb⟩
      have HBz := Lib.hid (HI.out.1.below.trans (hb.mono HI.out.1.below.size))
      clear hb
      go_wp2_with fail
      go_ret
      exact ⟨rfl, HBz.out⟩
    obtain ⟨x, hx⟩ : ∃ x, l[k]? = some x := ⟨_, List.getElem?_eq_getElem hlk⟩
    obtain ⟨ob, oo, rfl, hob, hc⟩ := HO.out (by omega)
    have HX := Lib.hid hx
    have hks := HS.out.1 x (List.mem_of_getElem? hx)
    obtain ⟨o0, o1, o2, o3, o4, o5, o6⟩ := (hc k x hx).below HI.out.1.below hob
    have HCC := Lib.hid hc
    clear hx hc
    have hlt1 := HI.out.1.lt
    have hlt2 := HI.out.1.ls
    have hob1 : ob ≠ bt := by omega
    have hob2 : ob ≠ bs := by omega
    clear hlt1 hlt2
    by_cases hk0 : x.kind = 0
    focus
      -- Put
      have d0 : (x.kind == 0) = true := by simpa using hk0
      have o3' : wr.cell? ⟨ob, oo + k * 7 + 3 + 1, none⟩ = some (.int .i64 x.b.b) := o4
      have o4' : wr.cell? ⟨ob, oo + k * 7 + 3 + 2, none⟩ = some (.int .i64 x.b.c) := o5
      have o5' : wr.cell? ⟨ob, oo + k * 7 + 3 + 3, none⟩ = some (.int .i64 x.b.e) := o6
      have HK0 := Lib.hid hk0
      clear hk0 o4 o5 o6
      have HL := Lib.hid HI.out.1.drew
      have CP := Lib.hid (fun (y : World) (t : TabM y bt bs n T h m) => put_any y t x.key (by omega) x.d x.b.a x.b.b x.b.c x.b.e)
      go_wp2_with fail
      refine region_tail 16 (by kernel_rfl) (by kernel_rfl) ?_
      simp only [List.take_succ_cons, List.take_zero, List.drop_succ_cons, List.drop_zero]
      repeat still_step
      refine wpStill_nil ?_
      generalize wr.drew = wd at *
      go_wp2_with fail
      refine (CP.out _ HL.out.tab).mono ?_
      rintro e9 w9 ⟨rfl, ht9, hg9⟩
      have HN := Lib.hid (show LS w w9 bt bs n _ h m ∧ InvT _ (l.take (k + 1)) from ⟨HL.out.put ht9 hg9, by
        have h2 := HI.out.2.put (slotI x.key n) x HK0.out
        obtain ⟨a1, a2⟩ := List.getElem?_eq_some_iff.1 HX.out
        rw [List.take_succ_eq_append_getElem a1, a2]
        exact h2⟩)
      clear ht9 hg9 CP o0 o1 o2 o3 o3' o4' o5'
      go_wp2_with fail
      go_roundg (l.length - (k + 1))
      case measure => omega
      case rel => exact ⟨k + 1, _, h, m, by omega, by go_num, by omega, by omega, by omega, by omega, HN.out⟩
    -- Get
    have d0 : (x.kind == 0) = false := by simpa using hk0
    clear hk0
    obtain ⟨r, hr⟩ : ∃ r, getF T (slotI x.key n) x.key x.d = r := ⟨_, rfl⟩
    obtain ⟨z, hz⟩ : ∃ z, r.getD bd0 = z := ⟨_, rfl⟩
    obtain ⟨s, hsm⟩ : ∃ s, r.isSome = s := ⟨_, rfl⟩
    have HR := Lib.hid (And.intro hr (And.intro hz hsm))
    have CG := Lib.hid (fun (y : World) (t : TabM y bt bs n T h m) => get_law y t x.key hks x.d h0 (by omega) m0 (by omega) hr hz hsm)
    clear hr hz hsm
    have HL := Lib.hid HI.out.1
    go_upto_region 9 with (fail)
    go_cut [8, 9] (fun s8 s9 wx => ∃ q, s8 = .pointer (some ⟨q, 0, none⟩) ∧ s9 = .bool s ∧ GS w wx bt bs n T (if s then h + 1 else h) (if s then m else m + 1) q z)
    case first =>

      refine wp_region_held_drew (S := fun y => y.cell? ⟨ob, oo + k * 7 + 1, none⟩ = some (.string x.key) ∧ y.cell? ⟨ob, oo + k * 7 + 2, none⟩ = some (.int .i64 x.d)) (by kernel_rfl) ⟨o1, o2⟩ (fun hHeld => ?_)
      have HL9 := Lib.hid HL.out.drew
      generalize wr.drew = wd at *
      refine held_take (i := 0) (by rfl) (by kernel_rfl) (by kernel_rfl) (by kernel_rfl) (by intro c a w h; exact h) (by rfl) (by intro w' hSw; obtain ⟨s1, s2⟩ := hSw; go_simp; try with_reducible rfl) hHeld ?_
      try simp only [Act.put, List.setIfInBounds_toArray, List.set_cons_zero, List.set_cons_succ]
      refine held_take (i := 1) (by rfl) (by kernel_rfl) (by kernel_rfl) (by kernel_rfl) (by intro c a w h; exact h) (by rfl) (by intro w' hSw; obtain ⟨s1, s2⟩ := hSw; go_simp; try with_reducible rfl) hHeld ?_
      try simp only [Act.put, List.setIfInBounds_toArray, List.set_cons_zero, List.set_cons_succ]
      refine held_take (i := 2) (by rfl) (by kernel_rfl) (by kernel_rfl) (by kernel_rfl) (by intro c a w h; exact h) (by rfl) (by intro w' hSw; obtain ⟨s1, s2⟩ := hSw; go_simp; try with_reducible rfl) hHeld ?_
      try simp only [Act.put, List.setIfInBounds_toArray, List.set_cons_zero, List.set_cons_succ]
      refine held_take (i := 3) (by rfl) (by kernel_rfl) (by kernel_rfl) (by kernel_rfl) (by intro c a w h; exact h) (by rfl) (by intro w' hSw; obtain ⟨s1, s2⟩ := hSw; go_simp; try with_reducible rfl) hHeld ?_
      try simp only [Act.put, List.setIfInBounds_toArray, List.set_cons_zero, List.set_cons_succ]
      refine held_take (i := 4) (by rfl) (by kernel_rfl) (by kernel_rfl) (by kernel_rfl) (by intro c a w h; exact h) (by rfl) (by intro w' hSw; obtain ⟨s1, s2⟩ := hSw; go_simp; try with_reducible rfl) hHeld ?_
      try simp only [Act.put, List.setIfInBounds_toArray, List.set_cons_zero, List.set_cons_succ]
      refine held_take (i := 5) (by rfl) (by kernel_rfl) (by kernel_rfl) (by kernel_rfl) (by intro c a w h; exact h) (by rfl) (by intro w' hSw; obtain ⟨s1, s2⟩ := hSw; go_simp; try with_reducible rfl) hHeld ?_
      try simp only [Act.put, List.setIfInBounds_toArray, List.set_cons_zero, List.set_cons_succ]
      refine held_take (i := 6) (by rfl) (by kernel_rfl) (by kernel_rfl) (by kernel_rfl) (by intro c a w h; exact h) (by rfl) (by intro w' hSw; obtain ⟨s1, s2⟩ := hSw; go_simp; try with_reducible rfl) hHeld ?_
      try simp only [Act.put, List.setIfInBounds_toArray, List.set_cons_zero, List.set_cons_succ]
      refine held_take (i := 7) (by rfl) (by kernel_rfl) (by kernel_rfl) (by kernel_rfl) (by intro c a w h; exact h) (by rfl) (by intro w' hSw; obtain ⟨s1, s2⟩ := hSw; go_simp; try with_reducible rfl) hHeld ?_
      try simp only [Act.put, List.setIfInBounds_toArray, List.set_cons_zero, List.set_cons_succ]
      refine held_take (i := 8) (by rfl) (by kernel_rfl) (by kernel_rfl) (by kernel_rfl) (by intro c a w h; exact h) (by rfl) (by intro w' hSw; obtain ⟨s1, s2⟩ := hSw; go_simp; try with_reducible rfl) hHeld ?_
      try simp only [Act.put, List.setIfInBounds_toArray, List.set_cons_zero, List.set_cons_succ]
      refine held_take (i := 9) (by rfl) (by kernel_rfl) (by kernel_rfl) (by kernel_rfl) (by intro c a w h; exact h) (by rfl) (by intro w' hSw; obtain ⟨s1, s2⟩ := hSw; go_simp; try with_reducible rfl) hHeld ?_
      try simp only [Act.put, List.setIfInBounds_toArray, List.set_cons_zero, List.set_cons_succ]
      refine held_take (i := 10) (by rfl) (by kernel_rfl) (by kernel_rfl) (by kernel_rfl) (by intro c a w h; exact h) (by rfl) (by intro w' hSw; obtain ⟨s1, s2⟩ := hSw; go_simp; try with_reducible rfl) hHeld ?_
      try simp only [Act.put, List.setIfInBounds_toArray, List.set_cons_zero, List.set_cons_succ]
      refine wpAnyH_ready (rs := [11, 15]) (by kernel_rfl) (by simp) ?_
      refine held_two (by rfl) (by rfl) (fun K hK => ?_) (fun K hK => ?_)
      focus
        go_simp
        refine (CG.out _ HL9.out.tab).mono ?_
        rintro e9 w9 ⟨rfl, ht9, hg9⟩
        have HL8 := Lib.hid (HL9.out.get ht9 hg9)
        refine hK.out _ _ ⟨cell_grown hg9 hHeld.1 hob1, cell_grown hg9 hHeld.2 hob1⟩ (fun hHeld9 => ?_)
        clear hHeld hK K ht9 hg9
        have hHeld := hHeld9
        clear hHeld9
        try simp only [Act.put, List.setIfInBounds_toArray, List.set_cons_zero, List.set_cons_succ]
        refine held_take (i := 12) (by rfl) (by kernel_rfl) (by kernel_rfl) (by kernel_rfl) (by intro c a w h; exact h) (by rfl) (by intro w' hSw; obtain ⟨s1, s2⟩ := hSw; go_simp; try with_reducible rfl) hHeld ?_
        try simp only [Act.put, List.setIfInBounds_toArray, List.set_cons_zero, List.set_cons_succ]
        refine held_take (i := 13) (by rfl) (by kernel_rfl) (by kernel_rfl) (by kernel_rfl) (by intro c a w h; exact h) (by rfl) (by intro w' hSw; obtain ⟨s1, s2⟩ := hSw; go_simp; try with_reducible rfl) hHeld ?_
        try simp only [Act.put, List.setIfInBounds_toArray, List.set_cons_zero, List.set_cons_succ]
        refine held_take (i := 14) (by rfl) (by kernel_rfl) (by kernel_rfl) (by kernel_rfl) (by intro c a w h; exact h) (by rfl) (by intro w' hSw; obtain ⟨s1, s2⟩ := hSw; go_simp; try with_reducible rfl) hHeld ?_
        try simp only [Act.put, List.setIfInBounds_toArray, List.set_cons_zero, List.set_cons_succ]
        have hHeld0 := hHeld
        refine wpAnyH_ready (rs := [15]) (by kernel_rfl) (by simp) ?_
        refine held_one (by rfl) (fun K hK => ?_)
        go_simp
        refine hK.out _ _ (⟨(World.cell?_alloc_lt _ _ _ (World.block_lt_of_cell? _ _ hHeld.1)).trans hHeld.1, (World.cell?_alloc_lt _ _ _ (World.block_lt_of_cell? _ _ hHeld.2)).trans hHeld.2⟩) (fun hHeld9 => ?_)
        clear hK K
        have hHeld := hHeld9
        clear hHeld9
        try simp only [Act.put, List.setIfInBounds_toArray, List.set_cons_zero, List.set_cons_succ]
        refine wpAnyH_ready (rs := [16]) (by kernel_rfl) (by simp) ?_
        refine held_one (by rfl) (fun K hK => ?_)
        go_simp
        refine hK.out _ _ (⟨(World.cell?_alloc_lt w9 (.cells #[.int .i64 z.a, .int .i64 z.b, .int .i64 z.c, .int .i64 z.e] 37) _ (World.block_lt_of_cell? w9 _ hHeld0.1)).trans hHeld0.1, (World.cell?_alloc_lt w9 (.cells #[.int .i64 z.a, .int .i64 z.b, .int .i64 z.c, .int .i64 z.e] 37) _ (World.block_lt_of_cell? w9 _ hHeld0.2)).trans hHeld0.2⟩) (fun hHeld9 => ?_)
        clear hK K
        have hHeld := hHeld9
        clear hHeld9
        try simp only [Act.put, List.setIfInBounds_toArray, List.set_cons_zero, List.set_cons_succ]
        refine held_take (i := 17) (by rfl) (by kernel_rfl) (by kernel_rfl) (by kernel_rfl) (by intro c a w h; exact h) (by rfl) (by intro w' hSw; obtain ⟨s1, s2⟩ := hSw; go_simp; try with_reducible rfl) hHeld ?_
        try simp only [Act.put, List.setIfInBounds_toArray, List.set_cons_zero, List.set_cons_succ]
        refine wpAnyH_done (by kernel_rfl) ?_ _
        go_wp2_with fail
        go_meet
        exact ⟨_, rfl, rfl, GS.after HL8.out z⟩
      focus
        go_simp
        have HN := Lib.hid (one_new wd (.cells #[.int .i64 0, .int .i64 0, .int .i64 0, .int .i64 0] 37))
        refine hK.out _ _ ⟨(World.cell?_alloc_lt wd (.cells #[.int .i64 0, .int .i64 0, .int .i64 0, .int .i64 0] 37) _ (World.block_lt_of_cell? wd _ hHeld.1)).trans hHeld.1, (World.cell?_alloc_lt wd (.cells #[.int .i64 0, .int .i64 0, .int .i64 0, .int .i64 0] 37) _ (World.block_lt_of_cell? wd _ hHeld.2)).trans hHeld.2⟩ (fun hHeld9 => ?_)
        clear hHeld hK K
        have hHeld := hHeld9
        clear hHeld9
        try simp only [Act.put, List.setIfInBounds_toArray, List.set_cons_zero, List.set_cons_succ]
        have hqob : wd.heap.size ≠ ob := by have := HL9.out.below.size; omega
        have HL7 := Lib.hid (HL9.out.keep HN.out.1)
        have hq1 : wd.heap.size ≠ bt := by have := HL9.out.tab.lt; omega
        have hq2 : wd.heap.size ≠ bs := by have := HL9.out.tab.lt; omega
        have hq3 : w.heap.size ≤ wd.heap.size := HL9.out.below.size
        generalize wd.alloc (.cells #[.int .i64 0, .int .i64 0, .int .i64 0, .int .i64 0] 37) = we at *
        generalize wd.heap.size = q at *
        refine wpAnyH_ready (rs := [11]) (by kernel_rfl) (by simp) ?_
        refine held_one (by rfl) (fun K hK => ?_)
        go_simp
        refine (CG.out _ HL7.out.tab).mono ?_
        rintro e9 w9 ⟨rfl, ht9, hg9⟩
        have HL8 := Lib.hid (HL7.out.get ht9 hg9)
        have HQ := Lib.hid ((hg9.block _ (Array.getElem?_eq_some_iff.1 HN.out.2).1 (by simpa using hq1)).trans HN.out.2)
        refine hK.out _ _ ⟨cell_grown hg9 hHeld.1 hob1, cell_grown hg9 hHeld.2 hob1⟩ (fun hHeld9 => ?_)
        clear hHeld hK K ht9 hg9
        have hHeld := hHeld9
        clear hHeld9
        try simp only [Act.put, List.setIfInBounds_toArray, List.set_cons_zero, List.set_cons_succ]
        refine held_take (i := 12) (by rfl) (by kernel_rfl) (by kernel_rfl) (by kernel_rfl) (by intro c a w h; exact h) (by rfl) (by intro w' hSw; obtain ⟨s1, s2⟩ := hSw; go_simp; try with_reducible rfl) hHeld ?_
        try simp only [Act.put, List.setIfInBounds_toArray, List.set_cons_zero, List.set_cons_succ]
        refine held_take (i := 13) (by rfl) (by kernel_rfl) (by kernel_rfl) (by kernel_rfl) (by intro c a w h; exact h) (by rfl) (by intro w' hSw; obtain ⟨s1, s2⟩ := hSw; go_simp; try with_reducible rfl) hHeld ?_
        try simp only [Act.put, List.setIfInBounds_toArray, List.set_cons_zero, List.set_cons_succ]
        refine held_take (i := 14) (by rfl) (by kernel_rfl) (by kernel_rfl) (by kernel_rfl) (by intro c a w h; exact h) (by rfl) (by intro w' hSw; obtain ⟨s1, s2⟩ := hSw; go_simp; try with_reducible rfl) hHeld ?_
        try simp only [Act.put, List.setIfInBounds_toArray, List.set_cons_zero, List.set_cons_succ]
        have HG := Lib.hid (GS.ahead HL8.out HQ.out hq1 hq2 hq3 z)
        have c0 := cell_blk HQ.out 0
        have c1 := cell_blk HQ.out 1
        have c2 := cell_blk HQ.out 2
        have c3 := cell_blk HQ.out 3
        have fq : ∀ o, w9.frozen? ⟨q, o, none⟩ = false := fun o => free_blk HQ.out o
        have hqo : q ≠ ob := hqob
        refine wpAnyH_ready (rs := [16]) (by kernel_rfl) (by simp) ?_
        refine held_one (by rfl) (fun K hK => ?_)
        go_simp
        refine hK.out _ _ ⟨?_, ?_⟩ (fun hHeld9 => ?_)
        · exact cells_far hHeld.1 hqo z
        · exact cells_far hHeld.2 hqo z
        clear hHeld hK K c0 c1 c2 c3 fq
        have hHeld := hHeld9
        clear hHeld9
        try simp only [Act.put, List.setIfInBounds_toArray, List.set_cons_zero, List.set_cons_succ]
        refine held_take (i := 17) (by rfl) (by kernel_rfl) (by kernel_rfl) (by kernel_rfl) (by intro c a w h; exact h) (by rfl) (by intro w' hSw; obtain ⟨s1, s2⟩ := hSw; go_simp; try with_reducible rfl) hHeld ?_
        try simp only [Act.put, List.setIfInBounds_toArray, List.set_cons_zero, List.set_cons_succ]
        refine wpAnyH_done (by kernel_rfl) ?_ _
        go_wp2_with fail
        go_meet
        exact ⟨_, rfl, rfl, HG.out⟩
    case rest =>
      obtain ⟨q, rfl, rfl, hG⟩ := hcut
      have HG := Lib.hid hG
      clear hG CG HL
      go_wp2_with fail
      obtain ⟨wo, rfl⟩ : ∃ wo : World, wo = wr := ⟨_, rfl⟩
      go_loopg [10, 11] k (fun q2 p i wy => ∃ (j : Nat) (pb : Bool), j + q2 = k ∧ i = .int .i64 j ∧ p = .bool pb ∧ Hid ((l.take j).any (matchB x.key x.d z) = pb ∧ GS w wy bt bs n T (if s then h + 1 else h) (if s then m else m + 1) q z))
      case atStart => exact ⟨0, false, by omega, rfl, rfl, by simp, HG.out⟩
      case round =>
        obtain ⟨j, pb, hjq, rfl, rfl, HJ⟩ := hrel
        clear HG
        by_cases hjk : j < k
        rotate_left
        · obtain rfl : j = k := by omega
          have HN1 := Lib.hid (show LS w wr bt bs n T (if s then h + 1 else h) (if s then m else m + 1) ∧ InvT T (l.take (j + 1)) from ⟨HJ.out.2.ls, by
            obtain ⟨a1, a2⟩ := List.getElem?_eq_some_iff.1 HX.out
            rw [List.take_succ_eq_append_getElem a1]
            exact fun i e he hu => (HI.out.2 i e he hu).mono _⟩)
          have q0 := cell_blk HJ.out.2.blk 0
          have q1 := cell_blk HJ.out.2.blk 1
          have q2 := cell_blk HJ.out.2.blk 2
          have q3 := cell_blk HJ.out.2.blk 3
          clear o0 o1 o2 o3 o4 o5 o6
          obtain ⟨za, zb, zc, ze⟩ := z
          simp only at q0 q1 q2 q3
          cases hrr : r with
          | some zz =>
            have hss : s = true := by have := HR.out.2.2; rw [hrr] at this; exact this.symm
            have hpb : pb = true := by
              have hzz : (⟨za, zb, zc, ze⟩ : Bd) = zz := by have := HR.out.2.1; rw [hrr] at this; exact this.symm
              rw [← HJ.out.1, hzz]
              exact HI.out.2.get (HR.out.1.trans hrr)
            clear hrr HR HJ
            subst hss
            subst hpb
            go_wp2_with fail
            go_roundg (l.length - (j + 1))
            case measure => omega
            case rel => exact ⟨j + 1, T, h + 1, m, by omega, by go_num, by omega, by omega, by omega, by omega, HN1.out⟩
          | none =>
            have hzz : (⟨za, zb, zc, ze⟩ : Bd) = bd0 := by have := HR.out.2.1; rw [hrr] at this; exact this.symm
            have hss : s = false := by have := HR.out.2.2; rw [hrr] at this; exact this.symm
            unfold bd0 at hzz
            injection hzz with z1 z2 z3 z4
            clear hrr HR HJ
            subst hss
            subst z1
            subst z2
            subst z3
            subst z4
            go_wp2_with fail
            go_roundg (l.length - (j + 1))
            case measure => omega
            case rel => exact ⟨j + 1, T, h, m + 1, by omega, by go_num, by omega, by omega, by omega, by omega, HN1.out⟩
        obtain ⟨y, hy⟩ : ∃ y, l[j]? = some y := ⟨_, List.getElem?_eq_getElem (by omega)⟩
        have HAY := Lib.hid (any_snoc (matchB x.key x.d z) hy)
        have hbw := HJ.out.2.ls.below
        obtain ⟨e0, e1, e2, e3, e4, e5, e6⟩ := (HCC.out j y hy).below hbw hob
        have HBX := Lib.hid (one_new wr (.cells #[.int .i64 y.kind, .string y.key, .int .i64 y.d, .int .i64 y.b.a, .int .i64 y.b.b, .int .i64 y.b.c, .int .i64 y.b.e] 39))
        have HG2 := Lib.hid (HJ.out.2.keep HBX.out.1)
        have HJ1 := Lib.hid HJ.out.1
        clear HJ hy hbw o0 o1 o2 o3 o4 o5 o6
        go_upto_region 15 with (fail)
        clear e0 e1 e2 e3 e4 e5 e6
        generalize wr.alloc (.cells #[.int .i64 y.kind, .string y.key, .int .i64 y.d, .int .i64 y.b.a, .int .i64 y.b.b, .int .i64 y.b.c, .int .i64 y.b.e] 39) = w3 at *
        have hbw := HG2.out.ls.below
        obtain ⟨-, o1, o2, -, -, -, -⟩ := (HCC.out k x HX.out).below hbw hob
        have e0 := cell_blk HBX.out.2 0
        have e1 := cell_blk HBX.out.2 1
        have e2 := cell_blk HBX.out.2 2
        have e3 := cell_blk HBX.out.2 3
        have e4 := cell_blk HBX.out.2 4
        have e5 := cell_blk HBX.out.2 5
        have e6 := cell_blk HBX.out.2 6
        have p0 := cell_blk HG2.out.blk 0
        have p1 := cell_blk HG2.out.blk 1
        have p2 := cell_blk HG2.out.blk 2
        have p3 := cell_blk HG2.out.blk 3
        have HGD := Lib.hid (fun m => HG2.out.keep (bdn w3 m))
        clear hbw HBX HG2
        generalize wr.heap.size = g2 at *
        obtain ⟨yk, ykey, yd, ⟨ya, yb, yc, ye⟩⟩ := y
        obtain ⟨za, zb, zc, ze⟩ := z
        simp only at e0 e1 e2 e3 e4 e5 e6 p0 p1 p2 p3 HAY
        cases pb
        rotate_left
        focus
          go_quiet (fail)
          go_wp2_with fail
          go_roundg (k - (j + 1))
          case measure => omega
          case rel => exact ⟨j + 1, true, by omega, by go_num, rfl, by rw [HAY.out, HJ1.out]; simp [matchB, *], HGD.out _⟩
        by_cases k0 : (yk == 0) = true
        rotate_left
        focus
          have k0 : (yk == 0) = false := by simpa using k0
          go_quiet (fail)
          go_wp2_with fail
          go_roundg (k - (j + 1))
          case measure => omega
          case rel => exact ⟨j + 1, false, by omega, by go_num, rfl, by rw [HAY.out, HJ1.out]; simp [matchB, *], HGD.out _⟩
        by_cases k1 : (ykey.toList == x.key.toList) = true
        rotate_left
        focus
          have k1 : (ykey.toList == x.key.toList) = false := by simpa using k1
          go_quiet (fail)
          go_wp2_with fail
          go_roundg (k - (j + 1))
          case measure => omega
          case rel => exact ⟨j + 1, false, by omega, by go_num, rfl, by rw [HAY.out, HJ1.out]; simp [matchB, *], HGD.out _⟩
        by_cases b0 : ya = za
        rotate_left
        focus
          have b0 : (ya == za) = false := by simpa using b0
          go_quiet (fail)
          go_wp2_with fail
          go_roundg (k - (j + 1))
          case measure => omega
          case rel => exact ⟨j + 1, false, by omega, by go_num, rfl, by rw [HAY.out, HJ1.out]; simp [matchB, *], HGD.out _⟩
        subst b0
        by_cases b1 : yb = zb
        rotate_left
        focus
          have b1 : (yb == zb) = false := by simpa using b1
          go_quiet (fail)
          go_wp2_with fail
          go_roundg (k - (j + 1))
          case measure => omega
          case rel => exact ⟨j + 1, false, by omega, by go_num, rfl, by rw [HAY.out, HJ1.out]; simp [matchB, *], HGD.out _⟩
        subst b1
        by_cases b2 : yc = zc
        rotate_left
        focus
          have b2 : (yc == zc) = false := by simpa using b2
          go_quiet (fail)
          go_wp2_with fail
          go_roundg (k - (j + 1))
          case measure => omega
          case rel => exact ⟨j + 1, false, by omega, by go_num, rfl, by rw [HAY.out, HJ1.out]; simp [matchB, *], HGD.out _⟩
        subst b2
        by_cases b3 : ye = ze
        rotate_left
        focus
          have b3 : (ye == ze) = false := by simpa using b3
          go_quiet (fail)
          go_wp2_with fail
          go_roundg (k - (j + 1))
          case measure => omega
          case rel => exact ⟨j + 1, false, by omega, by go_num, rfl, by rw [HAY.out, HJ1.out]; simp [matchB, *], HGD.out _⟩
        subst b3
        by_cases k2 : (yd == x.d) = true
        focus
          go_quiet (fail)
          go_wp2_with fail
          go_roundg (k - (j + 1))
          case measure => omega
          case rel => exact ⟨j + 1, true, by omega, by go_num, rfl, by rw [HAY.out, HJ1.out]; simp [matchB, *], HGD.out _⟩
        have k2 : (yd == x.d) = false := by simpa using k2
        by_cases c0 : (ya == yc) = true
        rotate_left
        focus
          have c0 : (ya == yc) = false := by simpa using c0
          go_quiet (fail)
          go_wp2_with fail
          go_roundg (k - (j + 1))
          case measure => omega
          case rel => exact ⟨j + 1, false, by omega, by go_num, rfl, by rw [HAY.out, HJ1.out]; simp [matchB, *], HGD.out _⟩
        by_cases c1 : (yb == ye) = true
        rotate_left
        focus
          have c1 : (yb == ye) = false := by simpa using c1
          go_quiet (fail)
          go_wp2_with fail
          go_roundg (k - (j + 1))
          case measure => omega
          case rel => exact ⟨j + 1, false, by omega, by go_num, rfl, by rw [HAY.out, HJ1.out]; simp [matchB, *], HGD.out _⟩
        by_cases k3 : yd ≤ x.d
        focus
          have k3' : decide (yd ≤ x.d) = true := by simpa using k3
          go_quiet (fail)
          go_wp2_with fail
          go_roundg (k - (j + 1))
          case measure => omega
          case rel => exact ⟨j + 1, true, by omega, by go_num, rfl, by rw [HAY.out, HJ1.out]; simp [matchB, *], HGD.out _⟩
        have k3' : decide (yd ≤ x.d) = false := by simpa using k3
        go_quiet (fail)
        go_wp2_with fail
        go_roundg (k - (j + 1))
        case measure => omega
        case rel => exact ⟨j + 1, false, by omega, by go_num, rfl, by rw [HAY.out, HJ1.out]; simp [matchB, *], HGD.out _⟩
end Go.Proofs.YtggffmbhpgioaaaDoor
