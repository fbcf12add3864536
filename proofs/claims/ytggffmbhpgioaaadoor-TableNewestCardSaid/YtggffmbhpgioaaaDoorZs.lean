/- The walk of law31.TableNews. -/
import Derived.Test.YtggffmbhpgioaaaDoorZo
import Derived.Test.YtggffmbhpgioaaaDoorZr
namespace Go.Proofs.YtggffmbhpgioaaaDoor
open Go Go.RowKit Go.Shelf
set_option linter.unusedSimpArgs false

theorem len_rep (n : Nat) : lenF (List.replicate n en0) = 0 := by
  unfold lenF
  rw [List.countP_eq_zero]
  intro a ha
  rw [List.eq_of_mem_replicate ha]
  simp [en0]
/-- the block of a table that New did not make -/
def Raw (y : World) (r : Nat) : Prop := y.heap[r]? = some (.cells #[.slice none 0 0, .int .i64 0, .int .i64 0] 51 (0, 0))
theorem Raw.below {y y' : World} {r : Nat} (h : Raw y r) (hb : Below y.heap.size y y') : Raw y' r := (hb.block _ (Array.getElem?_eq_some_iff.1 h).1).trans h
theorem Raw.right {y : World} {r : Nat} (h : Raw y r) : ∀ w', Below y.heap.size y w' → Calls Tryd.prog 30 #[.pointer (some ⟨r, 0, none⟩)] w' (OutS w' (.bool false)) := fun w' hb => right_raw w' r (cell_blk (h.below hb) 0)
theorem nil_right (y : World) : ∀ w', Below y.heap.size y w' → Calls Tryd.prog 30 #[.pointer none] w' (OutS w' (.bool false)) := fun w' _ => right_nil w'

set_option maxHeartbeats 8000000 in
set_option maxRecDepth 100000 in
theorem law_news_yes (w : World) (n : Nat) (h0 : 0 < n) (h1 : n ≤ 4096) (ht : Tb w) : Calls Tryd.prog 5 #[.int .i64 n] w (OutB w (.bool true)) := by
  have HTB := Lib.hid ht
  clear ht
  have CN := Lib.hid (new_any w n h0 h1)
  have CR := Lib.hid (fun w => rnew_any w (fun _ => True) (fun _ _ => trivial) n h0 h1)
  clear h0 h1
  go_enter Tryd.func5, Tryd.ntmps5
  go_wp2_with fail
  refine CN.out.mono ?_
  rintro e0 w1 ⟨bt, bs, rfl, ht, hlo, hls, hb⟩
  have HA := Lib.hid (show TabM w1 bt bs n (List.replicate (2 * n) en0) 0 0 from ht)
  have HB1 := Lib.hid hb
  clear ht hb hlo hls CN
  go_wp2_with fail
  refine (CR.out _).mono ?_
  rintro e0 w2 ⟨RA, RB, rfl, -, -, hb⟩
  replace HA := Lib.hid (HA.out.below hb)
  have HB2 := Lib.hid (HB1.out.trans (hb.mono HB1.out.size))
  clear hb CR HB1
  go_wp2_with fail
  have HW := Lib.hid (two_new w2 (.cells #[.slice RA n n, .slice RB n n, .int .i64 0, .int .i64 0] 46) (.cells #[.slice none 0 0, .int .i64 0, .int .i64 0] 51))
  generalize (w2.alloc (.cells #[.slice RA n n, .slice RB n n, .int .i64 0, .int .i64 0] 46)).alloc (.cells #[.slice none 0 0, .int .i64 0, .int .i64 0] 51) = w3 at *
  have HR := Lib.hid (show Raw w3 (w2.heap.size + 1) from HW.out.2.2)
  have HB3 := Lib.hid (HB2.out.trans (HW.out.1.mono HB2.out.size))
  replace HA := Lib.hid (HA.out.below HW.out.1)
  clear HB2 HW
  generalize w2.heap.size + 1 = r at *
  generalize w2.heap.size = r2 at *
  refine (bounds_any w3 1 1).mono ?_
  rintro e0 w4 ⟨rfl, hb⟩
  replace HA := Lib.hid (HA.out.below hb)
  replace HR := Lib.hid (HR.out.below hb)
  have HB4 := Lib.hid (HB3.out.trans (hb.mono HB3.out.size))
  clear hb HB3
  go_wp2_with fail
  refine (put_not w4 none (nil_right _) ⟨#[97]⟩ 1 1 1 1 1).mono ?_
  rintro e0 w5 ⟨rfl, hb⟩
  replace HA := Lib.hid (HA.out.below hb)
  replace HR := Lib.hid (HR.out.below hb)
  have HB5 := Lib.hid (HB4.out.trans (hb.mono HB4.out.size))
  clear hb HB4
  go_wp2_with fail
  refine (bounds_any w5 1 1).mono ?_
  rintro e0 w6 ⟨rfl, hb⟩
  replace HA := Lib.hid (HA.out.below hb)
  replace HR := Lib.hid (HR.out.below hb)
  have HB6 := Lib.hid (HB5.out.trans (hb.mono HB5.out.size))
  clear hb HB5
  go_wp2_with fail
  refine (put_not w6 (some ⟨r, 0, none⟩) HR.out.right ⟨#[97]⟩ 1 1 1 1 1).mono ?_
  rintro e0 w7 ⟨rfl, hb⟩
  replace HA := Lib.hid (HA.out.below hb)
  replace HR := Lib.hid (HR.out.below hb)
  have HB7 := Lib.hid (HB6.out.trans (hb.mono HB6.out.size))
  clear hb HB6
  go_wp2_with fail
  refine (clear_not w7 none (nil_right _)).mono ?_
  rintro e0 w8 ⟨rfl, hb⟩
  replace HA := Lib.hid (HA.out.below hb)
  replace HR := Lib.hid (HR.out.below hb)
  have HB8 := Lib.hid (HB7.out.trans (hb.mono HB7.out.size))
  clear hb HB7
  go_wp2_with fail
  refine (clear_not w8 (some ⟨r, 0, none⟩) HR.out.right).mono ?_
  rintro e0 w9 ⟨rfl, hb⟩
  replace HA := Lib.hid (HA.out.below hb)
  replace HR := Lib.hid (HR.out.below hb)
  have HB9 := Lib.hid (HB8.out.trans (hb.mono HB8.out.size))
  clear hb HB8
  go_wp2_with fail
  refine (get_not w9 none (nil_right _) ⟨#[97]⟩ 1).mono ?_
  rintro e0 w10 ⟨rfl, hb⟩
  replace HA := Lib.hid (HA.out.below hb)
  replace HR := Lib.hid (HR.out.below hb)
  have HB10 := Lib.hid (HB9.out.trans (hb.mono HB9.out.size))
  clear hb HB9
  go_wp2_with fail
  have HW := Lib.hid (one_new w10 (.cells #[.int .i64 0, .int .i64 0, .int .i64 0, .int .i64 0] 37))
  generalize w10.alloc (.cells #[.int .i64 0, .int .i64 0, .int .i64 0, .int .i64 0] 37) = w11 at *
  replace HR := Lib.hid (HR.out.below HW.out.1)
  replace HA := Lib.hid (HA.out.below HW.out.1)
  have HB11 := Lib.hid (HB10.out.trans (HW.out.1.mono HB10.out.size))
  clear HW HB10
  generalize w10.heap.size = qa at *
  refine (get_not w11 (some ⟨r, 0, none⟩) HR.out.right ⟨#[97]⟩ 1).mono ?_
  rintro e0 w12 ⟨rfl, hb⟩
  replace HA := Lib.hid (HA.out.below hb)
  replace HR := Lib.hid (HR.out.below hb)
  have HB12 := Lib.hid (HB11.out.trans (hb.mono HB11.out.size))
  clear hb HB11
  go_wp2_with fail
  have HW := Lib.hid (one_new w12 (.cells #[.int .i64 0, .int .i64 0, .int .i64 0, .int .i64 0] 37))
  generalize w12.alloc (.cells #[.int .i64 0, .int .i64 0, .int .i64 0, .int .i64 0] 37) = w13 at *
  replace HR := Lib.hid (HR.out.below HW.out.1)
  replace HA := Lib.hid (HA.out.below HW.out.1)
  have HB13 := Lib.hid (HB12.out.trans (HW.out.1.mono HB12.out.size))
  clear HW HB12
  generalize w12.heap.size = qb at *
  refine (hits_not w13 none (right_nil _)).mono ?_
  rintro e0 w14 ⟨rfl, hb⟩
  replace HA := Lib.hid (HA.out.below hb)
  replace HR := Lib.hid (HR.out.below hb)
  have HB14 := Lib.hid (HB13.out.trans (hb.mono HB13.out.size))
  clear hb HB13
  go_wp2_with fail
  refine (hits_not w14 (some ⟨r, 0, none⟩) (HR.out.right _ (Below.refl _ _))).mono ?_
  rintro e0 w15 ⟨rfl, hb⟩
  replace HA := Lib.hid (HA.out.below hb)
  replace HR := Lib.hid (HR.out.below hb)
  have HB15 := Lib.hid (HB14.out.trans (hb.mono HB14.out.size))
  clear hb HB14
  go_wp2_with fail
  refine (len_not w15 none (nil_right _)).mono ?_
  rintro e0 w16 ⟨rfl, hb⟩
  replace HA := Lib.hid (HA.out.below hb)
  replace HR := Lib.hid (HR.out.below hb)
  have HB16 := Lib.hid (HB15.out.trans (hb.mono HB15.out.size))
  clear hb HB15
  go_wp2_with fail
  refine (len_not w16 (some ⟨r, 0, none⟩) HR.out.right).mono ?_
  rintro e0 w17 ⟨rfl, hb⟩
  replace HA := Lib.hid (HA.out.below hb)
  replace HR := Lib.hid (HR.out.below hb)
  have HB17 := Lib.hid (HB16.out.trans (hb.mono HB16.out.size))
  clear hb HB16
  go_wp2_with fail
  have CL := Lib.hid (len_any w17 HA.out)
  rw [len_rep] at CL
  refine CL.out.mono ?_
  rintro e0 w18 ⟨rfl, hb⟩
  have HB18 := Lib.hid (HB17.out.trans (hb.mono HB17.out.size))
  clear hb CL HA HR
  go_wp2_with fail
  refine (awake_any w18 (HTB.out.below HB18.out)).mono ?_
  rintro e0 wz ⟨rfl, hb⟩
  have HBz := Lib.hid (HB18.out.trans (hb.mono HB18.out.size))
  clear hb
  go_wp2_with fail
  go_ret
  exact ⟨rfl, HBz.out⟩
set_option maxHeartbeats 8000000 in
set_option maxRecDepth 100000 in
theorem law_news_no (w : World) (n : Int) (h : n < 1 ∨ 4096 < n) (ht : Tb w) : Calls Tryd.prog 5 #[.int .i64 n] w (OutB w (.bool true)) := by
  have HTB := Lib.hid ht
  clear ht
  have CN := Lib.hid (new_no w n h)
  have CR := Lib.hid (fun w => rnew_no w n h)
  clear h
  go_enter Tryd.func5, Tryd.ntmps5
  go_wp2_with fail
  refine CN.out.mono ?_
  rintro e0 w1 ⟨rfl, hb⟩
  have HB1 := Lib.hid hb
  clear hb CN
  go_wp2_with fail
  refine (CR.out _).mono ?_
  rintro e0 w2 ⟨rfl, hb⟩
  have HB2 := Lib.hid (HB1.out.trans (hb.mono HB1.out.size))
  clear hb CR HB1
  go_wp2_with fail
  have HW := Lib.hid (two_new w2 (.cells #[.slice none 0 0, .slice none 0 0, .int .i64 0, .int .i64 0] 46) (.cells #[.slice none 0 0, .int .i64 0, .int .i64 0] 51))
  generalize (w2.alloc (.cells #[.slice none 0 0, .slice none 0 0, .int .i64 0, .int .i64 0] 46)).alloc (.cells #[.slice none 0 0, .int .i64 0, .int .i64 0] 51) = w3 at *
  have HR := Lib.hid (show Raw w3 (w2.heap.size + 1) from HW.out.2.2)
  have HB3 := Lib.hid (HB2.out.trans (HW.out.1.mono HB2.out.size))
  skip
  clear HB2 HW
  generalize w2.heap.size + 1 = r at *
  generalize w2.heap.size = r2 at *
  refine (bounds_any w3 1 1).mono ?_
  rintro e0 w4 ⟨rfl, hb⟩
  replace HR := Lib.hid (HR.out.below hb)
  have HB4 := Lib.hid (HB3.out.trans (hb.mono HB3.out.size))
  clear hb HB3
  go_wp2_with fail
  refine (put_not w4 none (nil_right _) ⟨#[97]⟩ 1 1 1 1 1).mono ?_
  rintro e0 w5 ⟨rfl, hb⟩
  replace HR := Lib.hid (HR.out.below hb)
  have HB5 := Lib.hid (HB4.out.trans (hb.mono HB4.out.size))
  clear hb HB4
  go_wp2_with fail
  refine (bounds_any w5 1 1).mono ?_
  rintro e0 w6 ⟨rfl, hb⟩
  replace HR := Lib.hid (HR.out.below hb)
  have HB6 := Lib.hid (HB5.out.trans (hb.mono HB5.out.size))
  clear hb HB5
  go_wp2_with fail
  refine (put_not w6 (some ⟨r, 0, none⟩) HR.out.right ⟨#[97]⟩ 1 1 1 1 1).mono ?_
  rintro e0 w7 ⟨rfl, hb⟩
  replace HR := Lib.hid (HR.out.below hb)
  have HB7 := Lib.hid (HB6.out.trans (hb.mono HB6.out.size))
  clear hb HB6
  go_wp2_with fail
  refine (clear_not w7 none (nil_right _)).mono ?_
  rintro e0 w8 ⟨rfl, hb⟩
  replace HR := Lib.hid (HR.out.below hb)
  have HB8 := Lib.hid (HB7.out.trans (hb.mono HB7.out.size))
  clear hb HB7
  go_wp2_with fail
  refine (clear_not w8 (some ⟨r, 0, none⟩) HR.out.right).mono ?_
  rintro e0 w9 ⟨rfl, hb⟩
  replace HR := Lib.hid (HR.out.below hb)
  have HB9 := Lib.hid (HB8.out.trans (hb.mono HB8.out.size))
  clear hb HB8
  go_wp2_with fail
  refine (get_not w9 none (nil_right _) ⟨#[97]⟩ 1).mono ?_
  rintro e0 w10 ⟨rfl, hb⟩
  replace HR := Lib.hid (HR.out.below hb)
  have HB10 := Lib.hid (HB9.out.trans (hb.mono HB9.out.size))
  clear hb HB9
  go_wp2_with fail
  have HW := Lib.hid (one_new w10 (.cells #[.int .i64 0, .int .i64 0, .int .i64 0, .int .i64 0] 37))
  generalize w10.alloc (.cells #[.int .i64 0, .int .i64 0, .int .i64 0, .int .i64 0] 37) = w11 at *
  replace HR := Lib.hid (HR.out.below HW.out.1)
  skip
  have HB11 := Lib.hid (HB10.out.trans (HW.out.1.mono HB10.out.size))
  clear HW HB10
  generalize w10.heap.size = qa at *
  refine (get_not w11 (some ⟨r, 0, none⟩) HR.out.right ⟨#[97]⟩ 1).mono ?_
  rintro e0 w12 ⟨rfl, hb⟩
  replace HR := Lib.hid (HR.out.below hb)
  have HB12 := Lib.hid (HB11.out.trans (hb.mono HB11.out.size))
  clear hb HB11
  go_wp2_with fail
  have HW := Lib.hid (one_new w12 (.cells #[.int .i64 0, .int .i64 0, .int .i64 0, .int .i64 0] 37))
  generalize w12.alloc (.cells #[.int .i64 0, .int .i64 0, .int .i64 0, .int .i64 0] 37) = w13 at *
  replace HR := Lib.hid (HR.out.below HW.out.1)
  skip
  have HB13 := Lib.hid (HB12.out.trans (HW.out.1.mono HB12.out.size))
  clear HW HB12
  generalize w12.heap.size = qb at *
  refine (hits_not w13 none (right_nil _)).mono ?_
  rintro e0 w14 ⟨rfl, hb⟩
  replace HR := Lib.hid (HR.out.below hb)
  have HB14 := Lib.hid (HB13.out.trans (hb.mono HB13.out.size))
  clear hb HB13
  go_wp2_with fail
  refine (hits_not w14 (some ⟨r, 0, none⟩) (HR.out.right _ (Below.refl _ _))).mono ?_
  rintro e0 w15 ⟨rfl, hb⟩
  replace HR := Lib.hid (HR.out.below hb)
  have HB15 := Lib.hid (HB14.out.trans (hb.mono HB14.out.size))
  clear hb HB14
  go_wp2_with fail
  refine (len_not w15 none (nil_right _)).mono ?_
  rintro e0 w16 ⟨rfl, hb⟩
  replace HR := Lib.hid (HR.out.below hb)
  have HB16 := Lib.hid (HB15.out.trans (hb.mono HB15.out.size))
  clear hb HB15
  go_wp2_with fail
  refine (len_not w16 (some ⟨r, 0, none⟩) HR.out.right).mono ?_
  rintro e0 w17 ⟨rfl, hb⟩
  replace HR := Lib.hid (HR.out.below hb)
  have HB17 := Lib.hid (HB16.out.trans (hb.mono HB16.out.size))
  clear hb HB16
  go_wp2_with fail
  refine (awake_any w17 (HTB.out.below HB17.out)).mono ?_
  rintro e0 wz ⟨rfl, hb⟩
  have HBz := Lib.hid (HB17.out.trans (hb.mono HB17.out.size))
  clear hb
  go_wp2_with fail
  go_ret
  exact ⟨rfl, HBz.out⟩
theorem law_news (w : World) (n : Int) (_hn : I64 n) (ht : Tb w) : Calls Tryd.prog 5 #[.int .i64 n] w (OutB w (.bool true)) := by
  by_cases h : n < 1 ∨ 4096 < n
  · exact law_news_no w n h ht
  · obtain ⟨k, rfl⟩ : ∃ k : Nat, n = k := ⟨n.toNat, by omega⟩
    exact law_news_yes w k (by omega) (by omega) ht
end Go.Proofs.YtggffmbhpgioaaaDoor
