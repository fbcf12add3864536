/- The walk of law31.TableNewest at any input. -/
import Derived.Test.YtggffmbhpgioaaaDoorZy
namespace Go.Proofs.YtggffmbhpgioaaaDoor
open Go Go.RowKit Go.Shelf
set_option linter.unusedSimpArgs false

set_option maxHeartbeats 4000000 in
set_option maxRecDepth 100000 in
theorem law_newest_no (w : World) (A : Option Addr) (ca : Nat) (n : Int) (l : List Op1) (h : n < 1 ∨ 4096 < n) (ht : Tb w) :
    Calls Tryd.prog 7 #[.int .i64 n, .slice A l.length ca] w (OutB w (.bool true)) := by
  have HTB := Lib.hid ht
  have CN := Lib.hid (new_no w n h)
  clear ht h
  go_enter Tryd.func7, Tryd.ntmps7
  go_wp2_with fail
  refine CN.out.mono ?_
  rintro e0 w1 ⟨rfl, hb⟩
  have HB := Lib.hid hb
  clear hb CN
  go_wp2_with fail
  refine (awake_any _ (HTB.out.below HB.out)).mono ?_
  rintro e0 wz ⟨rfl, hb⟩
  have HBz := Lib.hid (HB.out.trans (hb.mono HB.out.size))
  clear hb
  go_wp2_with fail
  go_ret
  exact ⟨rfl, HBz.out⟩
set_option maxHeartbeats 4000000 in
set_option maxRecDepth 100000 in
theorem law_newest_long (w : World) (A : Option Addr) (ca n : Nat) (l : List Op1) (n0 : 0 < n) (n1 : n ≤ 4096) (hl : l.length ≤ 9223372036854775807) (hs : shortB l = false) (ha : OpS w A l) (ht : Tb w) :
    Calls Tryd.prog 7 #[.int .i64 n, .slice A l.length ca] w (OutB w (.bool true)) := by
  have HTB := Lib.hid ht
  have CN := Lib.hid (new_any w n n0 n1)
  have CS := Lib.hid (fun (y : World) (hb : Below w.heap.size w y) => short_any y A ca l hl (ha.below hb (Nat.le_refl _)))
  rw [hs] at CS
  clear ht hs ha hl n0 n1
  go_enter Tryd.func7, Tryd.ntmps7
  go_wp2_with fail
  refine CN.out.mono ?_
  rintro e0 w1 ⟨bt, bs, rfl, -, -, -, hb⟩
  have HB := Lib.hid hb
  clear hb CN
  go_wp2_with fail
  refine (CS.out _ HB.out).mono ?_
  rintro e0 w2 ⟨rfl, rfl⟩
  clear CS
  go_wp2_with fail
  refine (awake_any _ (HTB.out.below HB.out)).mono ?_
  rintro e0 wz ⟨rfl, hb⟩
  have HBz := Lib.hid (HB.out.trans (hb.mono HB.out.size))
  clear hb
  go_wp2_with fail
  go_ret
  exact ⟨rfl, HBz.out⟩
theorem law_newest (w : World) (n : Int) (A : Option Addr) (ca : Nat) (l : List Op1) (hl : l.length ≤ 9223372036854775807) (ha : OpS w A l) (ht : Tb w) :
    Calls Tryd.prog 7 #[.int .i64 n, .slice A l.length ca] w (OutB w (.bool true)) := by
  by_cases h : n < 1 ∨ 4096 < n
  · exact law_newest_no w A ca n l h ht
  · obtain ⟨k, rfl⟩ : ∃ k : Nat, n = k := ⟨n.toNat, by omega⟩
    cases hs : shortB l
    · exact law_newest_long w A ca k l (by omega) (by omega) hl hs ha ht
    · exact law_newest_yes w A ca k l (by omega) (by omega) hs ha ht
end Go.Proofs.YtggffmbhpgioaaaDoor
