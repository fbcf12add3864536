/- The walk of law31.TableRuns at any input. -/
import Derived.Test.YtggffmbhpgioaaaDoorYc
namespace Go.Proofs.YtggffmbhpgioaaaDoor
open Go Go.RowKit Go.Shelf
set_option linter.unusedSimpArgs false

set_option maxHeartbeats 4000000 in
set_option maxRecDepth 100000 in
theorem law_runs_long (w : World) (A : Option Addr) (ca : Nat) (n : Int) (l : List Op1) (hl : l.length ≤ 9223372036854775807) (hs : shortB l = false) (ha : OpS w A l) (ht : Tb w) :
    Calls Tryd.prog 6 #[.int .i64 n, .slice A l.length ca] w (OutB w (.bool true)) := by
  have HTB := Lib.hid ht
  have CS := Lib.hid (short_any w A ca l hl ha)
  rw [hs] at CS
  clear ht hs ha hl
  go_enter Tryd.func6, Tryd.ntmps6
  go_wp2_with fail
  refine CS.out.mono ?_
  rintro e0 w2 ⟨rfl, rfl⟩
  clear CS
  go_wp2_with fail
  refine (awake_any _ HTB.out).mono ?_
  rintro e0 wz ⟨rfl, hb⟩
  have HBz := Lib.hid hb
  clear hb
  go_wp2_with fail
  go_ret
  exact ⟨rfl, HBz.out⟩
set_option maxHeartbeats 4000000 in
set_option maxRecDepth 100000 in
theorem law_runs_no (w : World) (A : Option Addr) (ca : Nat) (n : Int) (l : List Op1) (h : n < 1 ∨ 4096 < n) (hl : l.length ≤ 9223372036854775807) (hs : shortB l = true) (ha : OpS w A l) (ht : Tb w) :
    Calls Tryd.prog 6 #[.int .i64 n, .slice A l.length ca] w (OutB w (.bool true)) := by
  have HTB := Lib.hid ht
  have CS := Lib.hid (short_any w A ca l hl ha)
  rw [hs] at CS
  have CN := Lib.hid (new_no w n h)
  have CR := Lib.hid (fun w => rnew_no w n h)
  clear ht hs ha h
  by_cases h0 : 0 < l.length
  all_goals
    go_enter Tryd.func6, Tryd.ntmps6
    go_wp2_with fail
    refine CS.out.mono ?_
    rintro e0 w2 ⟨rfl, rfl⟩
    go_wp2_with fail
    refine CN.out.mono ?_
    rintro e0 w1 ⟨rfl, hb⟩
    have HB1 := Lib.hid hb
    clear hb
    go_wp2_with fail
    refine (CR.out _).mono ?_
    rintro e0 w2 ⟨rfl, hb⟩
    have HB2 := Lib.hid ((HB1.out.trans (hb.mono HB1.out.size)).alloc (Nat.le_trans HB1.out.size hb.size) (.cells #[.slice none 0 0, .slice none 0 0, .int .i64 0, .int .i64 0] 46))
    clear hb HB1 CN CR CS
    go_wp2_with fail
    generalize w2.alloc (.cells #[.slice none 0 0, .slice none 0 0, .int .i64 0, .int .i64 0] 46) = w3 at *
    refine wp_loop_rounds 1 ?_
    rw [rounds_succ]
    go_wp2_with fail
    refine (awake_any _ (HTB.out.below HB2.out)).mono ?_
    rintro e0 wz ⟨rfl, hb⟩
    have HBz := Lib.hid (HB2.out.trans (hb.mono HB2.out.size))
    clear hb
    go_wp2_with fail
    go_ret
    exact ⟨rfl, HBz.out⟩
theorem law_runs (w : World) (n : Int) (A : Option Addr) (ca : Nat) (l : List Op1) (hl : l.length ≤ 9223372036854775807) (ha : OpS w A l) (ht : Tb w) :
    Calls Tryd.prog 6 #[.int .i64 n, .slice A l.length ca] w (OutB w (.bool true)) := by
  cases hs : shortB l
  · exact law_runs_long w A ca n l hl hs ha ht
  · by_cases h : n < 1 ∨ 4096 < n
    · exact law_runs_no w A ca n l h hl hs ha ht
    · obtain ⟨k, rfl⟩ : ∃ k : Nat, n = k := ⟨n.toNat, by omega⟩
      exact law_runs_yes w A ca k l (by omega) (by omega) hs ha ht
end Go.Proofs.YtggffmbhpgioaaaDoor
