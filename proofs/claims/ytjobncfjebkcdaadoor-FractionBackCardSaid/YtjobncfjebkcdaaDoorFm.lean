/- The walks of magnitude and divisor, and of the reference's size and gcd. -/
import Derived.Test.YtjobncfjebkcdaaDoorProg
import Derived.Test.YtjobncfjebkcdaaDoorKt
import Derived.Test.YtjobncfjebkcdaaDoorFr
import Derived.PlainAid
import Derived.BigRegion
import Derived.Deep.LoopGhost
import Derived.Deep.QuietTactic
import Derived.BigQuiet
import Derived.WalkLawsBesides
namespace Go.Proofs.YtjobncfjebkcdaaDoor
open Go Go.RowKit
set_option linter.unusedSimpArgs false

def I64 (n : Int) : Prop := -9223372036854775808 ≤ n ∧ n ≤ 9223372036854775807
theorem below_drew {B : Nat} {a w : World} (h : Below B a w) : Below B a w.drew := ⟨h.os, h.tape, h.output, h.size, h.block⟩
def OutD (w : World) (v : Value) (e : Ending) (w' : World) : Prop := e = .returned v ∧ ∃ k, w' = w.drewN k
def OutB (w : World) (v : Value) (e : Ending) (w' : World) : Prop := e = .returned v ∧ Below w.heap.size w w'

set_option maxHeartbeats 1000000 in
theorem mag_any (w : World) (n : Int) (hn : I64 n) : Calls Tryd.prog 40 #[.int .i64 n] w fun e w' => e = .returned (.int .u64 n.natAbs) ∧ w = w' := by
  obtain ⟨h1, h2⟩ := hn
  by_cases h : n < 0
  · go_enter Tryd.func40, Tryd.ntmps40
    go_wp2_with fail
    go_ret
    exact ⟨ret_int (by go_num), rfl⟩
  · go_enter Tryd.func40, Tryd.ntmps40
    go_wp2_with fail
    go_ret
    exact ⟨ret_int (by go_num), rfl⟩
set_option maxHeartbeats 1000000 in
theorem gcd_drew (w : World) (a b : Nat) (ha : a ≤ 18446744073709551615) (hb : b ≤ 18446744073709551615) : Calls Tryd.prog 41 #[.int .u64 a, .int .u64 b] w (OutD w (.int .u64 (Nat.gcd a b))) := by
  go_enter Tryd.func41, Tryd.ntmps41
  go_wp2_with fail
  go_loopg [0, 1] b (fun q x y wr => ∃ p : Nat, Nat.gcd p q = Nat.gcd a b ∧ p ≤ 18446744073709551615 ∧ q ≤ 18446744073709551615 ∧ x = .int .u64 p ∧ y = .int .u64 q ∧ ∃ k, wr = w.drewN k)
  case atStart => exact ⟨a, rfl, ha, hb, rfl, rfl, 0, rfl⟩
  case round =>
    obtain ⟨p, hg, hp, hq, rfl, rfl, hbl⟩ := hrel
    have HG := Lib.hid hg
    have HB := Lib.hid hbl
    clear hg hbl
    by_cases hz : gk = 0
    · subst hz
      go_wp2_with fail
      go_ret
      have hg := HG.out
      rw [Nat.gcd_zero_right] at hg
      exact ⟨ret_int (by rw [hg]), HB.out⟩
    · have hq0 : 0 < (gk : Int) := by omega
      have hq2 : ((gk : Int) == 0) = false := beq_eq_false_iff_ne.2 (by omega)
      go_wp2_with fail
      go_region
      go_wp2_with fail
      go_roundg (p % gk)
      case measure => exact Nat.mod_lt _ (by omega)
      case rel => exact ⟨gk, by rw [← HG.out, Nat.gcd_comm gk, ← Nat.gcd_rec, Nat.gcd_comm], hq, Nat.le_trans (Nat.mod_le _ _) hp, rfl, by simp, (by obtain ⟨k, hk⟩ := HB.out; exact ⟨k + 1, by rw [hk]; rfl⟩)⟩
theorem gcd_any (w : World) (a b : Nat) (ha : a ≤ 18446744073709551615) (hb : b ≤ 18446744073709551615) : Calls Tryd.prog 41 #[.int .u64 a, .int .u64 b] w (OutB w (.int .u64 (Nat.gcd a b))) :=
  (gcd_drew w a b ha hb).mono fun e w' h => ⟨h.1, by obtain ⟨k, hk⟩ := h.2; rw [hk]; exact below_drewN (Below.refl _ _) k⟩

set_option maxHeartbeats 1000000 in
theorem rmag_any (w : World) (n : Int) (hn : I64 n) : Calls Tryd.prog 43 #[.int .i64 n] w fun e w' => e = .returned (.int .u64 n.natAbs) ∧ w = w' := by
  obtain ⟨h1, h2⟩ := hn
  by_cases h : n < 0
  · go_enter Tryd.func43, Tryd.ntmps43
    go_wp2_with fail
    go_ret
    exact ⟨ret_int (by go_num), rfl⟩
  · go_enter Tryd.func43, Tryd.ntmps43
    go_wp2_with fail
    go_ret
    exact ⟨ret_int (by go_num), rfl⟩
set_option maxHeartbeats 1000000 in
theorem rgcd_drew (w : World) (a b : Nat) (ha : a ≤ 18446744073709551615) (hb : b ≤ 18446744073709551615) : Calls Tryd.prog 42 #[.int .u64 a, .int .u64 b] w (OutD w (.int .u64 (Nat.gcd a b))) := by
  go_enter Tryd.func42, Tryd.ntmps42
  go_wp2_with fail
  go_loopg [0, 1] b (fun q x y wr => ∃ p : Nat, Nat.gcd p q = Nat.gcd a b ∧ p ≤ 18446744073709551615 ∧ q ≤ 18446744073709551615 ∧ x = .int .u64 p ∧ y = .int .u64 q ∧ ∃ k, wr = w.drewN k)
  case atStart => exact ⟨a, rfl, ha, hb, rfl, rfl, 0, rfl⟩
  case round =>
    obtain ⟨p, hg, hp, hq, rfl, rfl, hbl⟩ := hrel
    have HG := Lib.hid hg
    have HB := Lib.hid hbl
    clear hg hbl
    by_cases hz : gk = 0
    · subst hz
      go_wp2_with fail
      go_ret
      have hg := HG.out
      rw [Nat.gcd_zero_right] at hg
      exact ⟨ret_int (by rw [hg]), HB.out⟩
    · have hq0 : 0 < (gk : Int) := by omega
      have hq2 : ((gk : Int) == 0) = false := beq_eq_false_iff_ne.2 (by omega)
      go_wp2_with fail
      go_region
      go_wp2_with fail
      go_roundg (p % gk)
      case measure => exact Nat.mod_lt _ (by omega)
      case rel => exact ⟨gk, by rw [← HG.out, Nat.gcd_comm gk, ← Nat.gcd_rec, Nat.gcd_comm], hq, Nat.le_trans (Nat.mod_le _ _) hp, rfl, by simp, (by obtain ⟨k, hk⟩ := HB.out; exact ⟨k + 1, by rw [hk]; rfl⟩)⟩
theorem rgcd_any (w : World) (a b : Nat) (ha : a ≤ 18446744073709551615) (hb : b ≤ 18446744073709551615) : Calls Tryd.prog 42 #[.int .u64 a, .int .u64 b] w (OutB w (.int .u64 (Nat.gcd a b))) :=
  (rgcd_drew w a b ha hb).mono fun e w' h => ⟨h.1, by obtain ⟨k, hk⟩ := h.2; rw [hk]; exact below_drewN (Below.refl _ _) k⟩

end Go.Proofs.YtjobncfjebkcdaaDoor
