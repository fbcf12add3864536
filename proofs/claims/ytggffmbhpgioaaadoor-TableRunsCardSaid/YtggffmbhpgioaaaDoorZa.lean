/- The walks of Hash, of the program and of the reference. -/
import Derived.Test.YtggffmbhpgioaaaDoorProg
import Derived.WalkKit
import Derived.BigCall
import Derived.BigGuard
import Derived.Lib.Hide
namespace Go.Proofs.YtggffmbhpgioaaaDoor
open Go Go.RowKit
set_option linter.unusedSimpArgs false

def OutB (w : World) (v : Value) (e : Ending) (w' : World) : Prop := e = .returned v ∧ Below w.heap.size w w'
def OutS (w : World) (v : Value) (e : Ending) (w' : World) : Prop := e = .returned v ∧ w = w'
/-- one byte of the hash, in the model's own words -/
def hstep (x : Int) (c : UInt8) : Int := IntKind.u64.wrap (bits BinOp.xor IntKind.u64 x (IntKind.u64.wrap (c.toNat : Int)) * 1099511628211)
def hashF (l : List UInt8) : Int := l.foldl hstep 14695981039346656037
theorem hash_take (s : ByteArray) (k : Nat) (h : k < s.size) : hashF (s.data.toList.take (k + 1)) = hstep (hashF (s.data.toList.take k)) s[k] := by
  have hl : k < s.data.toList.length := by simpa using h
  unfold hashF
  rw [List.take_succ_eq_append_getElem hl, List.foldl_append]
  rfl
set_option maxHeartbeats 4000000 in
set_option maxRecDepth 100000 in
theorem hash_any (w : World) (s : ByteArray) (hs : s.size ≤ 9223372036854775807) : Calls Tryd.prog 9 #[.string s] w (OutS w (.int .u64 (hashF s.data.toList))) := by
  go_enter Tryd.func9, Tryd.ntmps9
  go_wp2_with fail
  go_loop [3, 4] (fun h i => ∃ (k : Nat) (x : Int), k ≤ s.size ∧ i = .int .i64 k ∧ h = .int .u64 x ∧ Hid (hashF (s.data.toList.take k) = x)) (fun _ i => s.size - (intOf i).toNat)
  case atStart => exact ⟨0, _, Nat.zero_le _, rfl, rfl, rfl⟩
  case round =>
    obtain ⟨k, x, hk, rfl, rfl, HX⟩ := hrel
    by_cases hks : k < s.size
    · have HS : Hid (hashF (s.data.toList.take (k + 1)) = hstep x s[k]) := by rw [Hid, hash_take s k hks, HX.out]
      unfold hstep at HS
      go_wp2_with fail
      go_round
      case rel => exact ⟨k + 1, _, by omega, by go_num, rfl, HS⟩
      case measure => simp [intOf]; omega
    · obtain rfl : k = s.size := by omega
      have he : s.data.toList.take s.size = s.data.toList := List.take_of_length_le (by simp)
      rw [he] at HX
      clear he
      go_wp2_with fail
      go_ret
      exact ⟨by rw [HX.out]; rfl, rfl⟩
set_option maxHeartbeats 4000000 in
set_option maxRecDepth 100000 in
theorem rhash_any (w : World) (s : ByteArray) (hs : s.size ≤ 9223372036854775807) : Calls Tryd.prog 10 #[.string s] w (OutS w (.int .u64 (hashF s.data.toList))) := by
  go_enter Tryd.func10, Tryd.ntmps10
  go_wp2_with fail
  go_loop [3, 4] (fun h i => ∃ (k : Nat) (x : Int), k ≤ s.size ∧ i = .int .i64 k ∧ h = .int .u64 x ∧ Hid (hashF (s.data.toList.take k) = x)) (fun _ i => s.size - (intOf i).toNat)
  case atStart => exact ⟨0, _, Nat.zero_le _, rfl, rfl, rfl⟩
  case round =>
    obtain ⟨k, x, hk, rfl, rfl, HX⟩ := hrel
    by_cases hks : k < s.size
    · have HS : Hid (hashF (s.data.toList.take (k + 1)) = hstep x s[k]) := by rw [Hid, hash_take s k hks, HX.out]
      unfold hstep at HS
      go_wp2_with fail
      go_round
      case rel => exact ⟨k + 1, _, by omega, by go_num, rfl, HS⟩
      case measure => simp [intOf]; omega
    · obtain rfl : k = s.size := by omega
      have he : s.data.toList.take s.size = s.data.toList := List.take_of_length_le (by simp)
      rw [he] at HX
      clear he
      go_wp2_with fail
      go_ret
      exact ⟨by rw [HX.out]; rfl, rfl⟩
end Go.Proofs.YtggffmbhpgioaaaDoor
