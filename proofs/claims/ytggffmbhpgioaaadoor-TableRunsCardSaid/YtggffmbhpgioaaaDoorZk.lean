/- The walk of bounds; the examples' values; awake. -/
import Derived.Test.YtggffmbhpgioaaaDoorZj
import Derived.Test.YtggffmbhpgioaaaDoorHd
namespace Go.Proofs.YtggffmbhpgioaaaDoor
open Go Go.RowKit Go.Shelf
set_option linter.unusedSimpArgs false

set_option maxHeartbeats 1000000 in
theorem bounds_any (w : World) (a b : Int) : Calls Tryd.prog 18 #[.int .i64 a, .int .i64 b] w (OutB w (.agg #[.int .i64 a, .int .i64 1, .int .i64 b, .int .i64 1])) := by
  go_enter Tryd.func18, Tryd.ntmps18
  go_wp2_with fail
  exact bodyPost_ret (v := .agg #[.int .i64 a, .int .i64 1, .int .i64 b, .int .i64 1]) (by simp [results, Tryd.results18, go_sem]) rfl ⟨rfl, (Below.refl _ _).alloc (Nat.le_refl _) _⟩

theorem hash_empty (w : World) : Calls Tryd.prog 9 #[.string ⟨#[]⟩] w (OutS w (.int .u64 14695981039346656037)) := hash_any w ⟨#[]⟩ (by decide)
theorem key_two (w : World) (b c : Nat) (hb : b < w.heap.size) (h0 : w.cell? ⟨b, 0, none⟩ = some (.int .i64 0)) (h1 : w.cell? ⟨b, 1, none⟩ = some (.int .i64 3)) (ht : Tb w) :
    Calls Tryd.prog 11 #[.slice (some ⟨b, 0, none⟩) 2 c, .int .i64 1] w (OutB w (.string ⟨#[49, 58, 48, 44, 51]⟩)) := by
  have h := key_any w (some ⟨b, 0, none⟩) c [0, 3] 1 (by decide) (by unfold I64; omega) (by simp [I64]) (fun _ => ⟨b, 0, rfl, hb, fun i n hn => by
    match i, hn with
    | 0, hn => simp at hn; subst hn; exact h0
    | 1, hn => simp at hn; subst hn; exact h1
    | _ + 2, hn => simp at hn⟩) ht
  rw [show (⟨(keyF [0, 3] 1).toArray⟩ : ByteArray) = ⟨#[49, 58, 48, 44, 51]⟩ from by kernel_rfl] at h
  exact h
theorem key_none (w : World) (ht : Tb w) : Calls Tryd.prog 11 #[.slice none 0 0, .int .i64 1] w (OutB w (.string ⟨#[49, 58]⟩)) := by
  have h := key_any w none 0 [] 1 (by decide) (by unfold I64; omega) (by simp) (fun h => absurd h (by decide)) ht
  rw [show (⟨(keyF [] 1).toArray⟩ : ByteArray) = ⟨#[49, 58]⟩ from by kernel_rfl] at h
  exact h

theorem slot_one (key : ByteArray) : slotI key 1 = 0 := Nat.mod_one _
def kA : ByteArray := ⟨#[97]⟩
def kB : ByteArray := ⟨#[98]⟩
def kC : ByteArray := ⟨#[99]⟩
def eA : En := ⟨true, kA, 3, ⟨0, 1, 100, 1⟩⟩
def eB : En := ⟨true, kB, 2, ⟨50, 1, 50, 1⟩⟩
def eC : En := ⟨true, kC, 1, ⟨1, 1, 2, 1⟩⟩
theorem ex1 : putF (List.replicate (2 * 1) en0) 0 eA = [eA, en0] := by kernel_rfl
theorem ex2 : putF [eA, en0] 0 eB = [eA, eB] := by kernel_rfl
theorem ex3 : getF [eA, eB] 0 kA 3 = some eA.b := by kernel_rfl
theorem ex4 : getF [eA, eB] 0 kB 5 = some eB.b := by kernel_rfl
theorem ex5 : getF [eA, eB] 0 kB 1 = none := by kernel_rfl
theorem ex6 : putF [eA, eB] 0 eC = [eA, eC] := by kernel_rfl
theorem ex7 : getF [eA, eC] 0 kB 2 = none := by kernel_rfl
end Go.Proofs.YtggffmbhpgioaaaDoor
