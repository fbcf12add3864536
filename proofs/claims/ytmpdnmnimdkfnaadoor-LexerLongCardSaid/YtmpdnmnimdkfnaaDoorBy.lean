/- The walks of the functions that look at one byte. -/
import Derived.Test.YtmpdnmnimdkfnaaDoorProg
import Derived.Test.YtmpdnmnimdkfnaaDoorKt
namespace Go.Proofs.YtmpdnmnimdkfnaaDoor
open Go Go.RowKit

set_option maxHeartbeats 400000 in
theorem inRun_any (w : World) (n : Int) : Calls Tryd.prog 25 #[.int .u8 n] w fun e w' => e = .returned (.bool (runB n)) ∧ w = w' := by
  go_enter Tryd.func25, Tryd.ntmps25
  go_wp2
  all_goals go_ret
  all_goals refine ⟨ret_bool ?_, rfl⟩
  all_goals (rw [Bool.eq_iff_iff]; simp [runB, lowerB, upperB, digitB]; omega)

set_option maxHeartbeats 400000 in
theorem blank_any (w : World) (n : Int) : Calls Tryd.prog 22 #[.int .u8 n] w fun e w' => e = .returned (.bool (blankB n)) ∧ w = w' := by
  go_enter Tryd.func22, Tryd.ntmps22
  go_wp2
  all_goals go_ret
  all_goals refine ⟨ret_bool ?_, rfl⟩
  all_goals (rw [Bool.eq_iff_iff]; simp_all [blankB])

set_option maxHeartbeats 400000 in
theorem noLf_any (w : World) (n : Int) : Calls Tryd.prog 24 #[.int .u8 n] w fun e w' => e = .returned (.bool (noLf n)) ∧ w = w' := by
  go_enter Tryd.func24, Tryd.ntmps24
  go_wp2
  all_goals go_ret
  all_goals refine ⟨ret_bool ?_, rfl⟩
  all_goals (rw [Bool.eq_iff_iff]; simp_all [noLf])

set_option maxHeartbeats 400000 in
theorem rPart_any (w : World) (n : Int) : Calls Tryd.prog 29 #[.int .u8 n] w fun e w' => e = .returned (.bool (runB n)) ∧ w = w' := by
  go_enter Tryd.func29, Tryd.ntmps29
  go_wp2
  all_goals go_ret
  all_goals refine ⟨ret_bool ?_, rfl⟩
  all_goals (rw [Bool.eq_iff_iff]; simp_all [runB, lowerB, upperB, digitB]; try omega)

set_option maxHeartbeats 400000 in
theorem rSym_any (w : World) (n : Int) : Calls Tryd.prog 28 #[.int .u8 n] w fun e w' => e = .returned (.bool (symB n)) ∧ w = w' := by
  go_enter Tryd.func28, Tryd.ntmps28
  go_wp2
  all_goals go_ret
  all_goals refine ⟨ret_bool ?_, rfl⟩
  all_goals (rw [Bool.eq_iff_iff]; simp_all [symB])

set_option maxHeartbeats 400000 in
theorem rBlank_any (w : World) (n : Int) : Calls Tryd.prog 20 #[.int .u8 n] w fun e w' => e = .returned (.bool (blankB n)) ∧ w = w' := by
  go_enter Tryd.func20, Tryd.ntmps20
  go_wp2
  all_goals go_ret
  all_goals refine ⟨ret_bool ?_, rfl⟩
  all_goals (rw [Bool.eq_iff_iff]; simp_all [blankB])

set_option maxHeartbeats 400000 in
theorem rLower_any (w : World) (n : Int) : Calls Tryd.prog 54 #[.int .u8 n] w fun e w' => e = .returned (.bool (lowerB n)) ∧ w = w' := by
  go_enter Tryd.func54, Tryd.ntmps54
  go_wp2
  all_goals go_ret
  all_goals refine ⟨ret_bool ?_, rfl⟩
  all_goals (rw [Bool.eq_iff_iff]; simp [lowerB]; omega)

set_option maxHeartbeats 400000 in
theorem rUpper_any (w : World) (n : Int) : Calls Tryd.prog 55 #[.int .u8 n] w fun e w' => e = .returned (.bool (upperB n)) ∧ w = w' := by
  go_enter Tryd.func55, Tryd.ntmps55
  go_wp2
  all_goals go_ret
  all_goals refine ⟨ret_bool ?_, rfl⟩
  all_goals (rw [Bool.eq_iff_iff]; simp [upperB]; omega)

set_option maxHeartbeats 400000 in
theorem rDigit_any (w : World) (n : Int) : Calls Tryd.prog 53 #[.int .u8 n] w fun e w' => e = .returned (.bool (digitB n)) ∧ w = w' := by
  go_enter Tryd.func53, Tryd.ntmps53
  go_wp2
  all_goals go_ret
  all_goals refine ⟨ret_bool ?_, rfl⟩
  all_goals (rw [Bool.eq_iff_iff]; simp [digitB]; omega)
end Go.Proofs.YtmpdnmnimdkfnaaDoor
