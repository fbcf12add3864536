/- The walks of the functions that look at one byte. -/
import Derived.Test.YtnlphgpcpdfjhaaDoorProg
import Derived.Test.YtnlphgpcpdfjhaaDoorKt
namespace Go.Proofs.YtnlphgpcpdfjhaaDoor
open Go Go.RowKit

set_option maxHeartbeats 400000 in
theorem inRun_any (w : World) (n : Int) : Calls Tryd.prog 69 #[.int .u8 n] w fun e w' => e = .returned (.bool (runB n)) ∧ w = w' := by
  go_enter Tryd.func69, Tryd.ntmps69
  go_wp2
  all_goals go_ret
  all_goals refine ⟨ret_bool ?_, rfl⟩
  all_goals (rw [Bool.eq_iff_iff]; simp [runB, lowerB, upperB, digitB]; omega)

set_option maxHeartbeats 400000 in
theorem blank_any (w : World) (n : Int) : Calls Tryd.prog 66 #[.int .u8 n] w fun e w' => e = .returned (.bool (blankB n)) ∧ w = w' := by
  go_enter Tryd.func66, Tryd.ntmps66
  go_wp2
  all_goals go_ret
  all_goals refine ⟨ret_bool ?_, rfl⟩
  all_goals (rw [Bool.eq_iff_iff]; simp_all [blankB])

set_option maxHeartbeats 400000 in
theorem noLf_any (w : World) (n : Int) : Calls Tryd.prog 68 #[.int .u8 n] w fun e w' => e = .returned (.bool (noLf n)) ∧ w = w' := by
  go_enter Tryd.func68, Tryd.ntmps68
  go_wp2
  all_goals go_ret
  all_goals refine ⟨ret_bool ?_, rfl⟩
  all_goals (rw [Bool.eq_iff_iff]; simp_all [noLf])

set_option maxHeartbeats 400000 in
theorem rPart_any (w : World) (n : Int) : Calls Tryd.prog 74 #[.int .u8 n] w fun e w' => e = .returned (.bool (runB n)) ∧ w = w' := by
  go_enter Tryd.func74, Tryd.ntmps74
  go_wp2
  all_goals go_ret
  all_goals refine ⟨ret_bool ?_, rfl⟩
  all_goals (rw [Bool.eq_iff_iff]; simp_all [runB, lowerB, upperB, digitB]; try omega)

set_option maxHeartbeats 400000 in
theorem rSym_any (w : World) (n : Int) : Calls Tryd.prog 73 #[.int .u8 n] w fun e w' => e = .returned (.bool (symB n)) ∧ w = w' := by
  go_enter Tryd.func73, Tryd.ntmps73
  go_wp2
  all_goals go_ret
  all_goals refine ⟨ret_bool ?_, rfl⟩
  all_goals (rw [Bool.eq_iff_iff]; simp_all [symB])

set_option maxHeartbeats 400000 in
theorem rBlank_any (w : World) (n : Int) : Calls Tryd.prog 72 #[.int .u8 n] w fun e w' => e = .returned (.bool (blankB n)) ∧ w = w' := by
  go_enter Tryd.func72, Tryd.ntmps72
  go_wp2
  all_goals go_ret
  all_goals refine ⟨ret_bool ?_, rfl⟩
  all_goals (rw [Bool.eq_iff_iff]; simp_all [blankB])

set_option maxHeartbeats 400000 in
theorem rLower_any (w : World) (n : Int) : Calls Tryd.prog 63 #[.int .u8 n] w fun e w' => e = .returned (.bool (lowerB n)) ∧ w = w' := by
  go_enter Tryd.func63, Tryd.ntmps63
  go_wp2
  all_goals go_ret
  all_goals refine ⟨ret_bool ?_, rfl⟩
  all_goals (rw [Bool.eq_iff_iff]; simp [lowerB]; omega)

set_option maxHeartbeats 400000 in
theorem rUpper_any (w : World) (n : Int) : Calls Tryd.prog 92 #[.int .u8 n] w fun e w' => e = .returned (.bool (upperB n)) ∧ w = w' := by
  go_enter Tryd.func92, Tryd.ntmps92
  go_wp2
  all_goals go_ret
  all_goals refine ⟨ret_bool ?_, rfl⟩
  all_goals (rw [Bool.eq_iff_iff]; simp [upperB]; omega)

set_option maxHeartbeats 400000 in
theorem rDigit_any (w : World) (n : Int) : Calls Tryd.prog 64 #[.int .u8 n] w fun e w' => e = .returned (.bool (digitB n)) ∧ w = w' := by
  go_enter Tryd.func64, Tryd.ntmps64
  go_wp2
  all_goals go_ret
  all_goals refine ⟨ret_bool ?_, rfl⟩
  all_goals (rw [Bool.eq_iff_iff]; simp [digitB]; omega)
end Go.Proofs.YtnlphgpcpdfjhaaDoor
