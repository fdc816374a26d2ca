/- Small functions that the console's commands call: median, near, clip, size, blank; poc.Zero; bins.may. -/
import Derived.Test.YtfignfohcalcfaaGreatDoorConA
import Derived.Test.YtfignfohcalcfaaGreatDoorTouch
import Derived.Test.YtfignfohcalcfaaGreatDoorMask
namespace Go.Proofs.YtfignfohcalcfaaGreatDoor
open Go.RowKit
set_option linter.unusedVariables false
set_option linter.unusedSimpArgs false
attribute [local go_sem] ite_max ite_min

theorem med_any (a b c : Int) (w : World) : Calls Tryz.prog 62 #[.int .i64 a, .int .i64 b, .int .i64 c] w fun e w' => e = .returned (.int .i64 (medF a b c)) ∧ w = w' := by
  go_enter Tryz.func62, Tryz.ntmps62
  go_wp2_with fail
  go_ret
  exact ⟨ret_int (by unfold medF; omega), rfl⟩
theorem near_any (x : Int) (w : World) : Calls Tryz.prog 77 #[.int .i64 x] w fun e w' => e = .returned (.int .i64 (clipN (-100) x 100)) ∧ w = w' := by
  go_enter Tryz.func77, Tryz.ntmps77
  go_wp2_with fail
  go_ret
  exact ⟨ret_int (by unfold clipN; omega), rfl⟩
theorem clip_any (x : Int) (w : World) : Calls Tryz.prog 41 #[.int .i64 x] w fun e w' => e = .returned (.int .i64 (clipN (-1048576) x 1048576)) ∧ w = w' := by
  go_enter Tryz.func41, Tryz.ntmps41
  go_wp2_with fail
  go_ret
  exact ⟨ret_int (by unfold clipN; omega), rfl⟩
theorem size_any (x : Int) (w : World) (h0 : -1000000 ≤ x) (h1 : x ≤ 1000000) : Calls Tryz.prog 96 #[.int .i64 x] w fun e w' => e = .returned (.int .i64 (max x (-x))) ∧ w = w' := by
  go_enter Tryz.func96, Tryz.ntmps96
  go_wp2_with fail
  go_ret
  exact ⟨ret_int (by omega), rfl⟩
theorem blank_any (c : Nat) (w : World) : Calls Tryz.prog 21 #[.int .i32 c] w fun e w' => e = .returned (.bool (blankP c)) ∧ w = w' := by
  by_cases h1 : c = 32
  · subst h1
    go_enter Tryz.func21, Tryz.ntmps21
    go_wp2_with fail
    go_ret
    exact ⟨rfl, rfl⟩
  · have e1 : ((c : Int) == 32) = false := by simp; omega
    by_cases h2 : c = 9
    · subst h2
      go_enter Tryz.func21, Tryz.ntmps21
      go_wp2_with fail
      go_ret
      exact ⟨rfl, rfl⟩
    · have e2 : ((c : Int) == 9) = false := by simp; omega
      go_enter Tryz.func21, Tryz.ntmps21
      go_wp2_with fail
      go_ret
      exact ⟨ret_bool (by unfold blankP; simp [h1, h2]), rfl⟩
end Go.Proofs.YtfignfohcalcfaaGreatDoor
