/- Contracts of direct.clip, zoetroperef12.near: plain integer functions. -/
import Derived.Test.YtadinglpkphpgaaBase
namespace Go.Proofs.Ytadinglpkphpgaa.Dir
open Go.RowKit
set_option linter.unusedVariables false

attribute [local go_sem] ite_max ite_min
def clip (x lo hi : Int) : Int := min (max x lo) hi

set_option maxHeartbeats 400000 in
theorem clip_any (x lo hi : Int) (w : World) :
    Calls Try.prog 30 #[.int .i64 x, .int .i64 lo, .int .i64 hi] w fun e w' => e = .returned (.int .i64 (clip x lo hi)) ∧ w = w' := by
  go_enter Try.func30, Try.ntmps30
  go_wp2
  go_ret
  exact ⟨ret_int (by unfold clip; omega), rfl⟩

set_option maxHeartbeats 400000 in
theorem near_any (x : Int) (w : World) :
    Calls Try.prog 29 #[.int .i64 x] w fun e w' => e = .returned (.int .i64 (clip x (-1073741824) 1073741824)) ∧ w = w' := by
  go_enter Try.func29, Try.ntmps29
  go_wp2_with (go_at_call 30; refine (clip_any _ _ _ _).mono ?_; rintro e w' ⟨rfl, rfl⟩)
  go_ret
  exact ⟨rfl, rfl⟩

set_option maxHeartbeats 400000 in
theorem near2_any (x : Int) (w : World) :
    Calls Try.prog 31 #[.int .i64 x] w fun e w' => e = .returned (.int .i64 (clip x (-1073741824) 1073741824)) ∧ w = w' := by
  go_enter Try.func31, Try.ntmps31
  go_wp2
  go_ret
  exact ⟨ret_int (by unfold clip; omega), rfl⟩

end Go.Proofs.Ytadinglpkphpgaa.Dir
