/- The statements on package weight: WeightImplicits. -/
import Derived.Test.YtadinglpkphpgaaWgtL
namespace Go.Proofs.Ytadinglpkphpgaa
open Go.RowKit
set_option linter.unusedVariables false

set_option maxHeartbeats 800000 in
theorem walk_WeightImplicits (a0 : Int) (a1 : Int) (a2 : Int) (a3 : Bool) (w : World) (w_a0 : (Lit.int .i64 a0).wf = true) (w_a1 : (Lit.int .i64 a1).wf = true) (w_a2 : (Lit.int .i64 a2).wf = true) :
    Calls Try.prog 4 #[.int .i64 a0, .int .i64 a1, .int .i64 a2, .bool a3] w fun e w' => e = .returned (.bool true) ∧ Below w.heap.size w w' := by
  clear w_a0 w_a1 w_a2
  have h1 := imp_bd a0 a1 a2 a3
  have h2 : (imp0 a0 a1 a2 a3 + imp1 a0 a1 a2 a3 == 64) = true := by rw [imp_sum]; rfl
  go_enter Try.func4, Try.ntmps4
  go_wp2_with fail
  refine (imp_any1 _ _ _ _ _).mono ?_
  rintro e w' ⟨rfl, rfl⟩
  go_wp2_with fail
  refine (imp_any2 _ _ _ _ _).mono ?_
  rintro e w' ⟨rfl, rfl⟩
  go_wp2_with fail
  refine (awake_any _).mono ?_
  rintro e w1 ⟨rfl, hb⟩
  go_wp2_with fail
  go_ret
  exact ⟨rfl, hb⟩

end Go.Proofs.Ytadinglpkphpgaa
