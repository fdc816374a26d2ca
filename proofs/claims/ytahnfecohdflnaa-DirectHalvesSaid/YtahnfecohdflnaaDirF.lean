/- The least reference, the program's and the document's. -/
import Derived.Test.YtahnfecohdflnaaDirE
namespace Go.Proofs.Ytahnfecohdflnaa
open Go.RowKit
set_option linter.unusedVariables false

def least1 (out r : Int) : Int := if 0 ≤ r ∧ (out < 0 ∨ r < out) then r else out
def least (a b c : Int) : Int := least1 (least1 (least1 (-1) a) b) c

set_option maxHeartbeats 1600000 in
theorem refs_any (a b c : Int) (w : World) :
    Calls Try.prog 12 #[.agg #[.int .i64 a, .int .i64 b, .int .i64 c]] w fun e w' => e = .returned (.int .i64 (least a b c)) ∧ Below w.heap.size w w' := by
  have i0 : ∀ w, (Instr.index 24 (.agg #[.int .i64 a, .int .i64 b, .int .i64 c]) (.int .i64 0)).run Try.prog w = .ok (.int .i64 a) w := fun _ => by kernel_rfl
  have i1 : ∀ w, (Instr.index 24 (.agg #[.int .i64 a, .int .i64 b, .int .i64 c]) (.int .i64 1)).run Try.prog w = .ok (.int .i64 b) w := fun _ => by kernel_rfl
  have i2 : ∀ w, (Instr.index 24 (.agg #[.int .i64 a, .int .i64 b, .int .i64 c]) (.int .i64 2)).run Try.prog w = .ok (.int .i64 c) w := fun _ => by kernel_rfl
  go_enter Try.func12, Try.ntmps12
  go_wp2
  refine wp_loop_rounds 4 ?_
  iterate 4 (all_goals (rw [rounds_succ]; go_wp2))
  all_goals
    go_ret
    refine ⟨ret_int (by unfold least least1; omega), ?_⟩
    repeat (first | exact Below.refl _ _ | refine Below.alloc ?_ (by simp <;> omega) _ | refine Below.drew ?_ | refine Below.setCell ?_ (by simp <;> omega) _)

set_option maxHeartbeats 1600000 in
theorem refs2_any (a b c : Int) (w : World) :
    Calls Try.prog 13 #[.agg #[.int .i64 a, .int .i64 b, .int .i64 c]] w fun e w' => e = .returned (.int .i64 (least a b c)) ∧ Below w.heap.size w w' := by
  go_enter Try.func13, Try.ntmps13
  go_wp2
  refine wp_loop_rounds 4 ?_
  iterate 4 (all_goals (rw [rounds_succ]; go_wp2))
  all_goals
    go_ret
    refine ⟨ret_int (by unfold least least1; omega), ?_⟩
    repeat (first | exact Below.refl _ _ | refine Below.alloc ?_ (by simp <;> omega) _ | refine Below.drew ?_ | refine Below.setCell ?_ (by simp <;> omega) _)

end Go.Proofs.Ytahnfecohdflnaa
