/- in, May, Validate, Num. -/
import Derived.Test.YtoniejneoibpoaaPlanA
namespace Go.Proofs.Ytoniejneoibpoaa
open Go.RowKit
set_option linter.unusedVariables false
set_option linter.unusedSimpArgs false

theorem in_any (x l h : Int) (w : World) : Calls Try.prog 27 #[.int .i64 x, .int .i64 l, .int .i64 h] w fun e w' => e = .returned (.bool (decide (l ≤ x ∧ x ≤ h))) ∧ w = w' := by
  by_cases h1 : l ≤ x
  · by_cases h2 : x ≤ h
    · have e : decide (l ≤ x ∧ x ≤ h) = true := decide_eq_true ⟨h1, h2⟩
      rw [e]
      go_enter Try.func27, Try.ntmps27
      go_wp2_with fail
      go_ret
      exact ⟨rfl, rfl⟩
    · have e : decide (l ≤ x ∧ x ≤ h) = false := decide_eq_false fun q => h2 q.2
      rw [e]
      go_enter Try.func27, Try.ntmps27
      go_wp2_with fail
      go_ret
      exact ⟨rfl, rfl⟩
  · have e : decide (l ≤ x ∧ x ≤ h) = false := decide_eq_false fun q => h1 q.1
    rw [e]
    go_enter Try.func27, Try.ntmps27
    go_wp2_with fail
    go_ret
    exact ⟨rfl, rfl⟩

theorem num_any (x : Int) (w : World) : Calls Try.prog 22 #[.int .i64 x] w fun e w' => e = .returned (.int .i64 x) ∧ w = w' := by
  go_enter Try.func22, Try.ntmps22
  go_wp2_with fail
  go_ret
  exact ⟨rfl, rfl⟩

end Go.Proofs.Ytoniejneoibpoaa
