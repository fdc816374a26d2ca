/- Validate: every configuration. -/
import Derived.Test.YtoniejneoibpoaaPlanD
import Derived.BigGuardPart
namespace Go.Proofs.Ytoniejneoibpoaa
open Go.RowKit
set_option linter.unusedVariables false
set_option linter.unusedSimpArgs false
attribute [local go_sem] ite_max ite_min

set_option maxRecDepth 100000 in
set_option maxHeartbeats 6400000 in
theorem valid_any (wide high refs qp bs period : Int) (cabac : Bool) (slices : Int) (pcm deblock : Bool) (poc bits : Int) (w : World) :
    Calls Try.prog 29 #[.agg (cfgV wide high refs qp bs period cabac slices pcm deblock poc bits)] w fun e w' => e = .returned (.bool (mayB wide high refs qp bs period slices poc bits)) ∧ Below w.heap.size w w' := by
  unfold cfgV
  have hw : (1 ≤ wide ∧ wide ≤ 8) → (1 ≤ high ∧ high ≤ 8) → wrap64 (wide * high) = wide * high := fun a b => by
    have := prod_bd a b
    unfold wrap64; generalize wide * high = m at *; omega
  have HW := Lib.hid hw
  clear hw
  go_enter Try.func29, Try.ntmps29
  simp only [List.append]
  go_wp2_with fail
  all_goals
    go_ret
    refine ⟨ret_bool ?_, (Below.refl _ _).alloc (Nat.le_refl _) _⟩
    rw [Bool.eq_iff_iff, mayB_iff]
    first
    | (simp only [Bool.false_eq_true, false_iff]; omega)
    | (have hw := HW.out (by omega) (by omega); simp only [hw] at *; generalize wide * high = m at *; simp; omega)
    | skip

end Go.Proofs.Ytoniejneoibpoaa
