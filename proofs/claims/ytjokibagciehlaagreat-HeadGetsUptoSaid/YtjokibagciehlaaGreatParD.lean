/- The document's MayPps and MaySps. -/
import Derived.Test.YtjokibagciehlaaGreatParC
import Derived.Test.YtjokibagciehlaaGreatInts
namespace Go.Proofs.YtjokibagciehlaaGreat
open Go.RowKit
set_option linter.unusedVariables false
set_option linter.unusedSimpArgs false

theorem in2_yes (x l h : Int) (w : World) (hh : l ≤ x ∧ x ≤ h) : Calls Tryz.prog 47 #[.int .i64 x, .int .i64 l, .int .i64 h] w fun e w' => e = .returned (.bool true) ∧ w = w' :=
  (in2_any x l h w).mono fun _ _ q => ⟨q.1.trans (ret_bool (inB_yes hh)), q.2⟩
theorem in2_no (x l h : Int) (w : World) (hh : ¬ (l ≤ x ∧ x ≤ h)) : Calls Tryz.prog 47 #[.int .i64 x, .int .i64 l, .int .i64 h] w fun e w' => e = .returned (.bool false) ∧ w = w' :=
  (in2_any x l h w).mono fun _ _ q => ⟨q.1.trans (ret_bool (inB_no hh)), q.2⟩

set_option maxRecDepth 100000 in
set_option maxHeartbeats 3200000 in
theorem maypp2_any (p : Pp) (w : World) : Calls Tryz.prog 46 #[.agg (ppV p)] w fun e w' => e = .returned (.bool (mayPp p)) ∧ Below w.heap.size w w' := by
  obtain ⟨cabac, weighted, bipred, qp, cqp, con, deb, a0, a1⟩ := p
  unfold ppV
  by_cases h0 : 0 ≤ bipred ∧ bipred ≤ 2
  case neg =>
    have hr : mayPp ⟨cabac, weighted, bipred, qp, cqp, con, deb, a0, a1⟩ = false := decide_eq_false fun q => h0 q.1
    rw [hr]
    clear hr
    go_enter Tryz.func46, Tryz.ntmps46
    go_wp2_with (go_at_call 47; first | (refine (in2_yes _ _ _ _ ?_).mono ?_; assumption; rintro e w' ⟨rfl, rfl⟩) | (refine (in2_no _ _ _ _ ?_).mono ?_; assumption; rintro e w' ⟨rfl, rfl⟩))
    go_ret
    exact ⟨rfl, (Below.refl _ _).alloc (Nat.le_refl _) _⟩
  by_cases h1 : 0 ≤ qp ∧ qp ≤ 51
  case neg =>
    have hr : mayPp ⟨cabac, weighted, bipred, qp, cqp, con, deb, a0, a1⟩ = false := decide_eq_false fun q => h1 q.2.1
    rw [hr]
    clear hr
    go_enter Tryz.func46, Tryz.ntmps46
    go_wp2_with (go_at_call 47; first | (refine (in2_yes _ _ _ _ ?_).mono ?_; assumption; rintro e w' ⟨rfl, rfl⟩) | (refine (in2_no _ _ _ _ ?_).mono ?_; assumption; rintro e w' ⟨rfl, rfl⟩))
    go_ret
    exact ⟨rfl, (Below.refl _ _).alloc (Nat.le_refl _) _⟩
  by_cases h2 : -12 ≤ cqp ∧ cqp ≤ 12
  case neg =>
    have hr : mayPp ⟨cabac, weighted, bipred, qp, cqp, con, deb, a0, a1⟩ = false := decide_eq_false fun q => h2 q.2.2.1
    rw [hr]
    clear hr
    go_enter Tryz.func46, Tryz.ntmps46
    go_wp2_with (go_at_call 47; first | (refine (in2_yes _ _ _ _ ?_).mono ?_; assumption; rintro e w' ⟨rfl, rfl⟩) | (refine (in2_no _ _ _ _ ?_).mono ?_; assumption; rintro e w' ⟨rfl, rfl⟩))
    go_ret
    exact ⟨rfl, (Below.refl _ _).alloc (Nat.le_refl _) _⟩
  by_cases h3 : 1 ≤ a0 ∧ a0 ≤ 8
  case neg =>
    have hr : mayPp ⟨cabac, weighted, bipred, qp, cqp, con, deb, a0, a1⟩ = false := decide_eq_false fun q => h3 q.2.2.2.1
    rw [hr]
    clear hr
    go_enter Tryz.func46, Tryz.ntmps46
    go_wp2_with (go_at_call 47; first | (refine (in2_yes _ _ _ _ ?_).mono ?_; assumption; rintro e w' ⟨rfl, rfl⟩) | (refine (in2_no _ _ _ _ ?_).mono ?_; assumption; rintro e w' ⟨rfl, rfl⟩))
    go_ret
    exact ⟨rfl, (Below.refl _ _).alloc (Nat.le_refl _) _⟩
  by_cases h4 : 1 ≤ a1 ∧ a1 ≤ 8
  case neg =>
    have hr : mayPp ⟨cabac, weighted, bipred, qp, cqp, con, deb, a0, a1⟩ = false := decide_eq_false fun q => h4 q.2.2.2.2
    rw [hr]
    clear hr
    go_enter Tryz.func46, Tryz.ntmps46
    go_wp2_with (go_at_call 47; first | (refine (in2_yes _ _ _ _ ?_).mono ?_; assumption; rintro e w' ⟨rfl, rfl⟩) | (refine (in2_no _ _ _ _ ?_).mono ?_; assumption; rintro e w' ⟨rfl, rfl⟩))
    go_ret
    exact ⟨rfl, (Below.refl _ _).alloc (Nat.le_refl _) _⟩
  have hr : mayPp ⟨cabac, weighted, bipred, qp, cqp, con, deb, a0, a1⟩ = true := (mayPp_iff _).2 ⟨h0, h1, h2, h3, h4⟩
  rw [hr]
  clear hr
  go_enter Tryz.func46, Tryz.ntmps46
  go_wp2_with (go_at_call 47; first | (refine (in2_yes _ _ _ _ ?_).mono ?_; assumption; rintro e w' ⟨rfl, rfl⟩) | (refine (in2_no _ _ _ _ ?_).mono ?_; assumption; rintro e w' ⟨rfl, rfl⟩))
  go_ret
  exact ⟨rfl, (Below.refl _ _).alloc (Nat.le_refl _) _⟩
end Go.Proofs.YtjokibagciehlaaGreat
