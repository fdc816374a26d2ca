/- May: every configuration. -/
import Derived.Test.YtoniejneoibpoaaPlanC
import Derived.IntWalk
namespace Go.Proofs.Ytoniejneoibpoaa
open Go.RowKit
set_option linter.unusedVariables false
set_option linter.unusedSimpArgs false
attribute [local go_sem] ite_max ite_min

/-- a configuration's value -/
def cfgV (wide high refs qp bs period : Int) (cabac : Bool) (slices : Int) (pcm deblock : Bool) (poc bits : Int) : Array Value :=
  #[.int .i64 wide, .int .i64 high, .int .i64 refs, .int .i64 qp, .int .i64 bs, .int .i64 period, .bool cabac, .int .i64 slices, .bool pcm, .bool deblock, .int .i64 poc, .int .i64 bits]

theorem in_yes (x l h : Int) (w : World) (hh : l ≤ x ∧ x ≤ h) : Calls Try.prog 27 #[.int .i64 x, .int .i64 l, .int .i64 h] w fun e w' => e = .returned (.bool true) ∧ w = w' :=
  (in_any x l h w).mono fun _ _ q => ⟨q.1.trans (ret_bool (decide_eq_true hh)), q.2⟩
theorem in_no (x l h : Int) (w : World) (hh : ¬ (l ≤ x ∧ x ≤ h)) : Calls Try.prog 27 #[.int .i64 x, .int .i64 l, .int .i64 h] w fun e w' => e = .returned (.bool false) ∧ w = w' :=
  (in_any x l h w).mono fun _ _ q => ⟨q.1.trans (ret_bool (decide_eq_false hh)), q.2⟩
theorem prod_bd {a b : Int} (ha : 1 ≤ a ∧ a ≤ 8) (hb : 1 ≤ b ∧ b ≤ 8) : 1 ≤ a * b ∧ a * b ≤ 64 := by
  have h1 := Int.mul_le_mul ha.1 hb.1 (by omega) (by omega)
  have h2 := Int.mul_le_mul ha.2 hb.2 (by omega) (by omega)
  omega

set_option maxRecDepth 100000 in
set_option maxHeartbeats 3200000 in
theorem may_any (wide high refs qp bs period : Int) (cabac : Bool) (slices : Int) (pcm deblock : Bool) (poc bits : Int) (w : World) :
    Calls Try.prog 26 #[.agg (cfgV wide high refs qp bs period cabac slices pcm deblock poc bits)] w fun e w' => e = .returned (.bool (mayB wide high refs qp bs period slices poc bits)) ∧ Below w.heap.size w w' := by
  unfold cfgV
  have hw : (1 ≤ wide ∧ wide ≤ 8) → (1 ≤ high ∧ high ≤ 8) → wrap64 (wide * high) = wide * high := fun a b => by
    have := prod_bd a b
    unfold wrap64; generalize wide * high = m at *; omega
  have HW := Lib.hid hw
  clear hw
  by_cases h0 : 1 ≤ wide ∧ wide ≤ 8
  case neg =>
    have hr : mayB wide high refs qp bs period slices poc bits = false := by rw [← Bool.not_eq_true, mayB_iff]; intro q; exact h0 q.1
    rw [hr]
    clear hr
    skip
    all_goals
      skip
      go_enter Try.func26, Try.ntmps26
      go_wp2_with (go_at_call 27; first | (refine (in_yes _ _ _ _ ?_).mono ?_; assumption; rintro e w' ⟨rfl, rfl⟩) | (refine (in_no _ _ _ _ ?_).mono ?_; assumption; rintro e w' ⟨rfl, rfl⟩))
      all_goals first | (exfalso; omega) | (go_ret; exact ⟨rfl, (Below.refl _ _).alloc (Nat.le_refl _) _⟩)
  by_cases h1 : 1 ≤ high ∧ high ≤ 8
  case neg =>
    have hr : mayB wide high refs qp bs period slices poc bits = false := by rw [← Bool.not_eq_true, mayB_iff]; intro q; exact h1 q.2.1
    rw [hr]
    clear hr
    skip
    all_goals
      skip
      go_enter Try.func26, Try.ntmps26
      go_wp2_with (go_at_call 27; first | (refine (in_yes _ _ _ _ ?_).mono ?_; assumption; rintro e w' ⟨rfl, rfl⟩) | (refine (in_no _ _ _ _ ?_).mono ?_; assumption; rintro e w' ⟨rfl, rfl⟩))
      all_goals first | (exfalso; omega) | (go_ret; exact ⟨rfl, (Below.refl _ _).alloc (Nat.le_refl _) _⟩)
  by_cases h2 : 1 ≤ refs ∧ refs ≤ 4
  case neg =>
    have hr : mayB wide high refs qp bs period slices poc bits = false := by rw [← Bool.not_eq_true, mayB_iff]; intro q; exact h2 q.2.2.1
    rw [hr]
    clear hr
    skip
    all_goals
      skip
      go_enter Try.func26, Try.ntmps26
      go_wp2_with (go_at_call 27; first | (refine (in_yes _ _ _ _ ?_).mono ?_; assumption; rintro e w' ⟨rfl, rfl⟩) | (refine (in_no _ _ _ _ ?_).mono ?_; assumption; rintro e w' ⟨rfl, rfl⟩))
      all_goals first | (exfalso; omega) | (go_ret; exact ⟨rfl, (Below.refl _ _).alloc (Nat.le_refl _) _⟩)
  by_cases h3 : 0 ≤ qp ∧ qp ≤ 51
  case neg =>
    have hr : mayB wide high refs qp bs period slices poc bits = false := by rw [← Bool.not_eq_true, mayB_iff]; intro q; exact h3 q.2.2.2.1
    rw [hr]
    clear hr
    skip
    all_goals
      skip
      go_enter Try.func26, Try.ntmps26
      go_wp2_with (go_at_call 27; first | (refine (in_yes _ _ _ _ ?_).mono ?_; assumption; rintro e w' ⟨rfl, rfl⟩) | (refine (in_no _ _ _ _ ?_).mono ?_; assumption; rintro e w' ⟨rfl, rfl⟩))
      all_goals first | (exfalso; omega) | (go_ret; exact ⟨rfl, (Below.refl _ _).alloc (Nat.le_refl _) _⟩)
  by_cases h4 : 0 ≤ bs ∧ bs ≤ 2
  case neg =>
    have hr : mayB wide high refs qp bs period slices poc bits = false := by rw [← Bool.not_eq_true, mayB_iff]; intro q; exact h4 q.2.2.2.2.1
    rw [hr]
    clear hr
    skip
    all_goals
      skip
      go_enter Try.func26, Try.ntmps26
      go_wp2_with (go_at_call 27; first | (refine (in_yes _ _ _ _ ?_).mono ?_; assumption; rintro e w' ⟨rfl, rfl⟩) | (refine (in_no _ _ _ _ ?_).mono ?_; assumption; rintro e w' ⟨rfl, rfl⟩))
      all_goals first | (exfalso; omega) | (go_ret; exact ⟨rfl, (Below.refl _ _).alloc (Nat.le_refl _) _⟩)
  by_cases h5 : 1 ≤ period ∧ period ≤ 7
  case neg =>
    have hr : mayB wide high refs qp bs period slices poc bits = false := by rw [← Bool.not_eq_true, mayB_iff]; intro q; exact h5 q.2.2.2.2.2.1
    rw [hr]
    clear hr
    skip
    all_goals
      skip
      go_enter Try.func26, Try.ntmps26
      go_wp2_with (go_at_call 27; first | (refine (in_yes _ _ _ _ ?_).mono ?_; assumption; rintro e w' ⟨rfl, rfl⟩) | (refine (in_no _ _ _ _ ?_).mono ?_; assumption; rintro e w' ⟨rfl, rfl⟩))
      all_goals first | (exfalso; omega) | (go_ret; exact ⟨rfl, (Below.refl _ _).alloc (Nat.le_refl _) _⟩)
  by_cases h6 : poc = 0 ∨ poc = 2
  case neg =>
    have hr : mayB wide high refs qp bs period slices poc bits = false := by rw [← Bool.not_eq_true, mayB_iff]; intro q; exact h6 q.2.2.2.2.2.2.1
    rw [hr]
    clear hr
    have p1 : (poc != 0) = true := by simp; omega
    all_goals
      have p2 : (poc != 2) = true := by simp; omega
      go_enter Try.func26, Try.ntmps26
      go_wp2_with (go_at_call 27; first | (refine (in_yes _ _ _ _ ?_).mono ?_; assumption; rintro e w' ⟨rfl, rfl⟩) | (refine (in_no _ _ _ _ ?_).mono ?_; assumption; rintro e w' ⟨rfl, rfl⟩))
      all_goals first | (exfalso; omega) | (go_ret; exact ⟨rfl, (Below.refl _ _).alloc (Nat.le_refl _) _⟩)
  by_cases h7 : bs = 0 ∨ (refs ≠ 1 ∧ poc ≠ 2)
  case neg =>
    have hr : mayB wide high refs qp bs period slices poc bits = false := by rw [← Bool.not_eq_true, mayB_iff]; intro q; exact h7 q.2.2.2.2.2.2.2.1
    rw [hr]
    clear hr
    rcases h6 with h6 | h6
    all_goals
      skip
      go_enter Try.func26, Try.ntmps26
      go_wp2_with (go_at_call 27; first | (refine (in_yes _ _ _ _ ?_).mono ?_; assumption; rintro e w' ⟨rfl, rfl⟩) | (refine (in_no _ _ _ _ ?_).mono ?_; assumption; rintro e w' ⟨rfl, rfl⟩))
      all_goals first | (exfalso; omega) | (go_ret; exact ⟨rfl, (Below.refl _ _).alloc (Nat.le_refl _) _⟩)
  by_cases h8 : 1 ≤ slices ∧ slices ≤ min 8 (wide * high)
  case neg =>
    have hr : mayB wide high refs qp bs period slices poc bits = false := by rw [← Bool.not_eq_true, mayB_iff]; intro q; exact h8 q.2.2.2.2.2.2.2.2.1
    rw [hr]
    clear hr
    rcases h6 with h6 | h6
    all_goals
      have hw := HW.out h0 h1
      go_enter Try.func26, Try.ntmps26
      go_wp2_with (go_at_call 27; first | (refine (in_yes _ _ _ _ ?_).mono ?_; assumption; rintro e w' ⟨rfl, rfl⟩) | (refine (in_no _ _ _ _ ?_).mono ?_; assumption; rintro e w' ⟨rfl, rfl⟩))
      all_goals first | (exfalso; omega) | (go_ret; exact ⟨rfl, (Below.refl _ _).alloc (Nat.le_refl _) _⟩)
  by_cases h9 : 0 ≤ bits ∧ bits ≤ 100000000
  case neg =>
    have hr : mayB wide high refs qp bs period slices poc bits = false := by rw [← Bool.not_eq_true, mayB_iff]; intro q; exact h9 q.2.2.2.2.2.2.2.2.2
    rw [hr]
    clear hr
    rcases h6 with h6 | h6
    all_goals
      have hw := HW.out h0 h1
      go_enter Try.func26, Try.ntmps26
      go_wp2_with (go_at_call 27; first | (refine (in_yes _ _ _ _ ?_).mono ?_; assumption; rintro e w' ⟨rfl, rfl⟩) | (refine (in_no _ _ _ _ ?_).mono ?_; assumption; rintro e w' ⟨rfl, rfl⟩))
      all_goals first | (exfalso; omega) | (go_ret; exact ⟨rfl, (Below.refl _ _).alloc (Nat.le_refl _) _⟩)
  have hr : mayB wide high refs qp bs period slices poc bits = true := by rw [mayB_iff]; exact ⟨h0, h1, h2, h3, h4, h5, h6, h7, h8, h9⟩
  rw [hr]
  clear hr
  have hw := HW.out h0 h1
  rcases h6 with h6 | h6
  all_goals
    go_enter Try.func26, Try.ntmps26
    go_wp2_with (go_at_call 27; first | (refine (in_yes _ _ _ _ ?_).mono ?_; assumption; rintro e w' ⟨rfl, rfl⟩) | (refine (in_no _ _ _ _ ?_).mono ?_; assumption; rintro e w' ⟨rfl, rfl⟩))
    all_goals first | (exfalso; omega) | (go_ret; exact ⟨rfl, (Below.refl _ _).alloc (Nat.le_refl _) _⟩)

end Go.Proofs.Ytoniejneoibpoaa
