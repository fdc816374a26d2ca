/- kinds, may, fair. -/
import Derived.Test.YtoagihocibeidaaIntC
namespace Go.Proofs.Ytoagihocibeidaa
open Go.RowKit
set_option linter.unusedVariables false
set_option linter.unusedSimpArgs false
attribute [local go_sem] ite_max ite_min

theorem run_max_int4 {P : Program} (w : World) (ts : Array TypeId) (t : TypeId) (k k' k'' k3 : IntKind) (x y z u : Int) : (Builtin.max_ ts t #[.int k x, .int k' y, .int k'' z, .int k3 u]).run P w = .ok (.int k (max (max (max x y) z) u)) w := by
  have e : ∀ a b : Int, (if b > a then b else a) = max a b := fun a b => ite_max a b
  simp [Builtin.max_, Builtin.max2, ite_max]
attribute [local go_sem] run_max_int4

theorem num_any (x : Int) (w : World) : Calls Try.prog 16 #[.int .i64 x] w fun e w' => e = .returned (.int .i64 x) ∧ w = w' := by
  go_enter Try.func16, Try.ntmps16
  go_wp2_with fail
  go_ret
  exact ⟨rfl, rfl⟩

theorem side_any (n most : Int) (w : World) : Calls Try.prog 30 #[.int .i64 n, .int .i64 most] w fun e w' => e = .returned (.bool (decide (1 ≤ n ∧ n ≤ most))) ∧ w = w' := by
  by_cases h1 : 1 ≤ n
  · by_cases h2 : n ≤ most
    · rw [show decide (1 ≤ n ∧ n ≤ most) = true from decide_eq_true ⟨h1, h2⟩]
      go_enter Try.func30, Try.ntmps30
      go_wp2_with fail
      go_ret
      exact ⟨rfl, rfl⟩
    · rw [show decide (1 ≤ n ∧ n ≤ most) = false from decide_eq_false fun q => h2 q.2]
      go_enter Try.func30, Try.ntmps30
      go_wp2_with fail
      go_ret
      exact ⟨rfl, rfl⟩
  · rw [show decide (1 ≤ n ∧ n ≤ most) = false from decide_eq_false fun q => h1 q.1]
    go_enter Try.func30, Try.ntmps30
    go_wp2_with fail
    go_ret
    exact ⟨rfl, rfl⟩
theorem side_yes (n most : Int) (w : World) (h : 1 ≤ n ∧ n ≤ most) : Calls Try.prog 30 #[.int .i64 n, .int .i64 most] w fun e w' => e = .returned (.bool true) ∧ w = w' :=
  (side_any n most w).mono fun _ _ q => ⟨q.1.trans (ret_bool (decide_eq_true h)), q.2⟩
theorem side_no (n most : Int) (w : World) (h : ¬ (1 ≤ n ∧ n ≤ most)) : Calls Try.prog 30 #[.int .i64 n, .int .i64 most] w fun e w' => e = .returned (.bool false) ∧ w = w' :=
  (side_any n most w).mono fun _ _ q => ⟨q.1.trans (ret_bool (decide_eq_false h)), q.2⟩

theorem Below.drewN' {B : Nat} {a w : World} (h : Below B a w) (n : Nat) : Below B a (w.drewN n) := ⟨h.os, h.tape, h.output, h.size, h.block⟩
def fairB (n W H x y bw bh : Int) : Bool := decide ((1 ≤ W ∧ W ≤ 128) ∧ (1 ≤ H ∧ H ≤ 128) ∧ n = W * H ∧ (1 ≤ bw ∧ bw ≤ 16) ∧ (1 ≤ bh ∧ bh ≤ 16) ∧ (-4096 ≤ x ∧ x ≤ 4096) ∧ (-4096 ≤ y ∧ y ≤ 4096))
def fairC (n W H x y bw bh : Int) : Int := if fairB n W H x y bw bh = true then 0 else 1200

set_option maxRecDepth 100000 in
set_option maxHeartbeats 3200000 in
theorem kinds_any (d : Nat) (hd : d < 16) (w : World) : Calls Try.prog 23 #[.int .i64 ((d % 4 : Nat) : Int), .int .i64 ((d / 4 : Nat) : Int)] w fun e w' => e = .returned (.tuple #[.int .i64 (kA d), .int .i64 (kB d)]) ∧ Below w.heap.size w w' := by
  have hc : d = 0 ∨ d = 1 ∨ d = 2 ∨ d = 3 ∨ d = 4 ∨ d = 5 ∨ d = 6 ∨ d = 7 ∨ d = 8 ∨ d = 9 ∨ d = 10 ∨ d = 11 ∨ d = 12 ∨ d = 13 ∨ d = 14 ∨ d = 15 := by omega
  rcases hc with rfl | rfl | rfl | rfl | rfl | rfl | rfl | rfl | rfl | rfl | rfl | rfl | rfl | rfl | rfl | rfl
  · show Calls Try.prog 23 #[.int .i64 0, .int .i64 0] w _
    go_enter Try.func23, Try.ntmps23
    go_wp2_with fail
    go_quiet (fail)
    go_wp2_with fail
    go_ret2
    exact ⟨ret_ii (by kernel_rfl) (by kernel_rfl), Below.drewN' ((Below.refl _ _).alloc (Nat.le_refl _) _) _⟩
  · show Calls Try.prog 23 #[.int .i64 1, .int .i64 0] w _
    go_enter Try.func23, Try.ntmps23
    go_wp2_with fail
    go_quiet (fail)
    go_wp2_with fail
    go_ret2
    exact ⟨ret_ii (by kernel_rfl) (by kernel_rfl), Below.drewN' ((Below.refl _ _).alloc (Nat.le_refl _) _) _⟩
  · show Calls Try.prog 23 #[.int .i64 2, .int .i64 0] w _
    go_enter Try.func23, Try.ntmps23
    go_wp2_with fail
    go_quiet (fail)
    go_wp2_with fail
    go_ret2
    exact ⟨ret_ii (by kernel_rfl) (by kernel_rfl), Below.drewN' ((Below.refl _ _).alloc (Nat.le_refl _) _) _⟩
  · show Calls Try.prog 23 #[.int .i64 3, .int .i64 0] w _
    go_enter Try.func23, Try.ntmps23
    go_wp2_with fail
    go_quiet (fail)
    go_wp2_with fail
    go_ret2
    exact ⟨ret_ii (by kernel_rfl) (by kernel_rfl), Below.drewN' ((Below.refl _ _).alloc (Nat.le_refl _) _) _⟩
  · show Calls Try.prog 23 #[.int .i64 0, .int .i64 1] w _
    go_enter Try.func23, Try.ntmps23
    go_wp2_with fail
    go_quiet (fail)
    go_wp2_with fail
    go_ret2
    exact ⟨ret_ii (by kernel_rfl) (by kernel_rfl), Below.drewN' ((Below.refl _ _).alloc (Nat.le_refl _) _) _⟩
  · show Calls Try.prog 23 #[.int .i64 1, .int .i64 1] w _
    go_enter Try.func23, Try.ntmps23
    go_wp2_with fail
    go_quiet (fail)
    go_wp2_with fail
    go_ret2
    exact ⟨ret_ii (by kernel_rfl) (by kernel_rfl), Below.drewN' ((Below.refl _ _).alloc (Nat.le_refl _) _) _⟩
  · show Calls Try.prog 23 #[.int .i64 2, .int .i64 1] w _
    go_enter Try.func23, Try.ntmps23
    go_wp2_with fail
    go_quiet (fail)
    go_wp2_with fail
    go_ret2
    exact ⟨ret_ii (by kernel_rfl) (by kernel_rfl), Below.drewN' ((Below.refl _ _).alloc (Nat.le_refl _) _) _⟩
  · show Calls Try.prog 23 #[.int .i64 3, .int .i64 1] w _
    go_enter Try.func23, Try.ntmps23
    go_wp2_with fail
    go_quiet (fail)
    go_wp2_with fail
    go_ret2
    exact ⟨ret_ii (by kernel_rfl) (by kernel_rfl), Below.drewN' ((Below.refl _ _).alloc (Nat.le_refl _) _) _⟩
  · show Calls Try.prog 23 #[.int .i64 0, .int .i64 2] w _
    go_enter Try.func23, Try.ntmps23
    go_wp2_with fail
    go_quiet (fail)
    go_wp2_with fail
    go_ret2
    exact ⟨ret_ii (by kernel_rfl) (by kernel_rfl), Below.drewN' ((Below.refl _ _).alloc (Nat.le_refl _) _) _⟩
  · show Calls Try.prog 23 #[.int .i64 1, .int .i64 2] w _
    go_enter Try.func23, Try.ntmps23
    go_wp2_with fail
    go_quiet (fail)
    go_wp2_with fail
    go_ret2
    exact ⟨ret_ii (by kernel_rfl) (by kernel_rfl), Below.drewN' ((Below.refl _ _).alloc (Nat.le_refl _) _) _⟩
  · show Calls Try.prog 23 #[.int .i64 2, .int .i64 2] w _
    go_enter Try.func23, Try.ntmps23
    go_wp2_with fail
    go_quiet (fail)
    go_wp2_with fail
    go_ret2
    exact ⟨ret_ii (by kernel_rfl) (by kernel_rfl), Below.drewN' ((Below.refl _ _).alloc (Nat.le_refl _) _) _⟩
  · show Calls Try.prog 23 #[.int .i64 3, .int .i64 2] w _
    go_enter Try.func23, Try.ntmps23
    go_wp2_with fail
    go_quiet (fail)
    go_wp2_with fail
    go_ret2
    exact ⟨ret_ii (by kernel_rfl) (by kernel_rfl), Below.drewN' ((Below.refl _ _).alloc (Nat.le_refl _) _) _⟩
  · show Calls Try.prog 23 #[.int .i64 0, .int .i64 3] w _
    go_enter Try.func23, Try.ntmps23
    go_wp2_with fail
    go_quiet (fail)
    go_wp2_with fail
    go_ret2
    exact ⟨ret_ii (by kernel_rfl) (by kernel_rfl), Below.drewN' ((Below.refl _ _).alloc (Nat.le_refl _) _) _⟩
  · show Calls Try.prog 23 #[.int .i64 1, .int .i64 3] w _
    go_enter Try.func23, Try.ntmps23
    go_wp2_with fail
    go_quiet (fail)
    go_wp2_with fail
    go_ret2
    exact ⟨ret_ii (by kernel_rfl) (by kernel_rfl), Below.drewN' ((Below.refl _ _).alloc (Nat.le_refl _) _) _⟩
  · show Calls Try.prog 23 #[.int .i64 2, .int .i64 3] w _
    go_enter Try.func23, Try.ntmps23
    go_wp2_with fail
    go_quiet (fail)
    go_wp2_with fail
    go_ret2
    exact ⟨ret_ii (by kernel_rfl) (by kernel_rfl), Below.drewN' ((Below.refl _ _).alloc (Nat.le_refl _) _) _⟩
  · show Calls Try.prog 23 #[.int .i64 3, .int .i64 3] w _
    go_enter Try.func23, Try.ntmps23
    go_wp2_with fail
    go_quiet (fail)
    go_wp2_with fail
    go_ret2
    exact ⟨ret_ii (by kernel_rfl) (by kernel_rfl), Below.drewN' ((Below.refl _ _).alloc (Nat.le_refl _) _) _⟩

theorem neg_in {x : Int} (h : -9223372036854775807 ≤ x ∧ x ≤ 9223372036854775807) : IntKind.i64.wrap (-x) = -x := by rw [IntKind.wrap_i64]; omega

set_option maxRecDepth 100000 in
set_option maxHeartbeats 3200000 in
theorem may_yes (A : Option Addr) (n c : Nat) (W H x y bw bh : Int) (w : World) (h : fairB n W H x y bw bh = true) :
    Calls Try.prog 22 #[.slice A n c, .int .i64 W, .int .i64 H, .int .i64 x, .int .i64 y, .int .i64 bw, .int .i64 bh] w fun e w' => e = .returned (.int .i64 0) ∧ w = w' := by
  unfold fairB at h
  rw [decide_eq_true_iff] at h
  obtain ⟨h1, h2, h3, h4, h5, h6, h7⟩ := h
  have h8 := (prod_le (show 0 ≤ W by omega) (show 0 ≤ H by omega) h1.2 h2.2)
  have e1 : wrap64 (W * H) = W * H := by unfold wrap64; generalize W * H = m at *; omega
  have H3 := Lib.hid h3
  have e2 : ((n : Int) != W * H) = false := by rw [h3]; simp
  clear h3
  go_enter Try.func22, Try.ntmps22
  go_wp2_with (go_at_call 30; refine (side_yes _ _ _ ?_).mono ?_; assumption; rintro e w' ⟨rfl, rfl⟩)
  go_ret
  exact ⟨rfl, rfl⟩

set_option maxRecDepth 100000 in
set_option maxHeartbeats 3200000 in
theorem may_no (A : Option Addr) (n c : Nat) (W H x y bw bh : Int) (w : World) (h : fairB n W H x y bw bh = false) (hx : -9223372036854775808 ≤ x ∧ x ≤ 9223372036854775807) (hy : -9223372036854775808 ≤ y ∧ y ≤ 9223372036854775807) :
    Calls Try.prog 22 #[.slice A n c, .int .i64 W, .int .i64 H, .int .i64 x, .int .i64 y, .int .i64 bw, .int .i64 bh] w fun e w' => e = .returned (.int .i64 1200) ∧ w = w' := by
  unfold fairB at h
  have h := of_decide_eq_false h
  by_cases h1 : 1 ≤ W ∧ W ≤ 128
  case neg =>
    clear h
    go_enter Try.func22, Try.ntmps22
    go_wp2_with (go_at_call 30; first | (refine (side_yes _ _ _ ?_).mono ?_; assumption; rintro e w' ⟨rfl, rfl⟩) | (refine (side_no _ _ _ ?_).mono ?_; assumption; rintro e w' ⟨rfl, rfl⟩))
    go_ret
    exact ⟨rfl, rfl⟩
  by_cases h2 : 1 ≤ H ∧ H ≤ 128
  case neg =>
    clear h
    go_enter Try.func22, Try.ntmps22
    go_wp2_with (go_at_call 30; first | (refine (side_yes _ _ _ ?_).mono ?_; assumption; rintro e w' ⟨rfl, rfl⟩) | (refine (side_no _ _ _ ?_).mono ?_; assumption; rintro e w' ⟨rfl, rfl⟩))
    go_ret
    exact ⟨rfl, rfl⟩
  have h8 := (prod_le (show 0 ≤ W by omega) (show 0 ≤ H by omega) h1.2 h2.2)
  have e1 : wrap64 (W * H) = W * H := by unfold wrap64; generalize W * H = m at *; omega
  by_cases h3 : (n : Int) = W * H
  case neg =>
    have e2 : ((n : Int) != W * H) = true := by simp [h3]
    clear h h3
    go_enter Try.func22, Try.ntmps22
    go_wp2_with (go_at_call 30; first | (refine (side_yes _ _ _ ?_).mono ?_; assumption; rintro e w' ⟨rfl, rfl⟩) | (refine (side_no _ _ _ ?_).mono ?_; assumption; rintro e w' ⟨rfl, rfl⟩))
    go_ret
    exact ⟨rfl, rfl⟩
  have e2 : ((n : Int) != W * H) = false := by rw [h3]; simp
  by_cases h4 : 1 ≤ bw ∧ bw ≤ 16
  case neg =>
    clear h h3
    go_enter Try.func22, Try.ntmps22
    go_wp2_with (go_at_call 30; first | (refine (side_yes _ _ _ ?_).mono ?_; assumption; rintro e w' ⟨rfl, rfl⟩) | (refine (side_no _ _ _ ?_).mono ?_; assumption; rintro e w' ⟨rfl, rfl⟩))
    go_ret
    exact ⟨rfl, rfl⟩
  by_cases h5 : 1 ≤ bh ∧ bh ≤ 16
  case neg =>
    clear h h3
    go_enter Try.func22, Try.ntmps22
    go_wp2_with (go_at_call 30; first | (refine (side_yes _ _ _ ?_).mono ?_; assumption; rintro e w' ⟨rfl, rfl⟩) | (refine (side_no _ _ _ ?_).mono ?_; assumption; rintro e w' ⟨rfl, rfl⟩))
    go_ret
    exact ⟨rfl, rfl⟩
  have h6 : ¬ ((-4096 ≤ x ∧ x ≤ 4096) ∧ (-4096 ≤ y ∧ y ≤ 4096)) := fun q => h ⟨h1, h2, h3, h4, h5, q.1, q.2⟩
  clear h h3
  obtain ⟨nx, hnx⟩ : ∃ nx, nx = wrap64 (-x) := ⟨_, rfl⟩
  obtain ⟨ny, hny⟩ : ∃ ny, ny = wrap64 (-y) := ⟨_, rfl⟩
  have key : 4096 < max (max (max x nx) y) ny ∨ (¬ (4096 < max (max (max x nx) y) ny) ∧ min x y < -4096) := by
    unfold wrap64 at hnx hny
    omega
  rcases key with k1 | ⟨k1, k2⟩
  all_goals
    have e3 : wrap64 (-x) = nx := hnx.symm
    have e4 : wrap64 (-y) = ny := hny.symm
    clear hnx hny h6
    go_enter Try.func22, Try.ntmps22
    go_wp2_with (go_at_call 30; first | (refine (side_yes _ _ _ ?_).mono ?_; assumption; rintro e w' ⟨rfl, rfl⟩) | (refine (side_no _ _ _ ?_).mono ?_; assumption; rintro e w' ⟨rfl, rfl⟩))
    go_ret
    exact ⟨rfl, rfl⟩
theorem may_any (A : Option Addr) (n c : Nat) (W H x y bw bh : Int) (w : World) (hx : -9223372036854775808 ≤ x ∧ x ≤ 9223372036854775807) (hy : -9223372036854775808 ≤ y ∧ y ≤ 9223372036854775807) :
    Calls Try.prog 22 #[.slice A n c, .int .i64 W, .int .i64 H, .int .i64 x, .int .i64 y, .int .i64 bw, .int .i64 bh] w fun e w' => e = .returned (.int .i64 (fairC n W H x y bw bh)) ∧ w = w' := by
  unfold fairC
  cases hk : fairB n W H x y bw bh
  · exact may_no A n c W H x y bw bh w hk hx hy
  · exact may_yes A n c W H x y bw bh w hk

end Go.Proofs.Ytoagihocibeidaa
