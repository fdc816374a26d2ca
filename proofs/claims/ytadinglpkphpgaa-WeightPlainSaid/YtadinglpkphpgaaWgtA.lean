/- samples, in, Clip of both, Num: contracts. -/
import Derived.Test.YtadinglpkphpgaaSlice
namespace Go.Proofs.Ytadinglpkphpgaa
open Go.RowKit
set_option linter.unusedVariables false
attribute [local go_sem] ite_max ite_min

def okS (x : Int) : Bool := decide (0 ≤ x ∧ x ≤ 255)
def allS (n : Nat) (z : Nat → Int) : Bool := decide (∀ k, k < n → 0 ≤ z k ∧ z k ≤ 255)
def clip (x : Int) : Int := min (max x 0) 255

set_option maxHeartbeats 400000 in
theorem num_any (x : Int) (w : World) :
    Calls Try.prog 16 #[.int .i64 x] w fun e w' => e = .returned (.int .i64 x) ∧ w = w' := by
  go_enter Try.func16, Try.ntmps16
  go_wp2
  go_ret
  exact ⟨rfl, rfl⟩
set_option maxHeartbeats 400000 in
theorem clip_any (x : Int) (w : World) :
    Calls Try.prog 17 #[.int .i64 x] w fun e w' => e = .returned (.int .i64 (clip x)) ∧ w = w' := by
  go_enter Try.func17, Try.ntmps17
  go_wp2
  go_ret
  exact ⟨ret_int rfl, rfl⟩
set_option maxHeartbeats 400000 in
theorem clip2_any (x : Int) (w : World) :
    Calls Try.prog 26 #[.int .i64 x] w fun e w' => e = .returned (.int .i64 (clip x)) ∧ w = w' := by
  go_enter Try.func26, Try.ntmps26
  go_wp2
  go_ret
  exact ⟨ret_int (by unfold clip; omega), rfl⟩
def inB (x lo hi : Int) : Bool := decide (lo ≤ x ∧ x ≤ hi)
set_option maxHeartbeats 400000 in
theorem in_any (x lo hi : Int) (w : World) :
    Calls Try.prog 23 #[.int .i64 x, .int .i64 lo, .int .i64 hi] w fun e w' => e = .returned (.bool (inB x lo hi)) ∧ w = w' := by
  rcases (by omega : x < lo ∨ (lo ≤ x ∧ x ≤ hi) ∨ (lo ≤ x ∧ hi < x)) with h | ⟨h, h'⟩ | ⟨h, h'⟩
  all_goals
    go_enter Try.func23, Try.ntmps23
    go_wp2
    go_ret
    refine ⟨ret_bool ?_, rfl⟩
    unfold inB
    first | (symm; rw [decide_eq_true_iff]; omega) | (symm; rw [decide_eq_false_iff_not]; omega) | (rw [decide_eq_decide]; omega)
theorem in_yes (x lo hi : Int) (h : lo ≤ x ∧ x ≤ hi) (w : World) :
    Calls Try.prog 23 #[.int .i64 x, .int .i64 lo, .int .i64 hi] w fun e w' => e = .returned (.bool true) ∧ w = w' :=
  (in_any x lo hi w).mono fun _ _ g => ⟨g.1.trans (ret_bool (decide_eq_true h)), g.2⟩
theorem in_no (x lo hi : Int) (h : ¬ (lo ≤ x ∧ x ≤ hi)) (w : World) :
    Calls Try.prog 23 #[.int .i64 x, .int .i64 lo, .int .i64 hi] w fun e w' => e = .returned (.bool false) ∧ w = w' :=
  (in_any x lo hi w).mono fun _ _ g => ⟨g.1.trans (ret_bool (decide_eq_false h)), g.2⟩

set_option maxHeartbeats 800000 in
theorem samples_any (A : Option Addr) (n c B : Nat) (z : Nat → Int) (w : World) (h : Ri w B A n z) (hn : n ≤ 1152921504606846976) :
    Calls Try.prog 24 #[.slice A n c] w fun e w' => e = .returned (.bool (allS n z)) ∧ w = w' := by
  go_enter Try.func24, Try.ntmps24
  go_wp2_with fail
  go_loop [4, 7] (fun s4 i => ∃ k : Nat, k ≤ n ∧ i = .int .i64 k ∧ ∀ j, j < k → 0 ≤ z j ∧ z j ≤ 255) (fun _ i => n - (intOf i).toNat)
  case atStart => exact ⟨0, Nat.zero_le _, rfl, fun j hj => absurd hj (by omega)⟩
  case round =>
    obtain ⟨k, hk, rfl, hall⟩ := hrel
    have HA := Lib.hid hall
    clear hall
    by_cases hlt : k < n
    · obtain ⟨ad, rfl, hb, hc⟩ := Rd.at_ h hlt
      have H := Lib.hid h
      clear h
      by_cases hz : 0 ≤ z k ∧ z k ≤ 255
      · go_wp2_with (go_at_call 23; refine (in_yes _ _ _ hz _).mono ?_; rintro e w' ⟨rfl, rfl⟩)
        go_round
        case rel =>
          refine ⟨k + 1, by omega, by go_num, fun j hj => ?_⟩
          by_cases hjk : j = k
          · subst hjk; exact hz
          · exact HA.out j (by omega)
        case measure => simp [intOf]; omega
      · go_wp2_with (go_at_call 23; refine (in_no _ _ _ hz _).mono ?_; rintro e w' ⟨rfl, rfl⟩)
        go_ret
        refine ⟨ret_bool ?_, rfl⟩
        symm
        exact decide_eq_false fun g => hz (g k hlt)
    · go_wp2_with fail
      go_ret
      refine ⟨ret_bool ?_, rfl⟩
      symm
      exact decide_eq_true fun j hj => HA.out j (by omega)

end Go.Proofs.Ytadinglpkphpgaa
