/- The statements on package direct: the walks of DirectLeast and DirectScales. -/
import Derived.Test.YtahnfecohdflnaaDirH
namespace Go.Proofs.Ytahnfecohdflnaa
open Go.RowKit
set_option linter.unusedVariables false

theorem least_neg (a b c : Int) (h : a < 0 ∧ b < 0 ∧ c < 0) : least a b c = -1 := by unfold least least1; omega
theorem least_pos (a b c : Int) (h : ¬ (a < 0 ∧ b < 0 ∧ c < 0)) : 0 ≤ least a b c ∧ (least a b c = a ∨ least a b c = b ∨ least a b c = c) ∧ (a < 0 ∨ least a b c ≤ a) ∧ (b < 0 ∨ least a b c ≤ b) ∧ (c < 0 ∨ least a b c ≤ c) := by unfold least least1; omega
theorem least_turn (a b c : Int) : least c a b = least a b c := by unfold least least1; omega

theorem refs_neg (a b c : Int) (w : World) (h : a < 0 ∧ b < 0 ∧ c < 0) :
    Calls Try.prog 12 #[.agg #[.int .i64 a, .int .i64 b, .int .i64 c]] w fun e w' => e = .returned (.int .i64 (-1)) ∧ Below w.heap.size w w' :=
  (refs_any a b c w).mono fun _ _ hh => ⟨hh.1.trans (by rw [least_neg a b c h]), hh.2⟩

set_option maxHeartbeats 1600000 in
theorem walk_DirectLeast (a0 : Int) (a1 : Int) (a2 : Int) (w : World) (w_a0 : (Lit.int .i64 a0).wf = true) (w_a1 : (Lit.int .i64 a1).wf = true) (w_a2 : (Lit.int .i64 a2).wf = true) :
    Calls Try.prog 6 #[.int .i64 a0, .int .i64 a1, .int .i64 a2] w fun e w' => e = .returned (.bool true) ∧ Below w.heap.size w w' := by
  clear w_a0 w_a1 w_a2
  by_cases h : a0 < 0 ∧ a1 < 0 ∧ a2 < 0
  · obtain ⟨x, y, z⟩ := h
    go_enter Try.func6, Try.ntmps6
    go_wp2_with fail
    refine (awake_any _).mono ?_
    rintro e w1 ⟨rfl, hb1⟩
    go_wp2_with fail
    refine (refs_neg _ _ _ _ ⟨x, y, z⟩).mono ?_
    rintro e w2 ⟨rfl, hb2⟩
    go_wp2_with fail
    go_ret
    exact ⟨rfl, hb1.trans (hb2.mono hb1.size)⟩
  · have h1 := least_pos a0 a1 a2 h
    have hq : (least a0 a1 a2 == least a2 a0 a1) = true := by rw [least_turn a0 a1 a2]; simp
    have HR : ∀ w, Calls Try.prog 12 #[.agg #[.int .i64 a0, .int .i64 a1, .int .i64 a2]] w fun e w' => e = .returned (.int .i64 (least a0 a1 a2)) ∧ Below w.heap.size w w' := refs_any a0 a1 a2
    have HS : ∀ w, Calls Try.prog 12 #[.agg #[.int .i64 a2, .int .i64 a0, .int .i64 a1]] w fun e w' => e = .returned (.int .i64 (least a2 a0 a1)) ∧ Below w.heap.size w w' := refs_any a2 a0 a1
    have KR := Lib.hid HR
    have KS := Lib.hid HS
    clear HR HS
    generalize least a0 a1 a2 = r at *
    generalize least a2 a0 a1 = q at *
    obtain ⟨h2, h3, h4, h5, h6⟩ := h1
    have g : (a0 < 0 ∨ 0 ≤ a0) ∧ (a1 < 0 ∨ 0 ≤ a1) ∧ (a2 < 0 ∨ 0 ≤ a2) ∧ ((r == a0) = true ∨ ((r == a0) = false ∧ (r == a1) = true) ∨ ((r == a0) = false ∧ (r == a1) = false ∧ (r == a2) = true)) := by
      refine ⟨by omega, by omega, by omega, ?_⟩
      by_cases e0 : r = a0
      · simp [e0]
      · by_cases e1 : r = a1
        · simp_all
        · have e2 : r = a2 := by omega
          simp_all
    obtain ⟨g0, g1, g2, g3⟩ := g
    clear h3
    rcases g0 with g0 | g0 <;> rcases g1 with g1 | g1 <;> rcases g2 with g2 | g2 <;> rcases g3 with g3 | ⟨g3, g4⟩ | ⟨g3, g4, g5⟩
    all_goals first
      | (exfalso; simp at *; omega)
      | (clear h
         have h4' := h4
         try (have h4 : r ≤ a0 := by omega)
         try (have h5 : r ≤ a1 := by omega)
         try (have h6 : r ≤ a2 := by omega)
         go_enter Try.func6, Try.ntmps6
         go_wp2_with fail
         refine (awake_any _).mono ?_
         rintro e w1 ⟨rfl, hb1⟩
         go_wp2_with fail
         refine (KR.out _).mono ?_
         rintro e w2 ⟨rfl, hb2⟩
         go_wp2_with fail
         refine (KS.out _).mono ?_
         rintro e w3 ⟨rfl, hb3⟩
         go_wp2_with fail
         go_ret
         exact ⟨rfl, (hb1.trans (hb2.mono hb1.size)).trans (hb3.mono (Nat.le_trans hb1.size hb2.size))⟩)

end Go.Proofs.Ytahnfecohdflnaa
