/- The statements on package mvp: MvpPredicts, MvpMedians. -/
import Derived.Test.YtgpoajhlmdmpkaaMvpE
namespace Go.Proofs.Ytgpoajhlmdmpkaa
open Go.RowKit
set_option linter.unusedVariables false
set_option linter.unusedSimpArgs false

set_option maxRecDepth 100000 in
set_option maxHeartbeats 3200000 in
theorem walk_MvpPredicts (a0_0 : Int) (a0_1 : Int) (a0_2 : Int) (a1_0_X : Int) (a1_0_Y : Int) (a1_1_X : Int) (a1_1_Y : Int) (a1_2_X : Int) (a1_2_Y : Int) (a2 : Int) (a3 : Int) (a4 : Int) (a5_0 : Bool) (a5_1 : Bool) (w : World) (w_a0_0 : (Lit.int .i64 a0_0).wf = true) (w_a0_1 : (Lit.int .i64 a0_1).wf = true) (w_a0_2 : (Lit.int .i64 a0_2).wf = true) (w_a1_0_X : (Lit.int .i64 a1_0_X).wf = true) (w_a1_0_Y : (Lit.int .i64 a1_0_Y).wf = true) (w_a1_1_X : (Lit.int .i64 a1_1_X).wf = true) (w_a1_1_Y : (Lit.int .i64 a1_1_Y).wf = true) (w_a1_2_X : (Lit.int .i64 a1_2_X).wf = true) (w_a1_2_Y : (Lit.int .i64 a1_2_Y).wf = true) (w_a2 : (Lit.int .i64 a2).wf = true) (w_a3 : (Lit.int .i64 a3).wf = true) (w_a4 : (Lit.int .i64 a4).wf = true) :
    Calls Try.prog 3 #[.agg #[.int .i64 a0_0, .int .i64 a0_1, .int .i64 a0_2], .agg #[.int .i64 a1_0_X, .int .i64 a1_0_Y, .int .i64 a1_1_X, .int .i64 a1_1_Y, .int .i64 a1_2_X, .int .i64 a1_2_Y], .int .i64 a2, .int .i64 a3, .int .i64 a4, .agg #[.bool a5_0, .bool a5_1]] w fun e w' => e = .returned (.bool true) ∧ Below w.heap.size w w' := by
  clear w_a0_0 w_a0_1 w_a0_2 w_a1_0_X w_a1_0_Y w_a1_1_X w_a1_1_Y w_a1_2_X w_a1_2_Y w_a2 w_a3 w_a4
  go_enter Try.func3, Try.ntmps3
  go_wp2_with fail
  go_region_held3 (fun w' => w'.cell? ⟨w.heap.size, 0, none⟩ = some (.int .i64 a0_0) ∧ w'.cell? ⟨w.heap.size, 1, none⟩ = some (.int .i64 a0_1) ∧ w'.cell? ⟨w.heap.size, 2, none⟩ = some (.int .i64 a0_2) ∧ w'.cell? ⟨w.heap.size + 1, 0, none⟩ = some (.int .i64 a1_0_X) ∧ w'.cell? ⟨w.heap.size + 1, 1, none⟩ = some (.int .i64 a1_0_Y) ∧ w'.cell? ⟨w.heap.size + 1, 2, none⟩ = some (.int .i64 a1_1_X) ∧ w'.cell? ⟨w.heap.size + 1, 3, none⟩ = some (.int .i64 a1_1_Y) ∧ w'.cell? ⟨w.heap.size + 1, 4, none⟩ = some (.int .i64 a1_2_X) ∧ w'.cell? ⟨w.heap.size + 1, 5, none⟩ = some (.int .i64 a1_2_Y) ∧ w'.cell? ⟨w.heap.size + 1 + 1, 0, none⟩ = some (.bool a5_0) ∧ w'.cell? ⟨w.heap.size + 1 + 1, 1, none⟩ = some (.bool a5_1) ∧ w.heap.size < w'.heap.size ∧ w.heap.size + 1 < w'.heap.size ∧ w.heap.size + 1 + 1 < w'.heap.size ∧ w.heap.size ≤ w'.heap.size ∧ Below w.heap.size w w')
    (first | (refine ⟨by simp [go_sem, *], by simp [go_sem, *], by simp [go_sem, *], by simp [go_sem, *], by simp [go_sem, *], by simp [go_sem, *], by simp [go_sem, *], by simp [go_sem, *], by simp [go_sem, *], by simp [go_sem, *], by simp [go_sem, *], by simp [go_sem] <;> omega, by simp [go_sem] <;> omega, by simp [go_sem] <;> omega, by simp [go_sem] <;> omega, (by repeat (first | exact Below.refl _ _ | assumption | refine Below.alloc ?_ (by first | omega | (simp <;> omega)) _ | refine Below.drew ?_ | refine Below.setCell ?_ (by first | omega | (simp <;> omega)) _))⟩) | (go_split_ands; refine ⟨(hbh2.cell (by simp <;> omega)).trans (by assumption), (hbh2.cell (by simp <;> omega)).trans (by assumption), (hbh2.cell (by simp <;> omega)).trans (by assumption), (hbh2.cell (by simp <;> omega)).trans (by assumption), (hbh2.cell (by simp <;> omega)).trans (by assumption), (hbh2.cell (by simp <;> omega)).trans (by assumption), (hbh2.cell (by simp <;> omega)).trans (by assumption), (hbh2.cell (by simp <;> omega)).trans (by assumption), (hbh2.cell (by simp <;> omega)).trans (by assumption), (hbh2.cell (by simp <;> omega)).trans (by assumption), (hbh2.cell (by simp <;> omega)).trans (by assumption), by have := hbh2.size; omega, by have := hbh2.size; omega, by have := hbh2.size; omega, by have := hbh2.size; omega, Below.trans (by assumption) (hbh2.mono (by omega))⟩) | (go_split_ands; refine ⟨(hbh3.cell (by simp <;> omega)).trans (by assumption), (hbh3.cell (by simp <;> omega)).trans (by assumption), (hbh3.cell (by simp <;> omega)).trans (by assumption), (hbh3.cell (by simp <;> omega)).trans (by assumption), (hbh3.cell (by simp <;> omega)).trans (by assumption), (hbh3.cell (by simp <;> omega)).trans (by assumption), (hbh3.cell (by simp <;> omega)).trans (by assumption), (hbh3.cell (by simp <;> omega)).trans (by assumption), (hbh3.cell (by simp <;> omega)).trans (by assumption), (hbh3.cell (by simp <;> omega)).trans (by assumption), (hbh3.cell (by simp <;> omega)).trans (by assumption), by have := hbh3.size; omega, by have := hbh3.size; omega, by have := hbh3.size; omega, by have := hbh3.size; omega, Below.trans (by assumption) (hbh3.mono (by omega))⟩) | (go_split_ands; refine ⟨(hbh4.cell (by simp <;> omega)).trans (by assumption), (hbh4.cell (by simp <;> omega)).trans (by assumption), (hbh4.cell (by simp <;> omega)).trans (by assumption), (hbh4.cell (by simp <;> omega)).trans (by assumption), (hbh4.cell (by simp <;> omega)).trans (by assumption), (hbh4.cell (by simp <;> omega)).trans (by assumption), (hbh4.cell (by simp <;> omega)).trans (by assumption), (hbh4.cell (by simp <;> omega)).trans (by assumption), (hbh4.cell (by simp <;> omega)).trans (by assumption), (hbh4.cell (by simp <;> omega)).trans (by assumption), (hbh4.cell (by simp <;> omega)).trans (by assumption), by have := hbh4.size; omega, by have := hbh4.size; omega, by have := hbh4.size; omega, by have := hbh4.size; omega, Below.trans (by assumption) (hbh4.mono (by omega))⟩) | (go_split_ands; refine ⟨(hbh5.cell (by simp <;> omega)).trans (by assumption), (hbh5.cell (by simp <;> omega)).trans (by assumption), (hbh5.cell (by simp <;> omega)).trans (by assumption), (hbh5.cell (by simp <;> omega)).trans (by assumption), (hbh5.cell (by simp <;> omega)).trans (by assumption), (hbh5.cell (by simp <;> omega)).trans (by assumption), (hbh5.cell (by simp <;> omega)).trans (by assumption), (hbh5.cell (by simp <;> omega)).trans (by assumption), (hbh5.cell (by simp <;> omega)).trans (by assumption), (hbh5.cell (by simp <;> omega)).trans (by assumption), (hbh5.cell (by simp <;> omega)).trans (by assumption), by have := hbh5.size; omega, by have := hbh5.size; omega, by have := hbh5.size; omega, by have := hbh5.size; omega, Below.trans (by assumption) (hbh5.mono (by omega))⟩) | (go_split_ands; refine ⟨(hbh6.cell (by simp <;> omega)).trans (by assumption), (hbh6.cell (by simp <;> omega)).trans (by assumption), (hbh6.cell (by simp <;> omega)).trans (by assumption), (hbh6.cell (by simp <;> omega)).trans (by assumption), (hbh6.cell (by simp <;> omega)).trans (by assumption), (hbh6.cell (by simp <;> omega)).trans (by assumption), (hbh6.cell (by simp <;> omega)).trans (by assumption), (hbh6.cell (by simp <;> omega)).trans (by assumption), (hbh6.cell (by simp <;> omega)).trans (by assumption), (hbh6.cell (by simp <;> omega)).trans (by assumption), (hbh6.cell (by simp <;> omega)).trans (by assumption), by have := hbh6.size; omega, by have := hbh6.size; omega, by have := hbh6.size; omega, by have := hbh6.size; omega, Below.trans (by assumption) (hbh6.mono (by omega))⟩) | go_keep)
    (first | (go_at_call 9; refine (med_any _ _ _ _).mono ?_; rintro e w' ⟨rfl, rfl⟩) | (go_at_call 10; refine (med2_any _ _ _ _).mono ?_; rintro e w' ⟨rfl, rfl⟩) | (go_at_call 11; refine (pred_any _ _ _ _ _ _ _ _ _ _ _ _ _).mono ?_; rintro e wh2 ⟨rfl, hbh2⟩) | (go_at_call 12; refine (pred2_any _ _ _ _ _ _ _ _ _ _ _ _ _).mono ?_; rintro e wh3 ⟨rfl, hbh3⟩) | (go_at_call 13; refine (skip_any _ _ _ _ _ _ _ _ _ _ _ _).mono ?_; rintro e wh4 ⟨rfl, hbh4⟩) | (go_at_call 14; refine (skip2_any _ _ _ _ _ _ _ _ _ _ _ _).mono ?_; rintro e wh5 ⟨rfl, hbh5⟩) | (go_at_call 15; refine (awake_any _).mono ?_; rintro e wh6 ⟨rfl, hbh6⟩))
  go_wp2
  go_ret
  go_split_ands
  exact ⟨rfl, by assumption⟩

theorem med_mem (a b c : Int) : (med a b c = a ∨ med a b c = b ∨ med a b c = c) := by unfold med; omega
theorem med_t1 (a b c : Int) : med b c a = med a b c := by unfold med; omega
theorem med_t2 (a b c : Int) : med c b a = med a b c := by unfold med; omega

set_option maxRecDepth 100000 in
set_option maxHeartbeats 3200000 in
theorem walk_MvpMedians (a0 : Int) (a1 : Int) (a2 : Int) (w : World) (w_a0 : (Lit.int .i64 a0).wf = true) (w_a1 : (Lit.int .i64 a1).wf = true) (w_a2 : (Lit.int .i64 a2).wf = true) :
    Calls Try.prog 4 #[.int .i64 a0, .int .i64 a1, .int .i64 a2] w fun e w' => e = .returned (.bool true) ∧ Below w.heap.size w w' := by
  clear w_a0 w_a1 w_a2
  have h1 := med_mem a0 a1 a2
  have hm : ((a0 ≤ med a0 a1 a2 ∧ a1 ≤ med a0 a1 a2) ∨ (a0 ≤ med a0 a1 a2 ∧ a2 ≤ med a0 a1 a2) ∨ (a1 ≤ med a0 a1 a2 ∧ a2 ≤ med a0 a1 a2)) ∧ ((med a0 a1 a2 ≤ a0 ∧ med a0 a1 a2 ≤ a1) ∨ (med a0 a1 a2 ≤ a0 ∧ med a0 a1 a2 ≤ a2) ∨ (med a0 a1 a2 ≤ a1 ∧ med a0 a1 a2 ≤ a2)) := by unfold med; omega
  have HM : ∀ w, Calls Try.prog 9 #[.int .i64 a0, .int .i64 a1, .int .i64 a2] w fun e w' => e = .returned (.int .i64 (med a0 a1 a2)) ∧ w = w' := med_any a0 a1 a2
  have HN : ∀ w, Calls Try.prog 9 #[.int .i64 a1, .int .i64 a2, .int .i64 a0] w fun e w' => e = .returned (.int .i64 (med a0 a1 a2)) ∧ w = w' := fun w => (med_any a1 a2 a0 w).mono fun _ _ h => ⟨h.1.trans (by rw [med_t1]), h.2⟩
  have HO : ∀ w, Calls Try.prog 9 #[.int .i64 a2, .int .i64 a1, .int .i64 a0] w fun e w' => e = .returned (.int .i64 (med a0 a1 a2)) ∧ w = w' := fun w => (med_any a2 a1 a0 w).mono fun _ _ h => ⟨h.1.trans (by rw [med_t2]), h.2⟩
  generalize med a0 a1 a2 = m at *
  have KM := Lib.hid HM
  have KN := Lib.hid HN
  have KO := Lib.hid HO
  clear HM HN HO
  have g : ((m == a0) = true ∨ ((m == a0) = false ∧ (m == a1) = true) ∨ ((m == a0) = false ∧ (m == a1) = false ∧ (m == a2) = true)) := by
    by_cases e0 : m = a0
    · simp [e0]
    · by_cases e1 : m = a1
      · simp_all
      · have e2 : m = a2 := by omega
        simp_all
  obtain ⟨b0, hb0⟩ : ∃ b, b = decide (a0 ≤ m) := ⟨_, rfl⟩
  have g0 : (a0 < m) ∨ (a0 = m) ∨ (m < a0) := by omega
  have g1 : (a1 < m) ∨ (a1 = m) ∨ (m < a1) := by omega
  have g2 : (a2 < m) ∨ (a2 = m) ∨ (m < a2) := by omega
  have G0 : (a0 < m) ∨ (a0 ≤ m ∧ m ≤ a0) ∨ (m < a0) := by omega
  have G1 : (a1 < m) ∨ (a1 ≤ m ∧ m ≤ a1) ∨ (m < a1) := by omega
  have G2 : (a2 < m) ∨ (a2 ≤ m ∧ m ≤ a2) ∨ (m < a2) := by omega
  clear h1 g0 g1 g2 hb0 b0
  rcases G0 with G0 | ⟨G0, G0'⟩ | G0 <;> rcases G1 with G1 | ⟨G1, G1'⟩ | G1 <;> rcases G2 with G2 | ⟨G2, G2'⟩ | G2
  all_goals first
    | (exfalso; omega)
    | (clear hm
       rcases g with g | ⟨g, g'⟩ | ⟨g, g', g''⟩
       all_goals first
         | (exfalso; simp at *; omega)
         | (go_enter Try.func4, Try.ntmps4
            go_wp2_with fail
            refine (awake_any _).mono ?_
            rintro e w1 ⟨rfl, hb_w1⟩
            have hs_w1 : w.heap.size ≤ w1.heap.size := by have := hb_w1.size; (try simp at this); omega
            have hB_w1 : Below w.heap.size w w1 := Below.trans (by repeat (first | exact Below.refl _ _ | assumption | refine Below.alloc ?_ (by first | omega | (simp <;> omega)) _ | refine Below.drew ?_ | refine Below.setCell ?_ (by first | omega | (simp <;> omega)) _)) (hb_w1.mono (by first | omega | (simp <;> omega)))
            clear hb_w1 
            go_wp2_with fail
            refine (KM.out _).mono ?_
            rintro e w' ⟨rfl, rfl⟩
            go_wp2_with fail
            refine wp_loop_rounds 4 ?_
            iterate 4 (rw [rounds_succ]; go_wp2_with fail)
            refine (KN.out _).mono ?_
            rintro e w' ⟨rfl, rfl⟩
            go_wp2_with fail
            refine (KO.out _).mono ?_
            rintro e w' ⟨rfl, rfl⟩
            go_wp2_with fail
            go_ret
            exact ⟨rfl, (by repeat (first | exact Below.refl _ _ | assumption | refine Below.alloc ?_ (by first | omega | (simp <;> omega)) _ | refine Below.drew ?_ | refine Below.setCell ?_ (by first | omega | (simp <;> omega)) _))⟩))

end Go.Proofs.Ytgpoajhlmdmpkaa
