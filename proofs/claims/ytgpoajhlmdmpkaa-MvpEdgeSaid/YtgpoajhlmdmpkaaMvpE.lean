/- The statements on package mvp: awake. -/
import Derived.Test.YtgpoajhlmdmpkaaMvpD
import Derived.Test.YtgpoajhlmdmpkaaMask
namespace Go.Proofs.Ytgpoajhlmdmpkaa
open Go.RowKit
set_option linter.unusedVariables false
set_option linter.unusedSimpArgs false

theorem aw1 (w : World) : Calls Try.prog 11 #[.agg #[.int .i64 0, .int .i64 0, .int .i64 0], .agg #[.int .i64 1, .int .i64 0, .int .i64 5, .int .i64 0, .int .i64 3, .int .i64 0], .int .i64 0, .int .i64 0, .int .i64 0] w fun e w' => e = .returned (.agg #[.int .i64 3, .int .i64 0]) ∧ Below w.heap.size w w' :=
  (pred_any _ _ _ _ _ _ _ _ _ _ _ _ w).mono fun _ _ h => ⟨h.1.trans (by kernel_rfl), h.2⟩
theorem aw2 (w : World) : Calls Try.prog 11 #[.agg #[.int .i64 0, .int .i64 1, .int .i64 1], .agg #[.int .i64 1, .int .i64 0, .int .i64 5, .int .i64 0, .int .i64 3, .int .i64 0], .int .i64 0, .int .i64 0, .int .i64 0] w fun e w' => e = .returned (.agg #[.int .i64 1, .int .i64 0]) ∧ Below w.heap.size w w' :=
  (pred_any _ _ _ _ _ _ _ _ _ _ _ _ w).mono fun _ _ h => ⟨h.1.trans (by kernel_rfl), h.2⟩
theorem aw3 (w : World) : Calls Try.prog 13 #[.agg #[.int .i64 1, .int .i64 1, .int .i64 1], .agg #[.int .i64 1, .int .i64 0, .int .i64 5, .int .i64 0, .int .i64 3, .int .i64 0], .agg #[.bool true, .bool false]] w fun e w' => e = .returned (.agg #[.int .i64 0, .int .i64 0]) ∧ Below w.heap.size w w' :=
  (skip_any _ _ _ _ _ _ _ _ _ _ _ w).mono fun _ _ h => ⟨h.1.trans (by kernel_rfl), h.2⟩
theorem aw4 (w : World) : Calls Try.prog 9 #[.int .i64 3, .int .i64 1, .int .i64 2] w fun e w' => e = .returned (.int .i64 2) ∧ w = w' :=
  (med_any _ _ _ w).mono fun _ _ h => ⟨h.1.trans (by kernel_rfl), h.2⟩

set_option maxRecDepth 100000 in
set_option maxHeartbeats 1600000 in
theorem awake_any (w : World) :
    Calls Try.prog 15 #[] w fun e w' => e = .returned (.bool true) ∧ Below w.heap.size w w' := by
  go_enter Try.func15, Try.ntmps15
  go_wp2_with fail
  refine (aw1 _).mono ?_
  rintro e w1 ⟨rfl, hb_w1⟩
  have hs_w1 : w.heap.size ≤ w1.heap.size := by have := hb_w1.size; simp at this; omega
  have hz_w1_0 : w.heap.size < w1.heap.size := by have := hb_w1.size; simp at this; omega
  have c_w1_0_0 : w1.cell? ⟨w.heap.size, 0, none⟩ = some (.int .i64 1) := (hb_w1.cell (by simp <;> omega)).trans (by simp [go_sem, *])
  have c_w1_0_1 : w1.cell? ⟨w.heap.size, 1, none⟩ = some (.int .i64 0) := (hb_w1.cell (by simp <;> omega)).trans (by simp [go_sem, *])
  have c_w1_0_2 : w1.cell? ⟨w.heap.size, 2, none⟩ = some (.int .i64 5) := (hb_w1.cell (by simp <;> omega)).trans (by simp [go_sem, *])
  have c_w1_0_3 : w1.cell? ⟨w.heap.size, 3, none⟩ = some (.int .i64 0) := (hb_w1.cell (by simp <;> omega)).trans (by simp [go_sem, *])
  have c_w1_0_4 : w1.cell? ⟨w.heap.size, 4, none⟩ = some (.int .i64 3) := (hb_w1.cell (by simp <;> omega)).trans (by simp [go_sem, *])
  have c_w1_0_5 : w1.cell? ⟨w.heap.size, 5, none⟩ = some (.int .i64 0) := (hb_w1.cell (by simp <;> omega)).trans (by simp [go_sem, *])
  have hB_w1 : Below w.heap.size w w1 := Below.trans (by repeat (first | exact Below.refl _ _ | assumption | refine Below.alloc ?_ (by first | omega | (simp <;> omega)) _ | refine Below.drew ?_ | refine Below.setCell ?_ (by first | omega | (simp <;> omega)) _)) (hb_w1.mono (by first | omega | (simp <;> omega)))
  clear hb_w1 
  go_wp2_with fail
  refine (aw2 _).mono ?_
  rintro e w2 ⟨rfl, hb_w2⟩
  have hs_w2 : w.heap.size ≤ w2.heap.size := by have := hb_w2.size; simp at this; omega
  have hz_w2_0 : w.heap.size < w2.heap.size := by have := hb_w2.size; simp at this; omega
  have hz_w2_1 : w1.heap.size < w2.heap.size := by have := hb_w2.size; simp at this; omega
  have c_w2_0_0 : w2.cell? ⟨w.heap.size, 0, none⟩ = some (.int .i64 1) := (hb_w2.cell (by simp <;> omega)).trans (by simp [go_sem, *])
  have c_w2_0_1 : w2.cell? ⟨w.heap.size, 1, none⟩ = some (.int .i64 0) := (hb_w2.cell (by simp <;> omega)).trans (by simp [go_sem, *])
  have c_w2_0_2 : w2.cell? ⟨w.heap.size, 2, none⟩ = some (.int .i64 5) := (hb_w2.cell (by simp <;> omega)).trans (by simp [go_sem, *])
  have c_w2_0_3 : w2.cell? ⟨w.heap.size, 3, none⟩ = some (.int .i64 0) := (hb_w2.cell (by simp <;> omega)).trans (by simp [go_sem, *])
  have c_w2_0_4 : w2.cell? ⟨w.heap.size, 4, none⟩ = some (.int .i64 3) := (hb_w2.cell (by simp <;> omega)).trans (by simp [go_sem, *])
  have c_w2_0_5 : w2.cell? ⟨w.heap.size, 5, none⟩ = some (.int .i64 0) := (hb_w2.cell (by simp <;> omega)).trans (by simp [go_sem, *])
  have c_w2_1_0 : w2.cell? ⟨w1.heap.size, 0, none⟩ = some (.int .i64 3) := (hb_w2.cell (by simp <;> omega)).trans (by simp [go_sem, *])
  have c_w2_1_1 : w2.cell? ⟨w1.heap.size, 1, none⟩ = some (.int .i64 0) := (hb_w2.cell (by simp <;> omega)).trans (by simp [go_sem, *])
  have hB_w2 : Below w.heap.size w w2 := Below.trans (by repeat (first | exact Below.refl _ _ | assumption | refine Below.alloc ?_ (by first | omega | (simp <;> omega)) _ | refine Below.drew ?_ | refine Below.setCell ?_ (by first | omega | (simp <;> omega)) _)) (hb_w2.mono (by first | omega | (simp <;> omega)))
  clear hb_w2 c_w1_0_0 c_w1_0_1 c_w1_0_2 c_w1_0_3 c_w1_0_4 c_w1_0_5 hB_w1
  go_wp2_with fail
  refine (aw3 _).mono ?_
  rintro e w3 ⟨rfl, hb_w3⟩
  have hs_w3 : w.heap.size ≤ w3.heap.size := by have := hb_w3.size; simp at this; omega
  have hz_w3_0 : w1.heap.size < w3.heap.size := by have := hb_w3.size; simp at this; omega
  have hz_w3_1 : w2.heap.size < w3.heap.size := by have := hb_w3.size; simp at this; omega
  have c_w3_0_0 : w3.cell? ⟨w1.heap.size, 0, none⟩ = some (.int .i64 3) := (hb_w3.cell (by simp <;> omega)).trans (by simp [go_sem, *])
  have c_w3_0_1 : w3.cell? ⟨w1.heap.size, 1, none⟩ = some (.int .i64 0) := (hb_w3.cell (by simp <;> omega)).trans (by simp [go_sem, *])
  have c_w3_1_0 : w3.cell? ⟨w2.heap.size, 0, none⟩ = some (.int .i64 1) := (hb_w3.cell (by simp <;> omega)).trans (by simp [go_sem, *])
  have c_w3_1_1 : w3.cell? ⟨w2.heap.size, 1, none⟩ = some (.int .i64 0) := (hb_w3.cell (by simp <;> omega)).trans (by simp [go_sem, *])
  have hB_w3 : Below w.heap.size w w3 := Below.trans (by repeat (first | exact Below.refl _ _ | assumption | refine Below.alloc ?_ (by first | omega | (simp <;> omega)) _ | refine Below.drew ?_ | refine Below.setCell ?_ (by first | omega | (simp <;> omega)) _)) (hb_w3.mono (by first | omega | (simp <;> omega)))
  clear hb_w3 c_w2_0_0 c_w2_0_1 c_w2_0_2 c_w2_0_3 c_w2_0_4 c_w2_0_5 c_w2_1_0 c_w2_1_1 hB_w2
  go_wp2_with fail
  refine (aw4 _).mono ?_
  rintro e w' ⟨rfl, rfl⟩
  go_wp2_with fail
  refine (num_any _ _).mono ?_
  rintro e w' ⟨rfl, rfl⟩
  go_wp2_with fail
  go_ret
  exact ⟨rfl, (by repeat (first | exact Below.refl _ _ | assumption | refine Below.alloc ?_ (by first | omega | (simp <;> omega)) _ | refine Below.drew ?_ | refine Below.setCell ?_ (by first | omega | (simp <;> omega)) _))⟩

end Go.Proofs.Ytgpoajhlmdmpkaa
