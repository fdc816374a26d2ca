/- The statements on package mvp: MvpStill, MvpEdge. -/
import Derived.Test.YtgpoajhlmdmpkaaMvpG
namespace Go.Proofs.Ytgpoajhlmdmpkaa
open Go.RowKit
set_option linter.unusedVariables false
set_option linter.unusedSimpArgs false
attribute [local go_sem] and_1 and_3

theorem skip_no1 (h r0 r1 r2 x0 y0 x1 y1 a b c) : skipV h false r0 r1 r2 x0 y0 x1 y1 a b c = 0 := by simp [skipV, stopB]
theorem skip_no0 (h r0 r1 r2 x0 y0 x1 y1 a b c) : skipV false h r0 r1 r2 x0 y0 x1 y1 a b c = 0 := by simp [skipV, stopB]
theorem skip_still0 (h0 h1 r1 r2 x1 y1 a b c) : skipV h0 h1 0 r1 r2 0 0 x1 y1 a b c = 0 := by simp [skipV, stopB]
theorem skip_still1 (h0 h1 r0 r2 x0 y0 a b c) : skipV h0 h1 r0 0 r2 x0 y0 0 0 a b c = 0 := by simp [skipV, stopB]

set_option maxRecDepth 100000 in
set_option maxHeartbeats 3200000 in
theorem walk_MvpStill (a0_0_X : Int) (a0_0_Y : Int) (a0_1_X : Int) (a0_1_Y : Int) (a0_2_X : Int) (a0_2_Y : Int) (a1 : Int) (w : World) (w_a0_0_X : (Lit.int .i64 a0_0_X).wf = true) (w_a0_0_Y : (Lit.int .i64 a0_0_Y).wf = true) (w_a0_1_X : (Lit.int .i64 a0_1_X).wf = true) (w_a0_1_Y : (Lit.int .i64 a0_1_Y).wf = true) (w_a0_2_X : (Lit.int .i64 a0_2_X).wf = true) (w_a0_2_Y : (Lit.int .i64 a0_2_Y).wf = true) (w_a1 : (Lit.int .i64 a1).wf = true) :
    Calls Try.prog 7 #[.agg #[.int .i64 a0_0_X, .int .i64 a0_0_Y, .int .i64 a0_1_X, .int .i64 a0_1_Y, .int .i64 a0_2_X, .int .i64 a0_2_Y], .int .i64 a1] w fun e w' => e = .returned (.bool true) ∧ Below w.heap.size w w' := by
  clear w_a0_0_X w_a0_0_Y w_a0_1_X w_a0_1_Y w_a0_2_X w_a0_2_Y w_a1
  have f1 := skip_no1
  have f2 := skip_no0
  have f3 := skip_still0
  have f4 := skip_still1
  have e1 : skipV true true 0 0 0 1 0 1 0 1 1 1 = 1 := by kernel_rfl
  have e2 : skipV true true 0 0 0 1 0 1 0 0 0 0 = 0 := by kernel_rfl
  have hk' : a1 % 2 = 0 ∨ a1 % 2 = 1 := by omega
  rcases hk' with hk | hk
  · clear f4
    go_enter Try.func7, Try.ntmps7
    go_wp2_with fail
    refine (awake_any _).mono ?_
    rintro e w1 ⟨rfl, hb_w1⟩
    have hs_w1 : w.heap.size ≤ w1.heap.size := by have := hb_w1.size; (try simp at this); omega
    have hz_w1_0 : w.heap.size < w1.heap.size := by have := hb_w1.size; (try simp at this); omega
    have c_w1_0_0 : w1.cell? ⟨w.heap.size, 0, none⟩ = some (.int .i64 a0_0_X) := (hb_w1.cell (by simp <;> omega)).trans (by simp [go_sem, *])
    have c_w1_0_1 : w1.cell? ⟨w.heap.size, 1, none⟩ = some (.int .i64 a0_0_Y) := (hb_w1.cell (by simp <;> omega)).trans (by simp [go_sem, *])
    have c_w1_0_2 : w1.cell? ⟨w.heap.size, 2, none⟩ = some (.int .i64 a0_1_X) := (hb_w1.cell (by simp <;> omega)).trans (by simp [go_sem, *])
    have c_w1_0_3 : w1.cell? ⟨w.heap.size, 3, none⟩ = some (.int .i64 a0_1_Y) := (hb_w1.cell (by simp <;> omega)).trans (by simp [go_sem, *])
    have c_w1_0_4 : w1.cell? ⟨w.heap.size, 4, none⟩ = some (.int .i64 a0_2_X) := (hb_w1.cell (by simp <;> omega)).trans (by simp [go_sem, *])
    have c_w1_0_5 : w1.cell? ⟨w.heap.size, 5, none⟩ = some (.int .i64 a0_2_Y) := (hb_w1.cell (by simp <;> omega)).trans (by simp [go_sem, *])
    have hB_w1 : Below w.heap.size w w1 := Below.trans (by repeat (first | exact Below.refl _ _ | assumption | refine Below.alloc ?_ (by first | omega | (simp <;> omega)) _ | refine Below.drew ?_ | refine Below.setCell ?_ (by first | omega | (simp <;> omega)) _)) (hb_w1.mono (by first | omega | (simp <;> omega)))
    clear hb_w1 
    go_wp2_with fail
    refine (skip_any _ _ _ _ _ _ _ _ _ _ _ _).mono ?_
    rintro e w2 ⟨rfl, hb_w2⟩
    have hs_w2 : w.heap.size ≤ w2.heap.size := by have := hb_w2.size; (try simp at this); omega
    have hz_w2_0 : w.heap.size < w2.heap.size := by have := hb_w2.size; (try simp at this); omega
    have hz_w2_1 : w1.heap.size < w2.heap.size := by have := hb_w2.size; (try simp at this); omega
    have c_w2_0_0 : w2.cell? ⟨w.heap.size, 0, none⟩ = some (.int .i64 a0_0_X) := (hb_w2.cell (by simp <;> omega)).trans (by simp [go_sem, *])
    have c_w2_0_1 : w2.cell? ⟨w.heap.size, 1, none⟩ = some (.int .i64 a0_0_Y) := (hb_w2.cell (by simp <;> omega)).trans (by simp [go_sem, *])
    have c_w2_0_2 : w2.cell? ⟨w.heap.size, 2, none⟩ = some (.int .i64 a0_1_X) := (hb_w2.cell (by simp <;> omega)).trans (by simp [go_sem, *])
    have c_w2_0_3 : w2.cell? ⟨w.heap.size, 3, none⟩ = some (.int .i64 a0_1_Y) := (hb_w2.cell (by simp <;> omega)).trans (by simp [go_sem, *])
    have c_w2_0_4 : w2.cell? ⟨w.heap.size, 4, none⟩ = some (.int .i64 a0_2_X) := (hb_w2.cell (by simp <;> omega)).trans (by simp [go_sem, *])
    have c_w2_0_5 : w2.cell? ⟨w.heap.size, 5, none⟩ = some (.int .i64 a0_2_Y) := (hb_w2.cell (by simp <;> omega)).trans (by simp [go_sem, *])
    have c_w2_1_0 : w2.cell? ⟨w1.heap.size, 0, none⟩ = some (.int .i64 0) := (hb_w2.cell (by simp <;> omega)).trans (by simp [go_sem, *])
    have c_w2_1_1 : w2.cell? ⟨w1.heap.size, 1, none⟩ = some (.int .i64 0) := (hb_w2.cell (by simp <;> omega)).trans (by simp [go_sem, *])
    have c_w2_1_2 : w2.cell? ⟨w1.heap.size, 2, none⟩ = some (.int .i64 0) := (hb_w2.cell (by simp <;> omega)).trans (by simp [go_sem, *])
    have hB_w2 : Below w.heap.size w w2 := Below.trans (by repeat (first | exact Below.refl _ _ | assumption | refine Below.alloc ?_ (by first | omega | (simp <;> omega)) _ | refine Below.drew ?_ | refine Below.setCell ?_ (by first | omega | (simp <;> omega)) _)) (hb_w2.mono (by first | omega | (simp <;> omega)))
    clear hb_w2 c_w1_0_0 c_w1_0_1 c_w1_0_2 c_w1_0_3 c_w1_0_4 c_w1_0_5 hB_w1
    go_wp2_with fail
    refine (skip_any _ _ _ _ _ _ _ _ _ _ _ _).mono ?_
    rintro e w3 ⟨rfl, hb_w3⟩
    have hs_w3 : w.heap.size ≤ w3.heap.size := by have := hb_w3.size; (try simp at this); omega
    have hz_w3_0 : w1.heap.size < w3.heap.size := by have := hb_w3.size; (try simp at this); omega
    have hz_w3_1 : w2.heap.size < w3.heap.size := by have := hb_w3.size; (try simp at this); omega
    have c_w3_0_0 : w3.cell? ⟨w1.heap.size, 0, none⟩ = some (.int .i64 0) := (hb_w3.cell (by simp <;> omega)).trans (by simp [go_sem, *])
    have c_w3_0_1 : w3.cell? ⟨w1.heap.size, 1, none⟩ = some (.int .i64 0) := (hb_w3.cell (by simp <;> omega)).trans (by simp [go_sem, *])
    have c_w3_0_2 : w3.cell? ⟨w1.heap.size, 2, none⟩ = some (.int .i64 0) := (hb_w3.cell (by simp <;> omega)).trans (by simp [go_sem, *])
    have c_w3_1_0 : w3.cell? ⟨w2.heap.size, 0, none⟩ = some (.int .i64 0) := (hb_w3.cell (by simp <;> omega)).trans (by simp [go_sem, *])
    have c_w3_1_1 : w3.cell? ⟨w2.heap.size, 1, none⟩ = some (.int .i64 0) := (hb_w3.cell (by simp <;> omega)).trans (by simp [go_sem, *])
    have hB_w3 : Below w.heap.size w w3 := Below.trans (by repeat (first | exact Below.refl _ _ | assumption | refine Below.alloc ?_ (by first | omega | (simp <;> omega)) _ | refine Below.drew ?_ | refine Below.setCell ?_ (by first | omega | (simp <;> omega)) _)) (hb_w3.mono (by first | omega | (simp <;> omega)))
    clear hb_w3 c_w2_0_0 c_w2_0_1 c_w2_0_2 c_w2_0_3 c_w2_0_4 c_w2_0_5 c_w2_1_0 c_w2_1_1 c_w2_1_2 hB_w2
    go_wp2_with fail
    refine (skip_any _ _ _ _ _ _ _ _ _ _ _ _).mono ?_
    rintro e w4 ⟨rfl, hb_w4⟩
    have hs_w4 : w.heap.size ≤ w4.heap.size := by have := hb_w4.size; (try simp at this); omega
    have hz_w4_0 : w2.heap.size < w4.heap.size := by have := hb_w4.size; (try simp at this); omega
    have hz_w4_1 : w3.heap.size < w4.heap.size := by have := hb_w4.size; (try simp at this); omega
    have c_w4_0_0 : w4.cell? ⟨w2.heap.size, 0, none⟩ = some (.int .i64 0) := (hb_w4.cell (by simp <;> omega)).trans (by simp [go_sem, *])
    have c_w4_0_1 : w4.cell? ⟨w2.heap.size, 1, none⟩ = some (.int .i64 0) := (hb_w4.cell (by simp <;> omega)).trans (by simp [go_sem, *])
    have c_w4_1_0 : w4.cell? ⟨w3.heap.size, 0, none⟩ = some (.int .i64 0) := (hb_w4.cell (by simp <;> omega)).trans (by simp [go_sem, *])
    have c_w4_1_1 : w4.cell? ⟨w3.heap.size, 1, none⟩ = some (.int .i64 0) := (hb_w4.cell (by simp <;> omega)).trans (by simp [go_sem, *])
    have hB_w4 : Below w.heap.size w w4 := Below.trans (by repeat (first | exact Below.refl _ _ | assumption | refine Below.alloc ?_ (by first | omega | (simp <;> omega)) _ | refine Below.drew ?_ | refine Below.setCell ?_ (by first | omega | (simp <;> omega)) _)) (hb_w4.mono (by first | omega | (simp <;> omega)))
    clear hb_w4 c_w3_0_0 c_w3_0_1 c_w3_0_2 c_w3_1_0 c_w3_1_1 hB_w3
    go_wp2_with fail
    go_ret
    exact ⟨rfl, (by repeat (first | exact Below.refl _ _ | assumption | refine Below.alloc ?_ (by first | omega | (simp <;> omega)) _ | refine Below.drew ?_ | refine Below.setCell ?_ (by first | omega | (simp <;> omega)) _))⟩
  · clear f3
    go_enter Try.func7, Try.ntmps7
    go_wp2_with fail
    refine (awake_any _).mono ?_
    rintro e w1 ⟨rfl, hb_w1⟩
    have hs_w1 : w.heap.size ≤ w1.heap.size := by have := hb_w1.size; (try simp at this); omega
    have hz_w1_0 : w.heap.size < w1.heap.size := by have := hb_w1.size; (try simp at this); omega
    have c_w1_0_0 : w1.cell? ⟨w.heap.size, 0, none⟩ = some (.int .i64 a0_0_X) := (hb_w1.cell (by simp <;> omega)).trans (by simp [go_sem, *])
    have c_w1_0_1 : w1.cell? ⟨w.heap.size, 1, none⟩ = some (.int .i64 a0_0_Y) := (hb_w1.cell (by simp <;> omega)).trans (by simp [go_sem, *])
    have c_w1_0_2 : w1.cell? ⟨w.heap.size, 2, none⟩ = some (.int .i64 a0_1_X) := (hb_w1.cell (by simp <;> omega)).trans (by simp [go_sem, *])
    have c_w1_0_3 : w1.cell? ⟨w.heap.size, 3, none⟩ = some (.int .i64 a0_1_Y) := (hb_w1.cell (by simp <;> omega)).trans (by simp [go_sem, *])
    have c_w1_0_4 : w1.cell? ⟨w.heap.size, 4, none⟩ = some (.int .i64 a0_2_X) := (hb_w1.cell (by simp <;> omega)).trans (by simp [go_sem, *])
    have c_w1_0_5 : w1.cell? ⟨w.heap.size, 5, none⟩ = some (.int .i64 a0_2_Y) := (hb_w1.cell (by simp <;> omega)).trans (by simp [go_sem, *])
    have hB_w1 : Below w.heap.size w w1 := Below.trans (by repeat (first | exact Below.refl _ _ | assumption | refine Below.alloc ?_ (by first | omega | (simp <;> omega)) _ | refine Below.drew ?_ | refine Below.setCell ?_ (by first | omega | (simp <;> omega)) _)) (hb_w1.mono (by first | omega | (simp <;> omega)))
    clear hb_w1 
    go_wp2_with fail
    refine (skip_any _ _ _ _ _ _ _ _ _ _ _ _).mono ?_
    rintro e w2 ⟨rfl, hb_w2⟩
    have hs_w2 : w.heap.size ≤ w2.heap.size := by have := hb_w2.size; (try simp at this); omega
    have hz_w2_0 : w.heap.size < w2.heap.size := by have := hb_w2.size; (try simp at this); omega
    have hz_w2_1 : w1.heap.size < w2.heap.size := by have := hb_w2.size; (try simp at this); omega
    have c_w2_0_0 : w2.cell? ⟨w.heap.size, 0, none⟩ = some (.int .i64 a0_0_X) := (hb_w2.cell (by simp <;> omega)).trans (by simp [go_sem, *])
    have c_w2_0_1 : w2.cell? ⟨w.heap.size, 1, none⟩ = some (.int .i64 a0_0_Y) := (hb_w2.cell (by simp <;> omega)).trans (by simp [go_sem, *])
    have c_w2_0_2 : w2.cell? ⟨w.heap.size, 2, none⟩ = some (.int .i64 a0_1_X) := (hb_w2.cell (by simp <;> omega)).trans (by simp [go_sem, *])
    have c_w2_0_3 : w2.cell? ⟨w.heap.size, 3, none⟩ = some (.int .i64 a0_1_Y) := (hb_w2.cell (by simp <;> omega)).trans (by simp [go_sem, *])
    have c_w2_0_4 : w2.cell? ⟨w.heap.size, 4, none⟩ = some (.int .i64 a0_2_X) := (hb_w2.cell (by simp <;> omega)).trans (by simp [go_sem, *])
    have c_w2_0_5 : w2.cell? ⟨w.heap.size, 5, none⟩ = some (.int .i64 a0_2_Y) := (hb_w2.cell (by simp <;> omega)).trans (by simp [go_sem, *])
    have c_w2_1_0 : w2.cell? ⟨w1.heap.size, 0, none⟩ = some (.int .i64 0) := (hb_w2.cell (by simp <;> omega)).trans (by simp [go_sem, *])
    have c_w2_1_1 : w2.cell? ⟨w1.heap.size, 1, none⟩ = some (.int .i64 0) := (hb_w2.cell (by simp <;> omega)).trans (by simp [go_sem, *])
    have c_w2_1_2 : w2.cell? ⟨w1.heap.size, 2, none⟩ = some (.int .i64 0) := (hb_w2.cell (by simp <;> omega)).trans (by simp [go_sem, *])
    have hB_w2 : Below w.heap.size w w2 := Below.trans (by repeat (first | exact Below.refl _ _ | assumption | refine Below.alloc ?_ (by first | omega | (simp <;> omega)) _ | refine Below.drew ?_ | refine Below.setCell ?_ (by first | omega | (simp <;> omega)) _)) (hb_w2.mono (by first | omega | (simp <;> omega)))
    clear hb_w2 c_w1_0_0 c_w1_0_1 c_w1_0_2 c_w1_0_3 c_w1_0_4 c_w1_0_5 hB_w1
    go_wp2_with fail
    refine (skip_any _ _ _ _ _ _ _ _ _ _ _ _).mono ?_
    rintro e w3 ⟨rfl, hb_w3⟩
    have hs_w3 : w.heap.size ≤ w3.heap.size := by have := hb_w3.size; (try simp at this); omega
    have hz_w3_0 : w1.heap.size < w3.heap.size := by have := hb_w3.size; (try simp at this); omega
    have hz_w3_1 : w2.heap.size < w3.heap.size := by have := hb_w3.size; (try simp at this); omega
    have c_w3_0_0 : w3.cell? ⟨w1.heap.size, 0, none⟩ = some (.int .i64 0) := (hb_w3.cell (by simp <;> omega)).trans (by simp [go_sem, *])
    have c_w3_0_1 : w3.cell? ⟨w1.heap.size, 1, none⟩ = some (.int .i64 0) := (hb_w3.cell (by simp <;> omega)).trans (by simp [go_sem, *])
    have c_w3_0_2 : w3.cell? ⟨w1.heap.size, 2, none⟩ = some (.int .i64 0) := (hb_w3.cell (by simp <;> omega)).trans (by simp [go_sem, *])
    have c_w3_1_0 : w3.cell? ⟨w2.heap.size, 0, none⟩ = some (.int .i64 0) := (hb_w3.cell (by simp <;> omega)).trans (by simp [go_sem, *])
    have c_w3_1_1 : w3.cell? ⟨w2.heap.size, 1, none⟩ = some (.int .i64 0) := (hb_w3.cell (by simp <;> omega)).trans (by simp [go_sem, *])
    have hB_w3 : Below w.heap.size w w3 := Below.trans (by repeat (first | exact Below.refl _ _ | assumption | refine Below.alloc ?_ (by first | omega | (simp <;> omega)) _ | refine Below.drew ?_ | refine Below.setCell ?_ (by first | omega | (simp <;> omega)) _)) (hb_w3.mono (by first | omega | (simp <;> omega)))
    clear hb_w3 c_w2_0_0 c_w2_0_1 c_w2_0_2 c_w2_0_3 c_w2_0_4 c_w2_0_5 c_w2_1_0 c_w2_1_1 c_w2_1_2 hB_w2
    go_wp2_with fail
    refine (skip_any _ _ _ _ _ _ _ _ _ _ _ _).mono ?_
    rintro e w4 ⟨rfl, hb_w4⟩
    have hs_w4 : w.heap.size ≤ w4.heap.size := by have := hb_w4.size; (try simp at this); omega
    have hz_w4_0 : w2.heap.size < w4.heap.size := by have := hb_w4.size; (try simp at this); omega
    have hz_w4_1 : w3.heap.size < w4.heap.size := by have := hb_w4.size; (try simp at this); omega
    have c_w4_0_0 : w4.cell? ⟨w2.heap.size, 0, none⟩ = some (.int .i64 0) := (hb_w4.cell (by simp <;> omega)).trans (by simp [go_sem, *])
    have c_w4_0_1 : w4.cell? ⟨w2.heap.size, 1, none⟩ = some (.int .i64 0) := (hb_w4.cell (by simp <;> omega)).trans (by simp [go_sem, *])
    have c_w4_1_0 : w4.cell? ⟨w3.heap.size, 0, none⟩ = some (.int .i64 0) := (hb_w4.cell (by simp <;> omega)).trans (by simp [go_sem, *])
    have c_w4_1_1 : w4.cell? ⟨w3.heap.size, 1, none⟩ = some (.int .i64 0) := (hb_w4.cell (by simp <;> omega)).trans (by simp [go_sem, *])
    have hB_w4 : Below w.heap.size w w4 := Below.trans (by repeat (first | exact Below.refl _ _ | assumption | refine Below.alloc ?_ (by first | omega | (simp <;> omega)) _ | refine Below.drew ?_ | refine Below.setCell ?_ (by first | omega | (simp <;> omega)) _)) (hb_w4.mono (by first | omega | (simp <;> omega)))
    clear hb_w4 c_w3_0_0 c_w3_0_1 c_w3_0_2 c_w3_1_0 c_w3_1_1 hB_w3
    go_wp2_with fail
    go_ret
    exact ⟨rfl, (by repeat (first | exact Below.refl _ _ | assumption | refine Below.alloc ?_ (by first | omega | (simp <;> omega)) _ | refine Below.drew ?_ | refine Below.setCell ?_ (by first | omega | (simp <;> omega)) _))⟩

theorem pred_edge (r a b c o : Int) (h : r ≠ -2) (ho : 0 ≤ o) (h0 : 0 ≤ o) : pred 0 0 r (-2) (-2) a b c o = zr r a := by
  unfold pred
  rw [show firstOf 0 0 = -1 from by simp [firstOf]]
  exact predV_edge (by unfold hitB; simp) (by unfold edgeB; simp [h])
theorem pred_none (a b c o : Int) (ho : 0 ≤ o) : pred 0 0 (-2) (-2) (-2) a b c o = 0 := by
  unfold pred
  rw [show firstOf 0 0 = -1 from by simp [firstOf], predV_med (by unfold hitB; simp) (by unfold edgeB; simp) (by unfold cntI; rw [if_neg (by omega)]; omega)]
  simp [zr, med]

set_option maxRecDepth 100000 in
set_option maxHeartbeats 3200000 in
theorem walk_MvpEdge (a0_0_X : Int) (a0_0_Y : Int) (a0_1_X : Int) (a0_1_Y : Int) (a0_2_X : Int) (a0_2_Y : Int) (a1 : Int) (a2 : Int) (w : World) (w_a0_0_X : (Lit.int .i64 a0_0_X).wf = true) (w_a0_0_Y : (Lit.int .i64 a0_0_Y).wf = true) (w_a0_1_X : (Lit.int .i64 a0_1_X).wf = true) (w_a0_1_Y : (Lit.int .i64 a0_1_Y).wf = true) (w_a0_2_X : (Lit.int .i64 a0_2_X).wf = true) (w_a0_2_Y : (Lit.int .i64 a0_2_Y).wf = true) (w_a1 : (Lit.int .i64 a1).wf = true) (w_a2 : (Lit.int .i64 a2).wf = true) :
    Calls Try.prog 8 #[.agg #[.int .i64 a0_0_X, .int .i64 a0_0_Y, .int .i64 a0_1_X, .int .i64 a0_1_Y, .int .i64 a0_2_X, .int .i64 a0_2_Y], .int .i64 a1, .int .i64 a2] w fun e w' => e = .returned (.bool true) ∧ Below w.heap.size w w' := by
  clear w_a0_0_X w_a0_0_Y w_a0_1_X w_a0_1_Y w_a0_2_X w_a0_2_Y w_a1 w_a2
  have h1 : 0 ≤ a1 % 4 := by omega
  have h2 : 0 ≤ a2 % 4 := by omega
  have ex : pred 0 0 (a2 % 4) (-2) (-2) a0_0_X a0_1_X a0_2_X (a1 % 4) = a0_0_X := (pred_edge _ _ _ _ _ (by omega) h1 h1).trans (by unfold zr; rw [if_neg (by omega)])
  have ey : pred 0 0 (a2 % 4) (-2) (-2) a0_0_Y a0_1_Y a0_2_Y (a1 % 4) = a0_0_Y := (pred_edge _ _ _ _ _ (by omega) h1 h1).trans (by unfold zr; rw [if_neg (by omega)])
  have nx := pred_none a0_0_X a0_1_X a0_2_X (a1 % 4) h1
  have ny := pred_none a0_0_Y a0_1_Y a0_2_Y (a1 % 4) h1
  have mx : pred 0 0 (-1) (-2) (-2) a0_0_X a0_1_X a0_2_X (a1 % 4) = 0 := (pred_edge _ _ _ _ _ (by omega) h1 h1).trans (by simp [zr])
  have my : pred 0 0 (-1) (-2) (-2) a0_0_Y a0_1_Y a0_2_Y (a1 % 4) = 0 := (pred_edge _ _ _ _ _ (by omega) h1 h1).trans (by simp [zr])
  go_enter Try.func8, Try.ntmps8
  go_wp2_with fail
  refine (awake_any _).mono ?_
  rintro e w1 ⟨rfl, hb_w1⟩
  have hs_w1 : w.heap.size ≤ w1.heap.size := by have := hb_w1.size; (try simp at this); omega
  have hz_w1_0 : w.heap.size < w1.heap.size := by have := hb_w1.size; (try simp at this); omega
  have c_w1_0_0 : w1.cell? ⟨w.heap.size, 0, none⟩ = some (.int .i64 a0_0_X) := (hb_w1.cell (by simp <;> omega)).trans (by simp [go_sem, *])
  have c_w1_0_1 : w1.cell? ⟨w.heap.size, 1, none⟩ = some (.int .i64 a0_0_Y) := (hb_w1.cell (by simp <;> omega)).trans (by simp [go_sem, *])
  have c_w1_0_2 : w1.cell? ⟨w.heap.size, 2, none⟩ = some (.int .i64 a0_1_X) := (hb_w1.cell (by simp <;> omega)).trans (by simp [go_sem, *])
  have c_w1_0_3 : w1.cell? ⟨w.heap.size, 3, none⟩ = some (.int .i64 a0_1_Y) := (hb_w1.cell (by simp <;> omega)).trans (by simp [go_sem, *])
  have c_w1_0_4 : w1.cell? ⟨w.heap.size, 4, none⟩ = some (.int .i64 a0_2_X) := (hb_w1.cell (by simp <;> omega)).trans (by simp [go_sem, *])
  have c_w1_0_5 : w1.cell? ⟨w.heap.size, 5, none⟩ = some (.int .i64 a0_2_Y) := (hb_w1.cell (by simp <;> omega)).trans (by simp [go_sem, *])
  have hB_w1 : Below w.heap.size w w1 := Below.trans (by repeat (first | exact Below.refl _ _ | assumption | refine Below.alloc ?_ (by first | omega | (simp <;> omega)) _ | refine Below.drew ?_ | refine Below.setCell ?_ (by first | omega | (simp <;> omega)) _)) (hb_w1.mono (by first | omega | (simp <;> omega)))
  clear hb_w1 
  go_wp2_with fail
  refine (pred_any _ _ _ _ _ _ _ _ _ _ _ _ _).mono ?_
  rintro e w2 ⟨rfl, hb_w2⟩
  have hs_w2 : w.heap.size ≤ w2.heap.size := by have := hb_w2.size; (try simp at this); omega
  have hz_w2_0 : w.heap.size < w2.heap.size := by have := hb_w2.size; (try simp at this); omega
  have c_w2_0_0 : w2.cell? ⟨w.heap.size, 0, none⟩ = some (.int .i64 a0_0_X) := (hb_w2.cell (by simp <;> omega)).trans (by simp [go_sem, *])
  have c_w2_0_1 : w2.cell? ⟨w.heap.size, 1, none⟩ = some (.int .i64 a0_0_Y) := (hb_w2.cell (by simp <;> omega)).trans (by simp [go_sem, *])
  have c_w2_0_2 : w2.cell? ⟨w.heap.size, 2, none⟩ = some (.int .i64 a0_1_X) := (hb_w2.cell (by simp <;> omega)).trans (by simp [go_sem, *])
  have c_w2_0_3 : w2.cell? ⟨w.heap.size, 3, none⟩ = some (.int .i64 a0_1_Y) := (hb_w2.cell (by simp <;> omega)).trans (by simp [go_sem, *])
  have c_w2_0_4 : w2.cell? ⟨w.heap.size, 4, none⟩ = some (.int .i64 a0_2_X) := (hb_w2.cell (by simp <;> omega)).trans (by simp [go_sem, *])
  have c_w2_0_5 : w2.cell? ⟨w.heap.size, 5, none⟩ = some (.int .i64 a0_2_Y) := (hb_w2.cell (by simp <;> omega)).trans (by simp [go_sem, *])
  have hB_w2 : Below w.heap.size w w2 := Below.trans (by repeat (first | exact Below.refl _ _ | assumption | refine Below.alloc ?_ (by first | omega | (simp <;> omega)) _ | refine Below.drew ?_ | refine Below.setCell ?_ (by first | omega | (simp <;> omega)) _)) (hb_w2.mono (by first | omega | (simp <;> omega)))
  clear hb_w2 c_w1_0_0 c_w1_0_1 c_w1_0_2 c_w1_0_3 c_w1_0_4 c_w1_0_5 hB_w1
  go_wp2_with fail
  refine (pred_any _ _ _ _ _ _ _ _ _ _ _ _ _).mono ?_
  rintro e w3 ⟨rfl, hb_w3⟩
  have hs_w3 : w.heap.size ≤ w3.heap.size := by have := hb_w3.size; (try simp at this); omega
  have hz_w3_0 : w.heap.size < w3.heap.size := by have := hb_w3.size; (try simp at this); omega
  have hz_w3_1 : w2.heap.size < w3.heap.size := by have := hb_w3.size; (try simp at this); omega
  have c_w3_0_0 : w3.cell? ⟨w.heap.size, 0, none⟩ = some (.int .i64 a0_0_X) := (hb_w3.cell (by simp <;> omega)).trans (by simp [go_sem, *])
  have c_w3_0_1 : w3.cell? ⟨w.heap.size, 1, none⟩ = some (.int .i64 a0_0_Y) := (hb_w3.cell (by simp <;> omega)).trans (by simp [go_sem, *])
  have c_w3_0_2 : w3.cell? ⟨w.heap.size, 2, none⟩ = some (.int .i64 a0_1_X) := (hb_w3.cell (by simp <;> omega)).trans (by simp [go_sem, *])
  have c_w3_0_3 : w3.cell? ⟨w.heap.size, 3, none⟩ = some (.int .i64 a0_1_Y) := (hb_w3.cell (by simp <;> omega)).trans (by simp [go_sem, *])
  have c_w3_0_4 : w3.cell? ⟨w.heap.size, 4, none⟩ = some (.int .i64 a0_2_X) := (hb_w3.cell (by simp <;> omega)).trans (by simp [go_sem, *])
  have c_w3_0_5 : w3.cell? ⟨w.heap.size, 5, none⟩ = some (.int .i64 a0_2_Y) := (hb_w3.cell (by simp <;> omega)).trans (by simp [go_sem, *])
  have c_w3_1_0 : w3.cell? ⟨w2.heap.size, 0, none⟩ = some (.int .i64 a0_0_X) := (hb_w3.cell (by simp <;> omega)).trans (by simp [go_sem, *])
  have c_w3_1_1 : w3.cell? ⟨w2.heap.size, 1, none⟩ = some (.int .i64 a0_0_Y) := (hb_w3.cell (by simp <;> omega)).trans (by simp [go_sem, *])
  have hB_w3 : Below w.heap.size w w3 := Below.trans (by repeat (first | exact Below.refl _ _ | assumption | refine Below.alloc ?_ (by first | omega | (simp <;> omega)) _ | refine Below.drew ?_ | refine Below.setCell ?_ (by first | omega | (simp <;> omega)) _)) (hb_w3.mono (by first | omega | (simp <;> omega)))
  clear hb_w3 c_w2_0_0 c_w2_0_1 c_w2_0_2 c_w2_0_3 c_w2_0_4 c_w2_0_5 hB_w2
  go_wp2_with fail
  refine (pred_any _ _ _ _ _ _ _ _ _ _ _ _ _).mono ?_
  rintro e w4 ⟨rfl, hb_w4⟩
  have hs_w4 : w.heap.size ≤ w4.heap.size := by have := hb_w4.size; (try simp at this); omega
  have hz_w4_0 : w.heap.size < w4.heap.size := by have := hb_w4.size; (try simp at this); omega
  have hz_w4_1 : w2.heap.size < w4.heap.size := by have := hb_w4.size; (try simp at this); omega
  have hz_w4_2 : w3.heap.size < w4.heap.size := by have := hb_w4.size; (try simp at this); omega
  have c_w4_0_0 : w4.cell? ⟨w.heap.size, 0, none⟩ = some (.int .i64 a0_0_X) := (hb_w4.cell (by simp <;> omega)).trans (by simp [go_sem, *])
  have c_w4_0_1 : w4.cell? ⟨w.heap.size, 1, none⟩ = some (.int .i64 a0_0_Y) := (hb_w4.cell (by simp <;> omega)).trans (by simp [go_sem, *])
  have c_w4_1_0 : w4.cell? ⟨w2.heap.size, 0, none⟩ = some (.int .i64 a0_0_X) := (hb_w4.cell (by simp <;> omega)).trans (by simp [go_sem, *])
  have c_w4_1_1 : w4.cell? ⟨w2.heap.size, 1, none⟩ = some (.int .i64 a0_0_Y) := (hb_w4.cell (by simp <;> omega)).trans (by simp [go_sem, *])
  have c_w4_2_0 : w4.cell? ⟨w3.heap.size, 0, none⟩ = some (.int .i64 0) := (hb_w4.cell (by simp <;> omega)).trans (by simp [go_sem, *])
  have c_w4_2_1 : w4.cell? ⟨w3.heap.size, 1, none⟩ = some (.int .i64 0) := (hb_w4.cell (by simp <;> omega)).trans (by simp [go_sem, *])
  have hB_w4 : Below w.heap.size w w4 := Below.trans (by repeat (first | exact Below.refl _ _ | assumption | refine Below.alloc ?_ (by first | omega | (simp <;> omega)) _ | refine Below.drew ?_ | refine Below.setCell ?_ (by first | omega | (simp <;> omega)) _)) (hb_w4.mono (by first | omega | (simp <;> omega)))
  clear hb_w4 c_w3_0_0 c_w3_0_1 c_w3_0_2 c_w3_0_3 c_w3_0_4 c_w3_0_5 c_w3_1_0 c_w3_1_1 hB_w3
  go_wp2_with fail
  go_ret
  exact ⟨rfl, (by repeat (first | exact Below.refl _ _ | assumption | refine Below.alloc ?_ (by first | omega | (simp <;> omega)) _ | refine Below.drew ?_ | refine Below.setCell ?_ (by first | omega | (simp <;> omega)) _))⟩

end Go.Proofs.Ytgpoajhlmdmpkaa
