/- The statements on package mvp: MvpLone, MvpHalves. -/
import Derived.Test.YtgpoajhlmdmpkaaMvpE
namespace Go.Proofs.Ytgpoajhlmdmpkaa
open Go.RowKit
set_option linter.unusedVariables false
set_option linter.unusedSimpArgs false
attribute [local go_sem] and_1 and_3

theorem pred_l0 (r a b c : Int) (h : 0 ≤ r) : pred 0 0 r (-1) (r + 2) a b c r = a := by
  unfold pred firstOf
  simp only [show ¬ ((0 : Int) = 1 ∧ (0 : Int) = 0) from by omega, show ¬ (((0 : Int) = 1 ∧ (0 : Int) = 1) ∨ ((0 : Int) = 2 ∧ (0 : Int) = 0)) from by omega, show ¬ ((0 : Int) = 2 ∧ (0 : Int) = 1) from by omega, if_false]
  unfold predV
  rw [if_neg (by omega), if_neg (by omega), if_neg (by omega), if_neg (by omega), if_pos (by omega)]
  unfold zr
  rw [if_neg (by omega)]
theorem pred_l1 (r a b c : Int) (h : 0 ≤ r) : pred 0 0 (r + 1) r (r + 2) a b c r = b := by
  unfold pred firstOf
  simp only [show ¬ ((0 : Int) = 1 ∧ (0 : Int) = 0) from by omega, show ¬ (((0 : Int) = 1 ∧ (0 : Int) = 1) ∨ ((0 : Int) = 2 ∧ (0 : Int) = 0)) from by omega, show ¬ ((0 : Int) = 2 ∧ (0 : Int) = 1) from by omega, if_false]
  unfold predV
  rw [if_neg (by omega), if_neg (by omega), if_neg (by omega), if_neg (by omega), if_neg (by omega), if_pos (by omega)]
  unfold zr
  rw [if_neg (by omega)]
theorem pred_l2 (r a b c : Int) (h : 0 ≤ r) : pred 0 0 (r + 1) (-1) r a b c r = c := by
  unfold pred firstOf
  simp only [show ¬ ((0 : Int) = 1 ∧ (0 : Int) = 0) from by omega, show ¬ (((0 : Int) = 1 ∧ (0 : Int) = 1) ∨ ((0 : Int) = 2 ∧ (0 : Int) = 0)) from by omega, show ¬ ((0 : Int) = 2 ∧ (0 : Int) = 1) from by omega, if_false]
  unfold predV
  rw [if_neg (by omega), if_neg (by omega), if_neg (by omega), if_neg (by omega), if_neg (by omega), if_neg (by omega), if_pos (by omega)]
  unfold zr
  rw [if_neg (by omega)]

set_option maxRecDepth 100000 in
set_option maxHeartbeats 3200000 in
theorem walk_MvpLone (a0 : Int) (a1_0_X : Int) (a1_0_Y : Int) (a1_1_X : Int) (a1_1_Y : Int) (a1_2_X : Int) (a1_2_Y : Int) (a2 : Int) (w : World) (w_a0 : (Lit.int .i64 a0).wf = true) (w_a1_0_X : (Lit.int .i64 a1_0_X).wf = true) (w_a1_0_Y : (Lit.int .i64 a1_0_Y).wf = true) (w_a1_1_X : (Lit.int .i64 a1_1_X).wf = true) (w_a1_1_Y : (Lit.int .i64 a1_1_Y).wf = true) (w_a1_2_X : (Lit.int .i64 a1_2_X).wf = true) (w_a1_2_Y : (Lit.int .i64 a1_2_Y).wf = true) (w_a2 : (Lit.int .i64 a2).wf = true) :
    Calls Try.prog 5 #[.int .i64 a0, .agg #[.int .i64 a1_0_X, .int .i64 a1_0_Y, .int .i64 a1_1_X, .int .i64 a1_1_Y, .int .i64 a1_2_X, .int .i64 a1_2_Y], .int .i64 a2] w fun e w' => e = .returned (.bool true) ∧ Below w.heap.size w w' := by
  clear w_a0 w_a1_0_X w_a1_0_Y w_a1_1_X w_a1_1_Y w_a1_2_X w_a1_2_Y w_a2
  have hk := u64_tmod_bd a0 3 (by omega)
  have hr : 0 ≤ a2 % 4 := by omega
  have e0x := pred_l0 (a2 % 4) a1_0_X a1_1_X a1_2_X hr
  have e0y := pred_l0 (a2 % 4) a1_0_Y a1_1_Y a1_2_Y hr
  have e1x := pred_l1 (a2 % 4) a1_0_X a1_1_X a1_2_X hr
  have e1y := pred_l1 (a2 % 4) a1_0_Y a1_1_Y a1_2_Y hr
  have e2x := pred_l2 (a2 % 4) a1_0_X a1_1_X a1_2_X hr
  have e2y := pred_l2 (a2 % 4) a1_0_Y a1_1_Y a1_2_Y hr
  have hk' : (IntKind.u64.wrap a0).tmod 3 = 0 ∨ (IntKind.u64.wrap a0).tmod 3 = 1 ∨ (IntKind.u64.wrap a0).tmod 3 = 2 := by omega
  clear hk
  rcases hk' with hk | hk | hk
  · clear e1x e1y e2x e2y
    go_enter Try.func5, Try.ntmps5
    go_wp2_with fail
    refine (awake_any _).mono ?_
    rintro e w1 ⟨rfl, hb_w1⟩
    have hs_w1 : w.heap.size ≤ w1.heap.size := by have := hb_w1.size; (try simp at this); omega
    have hz_w1_0 : w.heap.size < w1.heap.size := by have := hb_w1.size; (try simp at this); omega
    have c_w1_0_0 : w1.cell? ⟨w.heap.size, 0, none⟩ = some (.int .i64 a1_0_X) := (hb_w1.cell (by simp <;> omega)).trans (by simp [go_sem, *])
    have c_w1_0_1 : w1.cell? ⟨w.heap.size, 1, none⟩ = some (.int .i64 a1_0_Y) := (hb_w1.cell (by simp <;> omega)).trans (by simp [go_sem, *])
    have c_w1_0_2 : w1.cell? ⟨w.heap.size, 2, none⟩ = some (.int .i64 a1_1_X) := (hb_w1.cell (by simp <;> omega)).trans (by simp [go_sem, *])
    have c_w1_0_3 : w1.cell? ⟨w.heap.size, 3, none⟩ = some (.int .i64 a1_1_Y) := (hb_w1.cell (by simp <;> omega)).trans (by simp [go_sem, *])
    have c_w1_0_4 : w1.cell? ⟨w.heap.size, 4, none⟩ = some (.int .i64 a1_2_X) := (hb_w1.cell (by simp <;> omega)).trans (by simp [go_sem, *])
    have c_w1_0_5 : w1.cell? ⟨w.heap.size, 5, none⟩ = some (.int .i64 a1_2_Y) := (hb_w1.cell (by simp <;> omega)).trans (by simp [go_sem, *])
    have hB_w1 : Below w.heap.size w w1 := Below.trans (by repeat (first | exact Below.refl _ _ | assumption | refine Below.alloc ?_ (by first | omega | (simp <;> omega)) _ | refine Below.drew ?_ | refine Below.setCell ?_ (by first | omega | (simp <;> omega)) _)) (hb_w1.mono (by first | omega | (simp <;> omega)))
    clear hb_w1 
    go_wp2_with fail
    go_region_held3 (fun w' => w'.cell? ⟨w.heap.size, 0, none⟩ = some (.int .i64 a1_0_X) ∧ w'.cell? ⟨w.heap.size, 1, none⟩ = some (.int .i64 a1_0_Y) ∧ w'.cell? ⟨w.heap.size, 2, none⟩ = some (.int .i64 a1_1_X) ∧ w'.cell? ⟨w.heap.size, 3, none⟩ = some (.int .i64 a1_1_Y) ∧ w'.cell? ⟨w.heap.size, 4, none⟩ = some (.int .i64 a1_2_X) ∧ w'.cell? ⟨w.heap.size, 5, none⟩ = some (.int .i64 a1_2_Y) ∧ w'.cell? ⟨w1.heap.size, 0, none⟩ = some (.int .i64 (a2 % 4)) ∧ w'.cell? ⟨w1.heap.size, 1, none⟩ = some (.int .i64 (-1)) ∧ w'.cell? ⟨w1.heap.size, 2, none⟩ = some (.int .i64 (a2 % 4 + 2)) ∧ w.heap.size < w'.heap.size ∧ w1.heap.size < w'.heap.size ∧ w.heap.size ≤ w'.heap.size ∧ Below w.heap.size w w')
      (first | (refine ⟨by simp [go_sem, *], by simp [go_sem, *], by simp [go_sem, *], by simp [go_sem, *], by simp [go_sem, *], by simp [go_sem, *], by simp [go_sem, *], by simp [go_sem, *], by simp [go_sem, *], by simp [go_sem] <;> omega, by simp [go_sem] <;> omega, by simp [go_sem] <;> omega, (by repeat (first | exact Below.refl _ _ | assumption | refine Below.alloc ?_ (by first | omega | (simp <;> omega)) _ | refine Below.drew ?_ | refine Below.setCell ?_ (by first | omega | (simp <;> omega)) _))⟩) | (go_split_ands; refine ⟨(hbh0.cell (by simp <;> omega)).trans (by assumption), (hbh0.cell (by simp <;> omega)).trans (by assumption), (hbh0.cell (by simp <;> omega)).trans (by assumption), (hbh0.cell (by simp <;> omega)).trans (by assumption), (hbh0.cell (by simp <;> omega)).trans (by assumption), (hbh0.cell (by simp <;> omega)).trans (by assumption), (hbh0.cell (by simp <;> omega)).trans (by assumption), (hbh0.cell (by simp <;> omega)).trans (by assumption), (hbh0.cell (by simp <;> omega)).trans (by assumption), by have := hbh0.size; omega, by have := hbh0.size; omega, by have := hbh0.size; omega, Below.trans (by assumption) (hbh0.mono (by omega))⟩) | go_keep)
      (first | (go_at_call 11; refine (pred_any _ _ _ _ _ _ _ _ _ _ _ _ _).mono ?_; rintro e wh0 ⟨rfl, hbh0⟩) | (go_at_call 16; refine (num_any _ _).mono ?_; rintro e w' ⟨rfl, rfl⟩))
    go_wp2
    go_ret
    go_split_ands
    exact ⟨rfl, by assumption⟩
  · clear e0x e0y e2x e2y
    go_enter Try.func5, Try.ntmps5
    go_wp2_with fail
    refine (awake_any _).mono ?_
    rintro e w1 ⟨rfl, hb_w1⟩
    have hs_w1 : w.heap.size ≤ w1.heap.size := by have := hb_w1.size; (try simp at this); omega
    have hz_w1_0 : w.heap.size < w1.heap.size := by have := hb_w1.size; (try simp at this); omega
    have c_w1_0_0 : w1.cell? ⟨w.heap.size, 0, none⟩ = some (.int .i64 a1_0_X) := (hb_w1.cell (by simp <;> omega)).trans (by simp [go_sem, *])
    have c_w1_0_1 : w1.cell? ⟨w.heap.size, 1, none⟩ = some (.int .i64 a1_0_Y) := (hb_w1.cell (by simp <;> omega)).trans (by simp [go_sem, *])
    have c_w1_0_2 : w1.cell? ⟨w.heap.size, 2, none⟩ = some (.int .i64 a1_1_X) := (hb_w1.cell (by simp <;> omega)).trans (by simp [go_sem, *])
    have c_w1_0_3 : w1.cell? ⟨w.heap.size, 3, none⟩ = some (.int .i64 a1_1_Y) := (hb_w1.cell (by simp <;> omega)).trans (by simp [go_sem, *])
    have c_w1_0_4 : w1.cell? ⟨w.heap.size, 4, none⟩ = some (.int .i64 a1_2_X) := (hb_w1.cell (by simp <;> omega)).trans (by simp [go_sem, *])
    have c_w1_0_5 : w1.cell? ⟨w.heap.size, 5, none⟩ = some (.int .i64 a1_2_Y) := (hb_w1.cell (by simp <;> omega)).trans (by simp [go_sem, *])
    have hB_w1 : Below w.heap.size w w1 := Below.trans (by repeat (first | exact Below.refl _ _ | assumption | refine Below.alloc ?_ (by first | omega | (simp <;> omega)) _ | refine Below.drew ?_ | refine Below.setCell ?_ (by first | omega | (simp <;> omega)) _)) (hb_w1.mono (by first | omega | (simp <;> omega)))
    clear hb_w1 
    go_wp2_with fail
    go_region_held3 (fun w' => w'.cell? ⟨w.heap.size, 0, none⟩ = some (.int .i64 a1_0_X) ∧ w'.cell? ⟨w.heap.size, 1, none⟩ = some (.int .i64 a1_0_Y) ∧ w'.cell? ⟨w.heap.size, 2, none⟩ = some (.int .i64 a1_1_X) ∧ w'.cell? ⟨w.heap.size, 3, none⟩ = some (.int .i64 a1_1_Y) ∧ w'.cell? ⟨w.heap.size, 4, none⟩ = some (.int .i64 a1_2_X) ∧ w'.cell? ⟨w.heap.size, 5, none⟩ = some (.int .i64 a1_2_Y) ∧ w'.cell? ⟨w1.heap.size, 0, none⟩ = some (.int .i64 (a2 % 4 + 1)) ∧ w'.cell? ⟨w1.heap.size, 1, none⟩ = some (.int .i64 (a2 % 4)) ∧ w'.cell? ⟨w1.heap.size, 2, none⟩ = some (.int .i64 (a2 % 4 + 2)) ∧ w.heap.size < w'.heap.size ∧ w1.heap.size < w'.heap.size ∧ w.heap.size ≤ w'.heap.size ∧ Below w.heap.size w w')
      (first | (refine ⟨by simp [go_sem, *], by simp [go_sem, *], by simp [go_sem, *], by simp [go_sem, *], by simp [go_sem, *], by simp [go_sem, *], by simp [go_sem, *], by simp [go_sem, *], by simp [go_sem, *], by simp [go_sem] <;> omega, by simp [go_sem] <;> omega, by simp [go_sem] <;> omega, (by repeat (first | exact Below.refl _ _ | assumption | refine Below.alloc ?_ (by first | omega | (simp <;> omega)) _ | refine Below.drew ?_ | refine Below.setCell ?_ (by first | omega | (simp <;> omega)) _))⟩) | (go_split_ands; refine ⟨(hbh0.cell (by simp <;> omega)).trans (by assumption), (hbh0.cell (by simp <;> omega)).trans (by assumption), (hbh0.cell (by simp <;> omega)).trans (by assumption), (hbh0.cell (by simp <;> omega)).trans (by assumption), (hbh0.cell (by simp <;> omega)).trans (by assumption), (hbh0.cell (by simp <;> omega)).trans (by assumption), (hbh0.cell (by simp <;> omega)).trans (by assumption), (hbh0.cell (by simp <;> omega)).trans (by assumption), (hbh0.cell (by simp <;> omega)).trans (by assumption), by have := hbh0.size; omega, by have := hbh0.size; omega, by have := hbh0.size; omega, Below.trans (by assumption) (hbh0.mono (by omega))⟩) | go_keep)
      (first | (go_at_call 11; refine (pred_any _ _ _ _ _ _ _ _ _ _ _ _ _).mono ?_; rintro e wh0 ⟨rfl, hbh0⟩) | (go_at_call 16; refine (num_any _ _).mono ?_; rintro e w' ⟨rfl, rfl⟩))
    go_wp2
    go_ret
    go_split_ands
    exact ⟨rfl, by assumption⟩
  · clear e0x e0y e1x e1y
    go_enter Try.func5, Try.ntmps5
    go_wp2_with fail
    refine (awake_any _).mono ?_
    rintro e w1 ⟨rfl, hb_w1⟩
    have hs_w1 : w.heap.size ≤ w1.heap.size := by have := hb_w1.size; (try simp at this); omega
    have hz_w1_0 : w.heap.size < w1.heap.size := by have := hb_w1.size; (try simp at this); omega
    have c_w1_0_0 : w1.cell? ⟨w.heap.size, 0, none⟩ = some (.int .i64 a1_0_X) := (hb_w1.cell (by simp <;> omega)).trans (by simp [go_sem, *])
    have c_w1_0_1 : w1.cell? ⟨w.heap.size, 1, none⟩ = some (.int .i64 a1_0_Y) := (hb_w1.cell (by simp <;> omega)).trans (by simp [go_sem, *])
    have c_w1_0_2 : w1.cell? ⟨w.heap.size, 2, none⟩ = some (.int .i64 a1_1_X) := (hb_w1.cell (by simp <;> omega)).trans (by simp [go_sem, *])
    have c_w1_0_3 : w1.cell? ⟨w.heap.size, 3, none⟩ = some (.int .i64 a1_1_Y) := (hb_w1.cell (by simp <;> omega)).trans (by simp [go_sem, *])
    have c_w1_0_4 : w1.cell? ⟨w.heap.size, 4, none⟩ = some (.int .i64 a1_2_X) := (hb_w1.cell (by simp <;> omega)).trans (by simp [go_sem, *])
    have c_w1_0_5 : w1.cell? ⟨w.heap.size, 5, none⟩ = some (.int .i64 a1_2_Y) := (hb_w1.cell (by simp <;> omega)).trans (by simp [go_sem, *])
    have hB_w1 : Below w.heap.size w w1 := Below.trans (by repeat (first | exact Below.refl _ _ | assumption | refine Below.alloc ?_ (by first | omega | (simp <;> omega)) _ | refine Below.drew ?_ | refine Below.setCell ?_ (by first | omega | (simp <;> omega)) _)) (hb_w1.mono (by first | omega | (simp <;> omega)))
    clear hb_w1 
    go_wp2_with fail
    go_region_held3 (fun w' => w'.cell? ⟨w.heap.size, 0, none⟩ = some (.int .i64 a1_0_X) ∧ w'.cell? ⟨w.heap.size, 1, none⟩ = some (.int .i64 a1_0_Y) ∧ w'.cell? ⟨w.heap.size, 2, none⟩ = some (.int .i64 a1_1_X) ∧ w'.cell? ⟨w.heap.size, 3, none⟩ = some (.int .i64 a1_1_Y) ∧ w'.cell? ⟨w.heap.size, 4, none⟩ = some (.int .i64 a1_2_X) ∧ w'.cell? ⟨w.heap.size, 5, none⟩ = some (.int .i64 a1_2_Y) ∧ w'.cell? ⟨w1.heap.size, 0, none⟩ = some (.int .i64 (a2 % 4 + 1)) ∧ w'.cell? ⟨w1.heap.size, 1, none⟩ = some (.int .i64 (-1)) ∧ w'.cell? ⟨w1.heap.size, 2, none⟩ = some (.int .i64 (a2 % 4)) ∧ w.heap.size < w'.heap.size ∧ w1.heap.size < w'.heap.size ∧ w.heap.size ≤ w'.heap.size ∧ Below w.heap.size w w')
      (first | (refine ⟨by simp [go_sem, *], by simp [go_sem, *], by simp [go_sem, *], by simp [go_sem, *], by simp [go_sem, *], by simp [go_sem, *], by simp [go_sem, *], by simp [go_sem, *], by simp [go_sem, *], by simp [go_sem] <;> omega, by simp [go_sem] <;> omega, by simp [go_sem] <;> omega, (by repeat (first | exact Below.refl _ _ | assumption | refine Below.alloc ?_ (by first | omega | (simp <;> omega)) _ | refine Below.drew ?_ | refine Below.setCell ?_ (by first | omega | (simp <;> omega)) _))⟩) | (go_split_ands; refine ⟨(hbh0.cell (by simp <;> omega)).trans (by assumption), (hbh0.cell (by simp <;> omega)).trans (by assumption), (hbh0.cell (by simp <;> omega)).trans (by assumption), (hbh0.cell (by simp <;> omega)).trans (by assumption), (hbh0.cell (by simp <;> omega)).trans (by assumption), (hbh0.cell (by simp <;> omega)).trans (by assumption), (hbh0.cell (by simp <;> omega)).trans (by assumption), (hbh0.cell (by simp <;> omega)).trans (by assumption), (hbh0.cell (by simp <;> omega)).trans (by assumption), by have := hbh0.size; omega, by have := hbh0.size; omega, by have := hbh0.size; omega, Below.trans (by assumption) (hbh0.mono (by omega))⟩) | go_keep)
      (first | (go_at_call 11; refine (pred_any _ _ _ _ _ _ _ _ _ _ _ _ _).mono ?_; rintro e wh0 ⟨rfl, hbh0⟩) | (go_at_call 16; refine (num_any _ _).mono ?_; rintro e w' ⟨rfl, rfl⟩))
    go_wp2
    go_ret
    go_split_ands
    exact ⟨rfl, by assumption⟩

theorem pred_h (s p r a b c : Int) (h : 0 ≤ r) (hs : s = 1 ∨ s = 2) (hp : p = 0 ∨ p = 1) : pred s p r r r a b c r = if s = 1 then (if p = 0 then b else a) else if p = 0 then a else c := by
  have z : ∀ v, zr r v = v := by
    intro v
    unfold zr
    rw [if_neg (by omega)]
  unfold pred predV firstOf
  rw [z, z, z]
  rcases hs with rfl | rfl <;> rcases hp with rfl | rfl <;> simp

set_option maxRecDepth 100000 in
set_option maxHeartbeats 3200000 in
theorem walk_MvpHalves (a0_0_X : Int) (a0_0_Y : Int) (a0_1_X : Int) (a0_1_Y : Int) (a0_2_X : Int) (a0_2_Y : Int) (a1 : Int) (w : World) (w_a0_0_X : (Lit.int .i64 a0_0_X).wf = true) (w_a0_0_Y : (Lit.int .i64 a0_0_Y).wf = true) (w_a0_1_X : (Lit.int .i64 a0_1_X).wf = true) (w_a0_1_Y : (Lit.int .i64 a0_1_Y).wf = true) (w_a0_2_X : (Lit.int .i64 a0_2_X).wf = true) (w_a0_2_Y : (Lit.int .i64 a0_2_Y).wf = true) (w_a1 : (Lit.int .i64 a1).wf = true) :
    Calls Try.prog 6 #[.agg #[.int .i64 a0_0_X, .int .i64 a0_0_Y, .int .i64 a0_1_X, .int .i64 a0_1_Y, .int .i64 a0_2_X, .int .i64 a0_2_Y], .int .i64 a1] w fun e w' => e = .returned (.bool true) ∧ Below w.heap.size w w' := by
  clear w_a0_0_X w_a0_0_Y w_a0_1_X w_a0_1_Y w_a0_2_X w_a0_2_Y w_a1
  have hr : 0 ≤ a1 % 4 := by omega
  have e0x := pred_h 1 0 (a1 % 4) a0_0_X a0_1_X a0_2_X hr (by omega) (by omega)
  have e0y := pred_h 1 0 (a1 % 4) a0_0_Y a0_1_Y a0_2_Y hr (by omega) (by omega)
  have e1x := pred_h 1 1 (a1 % 4) a0_0_X a0_1_X a0_2_X hr (by omega) (by omega)
  have e1y := pred_h 1 1 (a1 % 4) a0_0_Y a0_1_Y a0_2_Y hr (by omega) (by omega)
  have e2x := pred_h 2 0 (a1 % 4) a0_0_X a0_1_X a0_2_X hr (by omega) (by omega)
  have e2y := pred_h 2 0 (a1 % 4) a0_0_Y a0_1_Y a0_2_Y hr (by omega) (by omega)
  have e3x := pred_h 2 1 (a1 % 4) a0_0_X a0_1_X a0_2_X hr (by omega) (by omega)
  have e3y := pred_h 2 1 (a1 % 4) a0_0_Y a0_1_Y a0_2_Y hr (by omega) (by omega)
  simp only [if_true, show ¬ ((2 : Int) = 1) from by omega, show ¬ ((1 : Int) = 0) from by omega, if_false] at e0x e0y e1x e1y e2x e2y e3x e3y
  go_enter Try.func6, Try.ntmps6
  go_wp2_with fail
  refine (awake_any _).mono ?_
  rintro e w1 ⟨rfl, hb_w1⟩
  have hs_w1 : w.heap.size ≤ w1.heap.size := by have := hb_w1.size; (try simp at this); omega
  have hz_w1_0 : w.heap.size < w1.heap.size := by have := hb_w1.size; (try simp at this); omega
  have c_w1_0_0 : w1.cell? ⟨w.heap.size, 0, none⟩ = some (.int .i64 a0_0_X) := (hb_w1.cell (by simp <;> omega)).trans (by simp [go_sem, *])
  have c_w1_0_1 : w1.cell? ⟨w.heap.size, 1, none⟩ = some (.int .i64 a0_0_Y) := (hb_w1.cell (by simp <;> omega)).trans (by simp [go_sem, *])
  have c_w1_0_2 : w1.cell? ⟨w.heap.size, 2, none⟩ = some (.int .i64 a0_1_X) := (hb_w1.cell (by simp <;> omega)).trans (by simp [go_sem, *])
  have c_w1_0_3 : w1.cell? ⟨w.heap.size, 3, none⟩ = some (.int .i64 a0_1_Y) := (hb_w1.cell (by simp <;> omega)).trans (by simp [go_sem, *])
  have c_w1_0_4 : w1.cell? ⟨w.heap.size, 4, none⟩ = some (.int .i64 a0_2_X) := (hb_w1.cell (by simp <;> omega)).trans (by simp [go_sem, *])
  have c_w1_0_5 : w1.cell? ⟨w.heap.size, 5, none⟩ = some (.int .i64 a0_2_Y) := (hb_w1.cell (by simp <;> omega)).trans (by simp [go_sem, *])
  have hB_w1 : Below w.heap.size w w1 := Below.trans (by repeat (first | exact Below.refl _ _ | assumption | refine Below.alloc ?_ (by first | omega | (simp <;> omega)) _ | refine Below.drew ?_ | refine Below.setCell ?_ (by first | omega | (simp <;> omega)) _)) (hb_w1.mono (by first | omega | (simp <;> omega)))
  clear hb_w1 
  go_wp2_with fail
  go_region_held3 (fun w' => w'.cell? ⟨w.heap.size, 0, none⟩ = some (.int .i64 a0_0_X) ∧ w'.cell? ⟨w.heap.size, 1, none⟩ = some (.int .i64 a0_0_Y) ∧ w'.cell? ⟨w.heap.size, 2, none⟩ = some (.int .i64 a0_1_X) ∧ w'.cell? ⟨w.heap.size, 3, none⟩ = some (.int .i64 a0_1_Y) ∧ w'.cell? ⟨w.heap.size, 4, none⟩ = some (.int .i64 a0_2_X) ∧ w'.cell? ⟨w.heap.size, 5, none⟩ = some (.int .i64 a0_2_Y) ∧ w'.cell? ⟨w1.heap.size, 0, none⟩ = some (.int .i64 (a1 % 4)) ∧ w'.cell? ⟨w1.heap.size, 1, none⟩ = some (.int .i64 (a1 % 4)) ∧ w'.cell? ⟨w1.heap.size, 2, none⟩ = some (.int .i64 (a1 % 4)) ∧ w.heap.size < w'.heap.size ∧ w1.heap.size < w'.heap.size ∧ w.heap.size ≤ w'.heap.size ∧ Below w.heap.size w w')
    (first | (refine ⟨by simp [go_sem, *], by simp [go_sem, *], by simp [go_sem, *], by simp [go_sem, *], by simp [go_sem, *], by simp [go_sem, *], by simp [go_sem, *], by simp [go_sem, *], by simp [go_sem, *], by simp [go_sem] <;> omega, by simp [go_sem] <;> omega, by simp [go_sem] <;> omega, (by repeat (first | exact Below.refl _ _ | assumption | refine Below.alloc ?_ (by first | omega | (simp <;> omega)) _ | refine Below.drew ?_ | refine Below.setCell ?_ (by first | omega | (simp <;> omega)) _))⟩) | (go_split_ands; refine ⟨(hbh0.cell (by simp <;> omega)).trans (by assumption), (hbh0.cell (by simp <;> omega)).trans (by assumption), (hbh0.cell (by simp <;> omega)).trans (by assumption), (hbh0.cell (by simp <;> omega)).trans (by assumption), (hbh0.cell (by simp <;> omega)).trans (by assumption), (hbh0.cell (by simp <;> omega)).trans (by assumption), (hbh0.cell (by simp <;> omega)).trans (by assumption), (hbh0.cell (by simp <;> omega)).trans (by assumption), (hbh0.cell (by simp <;> omega)).trans (by assumption), by have := hbh0.size; omega, by have := hbh0.size; omega, by have := hbh0.size; omega, Below.trans (by assumption) (hbh0.mono (by omega))⟩) | go_keep)
    (first | (go_at_call 11; refine (pred_any _ _ _ _ _ _ _ _ _ _ _ _ _).mono ?_; rintro e wh0 ⟨rfl, hbh0⟩))
  go_wp2
  go_ret
  go_split_ands
  exact ⟨rfl, by assumption⟩

end Go.Proofs.Ytgpoajhlmdmpkaa
