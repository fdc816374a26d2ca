/- The statement WeightRanges: the walk. -/
import Derived.Test.YtadinglpkphpgaaWgtM
namespace Go.Proofs.Ytadinglpkphpgaa
open Go.RowKit
set_option linter.unusedVariables false
set_option linter.unusedSimpArgs false

theorem Ri.cell2 {w : World} {g : Nat} {x y : Int} (h : w.cell? ⟨g, 0, none⟩ = some (.int .i64 x)) (h' : w.cell? ⟨g, 1, none⟩ = some (.int .i64 y)) (hg : g < w.heap.size) : Ri w w.heap.size (some ⟨g, 0, none⟩) 2 (fun k => if k = 0 then x else y) := fun _ =>
  ⟨_, rfl, hg, fun k hk => by
    rw [add_new]
    rcases (by omega : k = 0 ∨ k = 1) with rfl | rfl
    · rw [h]; rfl
    · rw [h']; rfl⟩
/-- a call that answers a code and some list -/
def Code1 (w : World) (c : Int) (e : Ending) (w' : World) : Prop := ∃ A n cp, e = .returned (.tuple #[.slice A n cp, .int .i64 c]) ∧ Below w.heap.size w w'
theorem code_of {w w' : World} {m : Nat} {F : Nat → Int} {b : Bool} {k : Int} {e : Ending} (hb : code b = k) (h : Gives w m F (code b) e w') : Code1 w k e w' := by
  obtain ⟨A, cp, rfl, _, hq⟩ := gives_sl h
  rw [hb]
  exact ⟨A, m, cp, rfl, hq⟩
theorem c_yes {b : Bool} (h : b = true) : code b = 0 := by rw [h]; rfl
theorem c_no {b : Bool} (h : b = false) : code b = 1300 := by rw [h]; rfl
theorem all1 (x : Int) : allS 1 (fun _ => x) = decide (0 ≤ x ∧ x ≤ 255) := by
  unfold allS
  rw [decide_eq_decide]
  exact ⟨fun h => h 0 (by omega), fun h k _ => h⟩
theorem one1 (s o g x : Int) : oneOk s o g 1 (fun _ => x) = decide (((-128 ≤ s ∧ s ≤ 127) ∧ (-128 ≤ o ∧ o ≤ 127) ∧ 0 ≤ g ∧ g ≤ 7) ∧ 0 ≤ x ∧ x ≤ 255) := by
  unfold oneOk
  rw [all1, Bool.eq_iff_iff]
  simp only [Bool.and_eq_true, decide_eq_true_iff]
theorem two1 (s g x : Int) : twoOk s 3 0 g 1 1 (fun _ => x) (fun _ => 1) = decide ((0 ≤ x ∧ x ≤ 255) ∧ (0 ≤ g ∧ g ≤ 7) ∧ -128 ≤ s ∧ s ≤ 191) := by
  unfold twoOk
  rw [all1, all1, Bool.eq_iff_iff]
  simp
  try omega
theorem mean1 (x : Int) : meanOk 1 1 (fun _ => x) (fun _ => 3) = decide (0 ≤ x ∧ x ≤ 255) := by
  unfold meanOk
  rw [all1, all1, Bool.eq_iff_iff]
  simp
  try omega


set_option maxHeartbeats 1600000 in
theorem walk_WeightRanges_A (a0 : Int) (a1 : Int) (a2 : Int) (a3 : Int) (w : World) (hx : a3.tmod 400 < 0) :
    Calls Try.prog 7 #[.int .i64 a0, .int .i64 a1, .int .i64 a2, .int .i64 a3] w fun e w' => e = .returned (.bool true) ∧ Below w.heap.size w w' := by
  have b0 := tmod_bd a0 200 (by omega)
  have b1 := tmod_bd a1 200 (by omega)
  have b2 := tmod_bd a2 10 (by omega)
  have b3 := tmod_bd a3 400 (by omega)
  have q1 := Lib.hid (c_no ((one1 (a0.tmod 200) (a1.tmod 200) (a2.tmod 10) (a3.tmod 400)).trans (decide_eq_false (by omega))))
  have q2 := Lib.hid (c_no ((two1 (a0.tmod 200) (a2.tmod 10) (a3.tmod 400)).trans (decide_eq_false (by omega))))
  have q3 := Lib.hid (c_no ((mean1 (a3.tmod 400)).trans (decide_eq_false (by omega))))
  go_enter Try.func7, Try.ntmps7
  go_wp2_with fail
  refine (awake_any _).mono ?_
  rintro e w1 ⟨rfl, hb1⟩
  have B1 := Lib.hid hb1
  clear hb1
  go_wp2_with fail
  refine (one_any _ 1 _ (fun _ => a3.tmod 400) _ _ _ _ ?g1 (by omega)).mono ?_
  case g1 => exact Ri.cell1 (by simp [go_sem]) (by simp [go_sem])
  rintro e w2 hq
  obtain ⟨A2, n2, c2, rfl, hb⟩ := code_of q1.out hq
  have B2 := Lib.hid (((Below.refl _ w1).alloc (Nat.le_refl _) _).trans (hb.mono (by simp)))
  clear hq hb
  go_wp2_with fail
  refine (two_any _ _ 1 1 _ _ (fun _ => a3.tmod 400) (fun _ => 1) _ _ _ _ _ ?g2 ?g3 (by omega) (by omega)).mono ?_
  case g2 => exact Ri.cell1 (by simp [go_sem]) (by simp [go_sem])
  case g3 => exact Ri.cell1 (by simp [go_sem]) (by simp [go_sem])
  rintro e w3 hq
  obtain ⟨A3, n3, c3, rfl, hb⟩ := code_of q2.out hq
  have B3 := Lib.hid ((((Below.refl _ w2).alloc (Nat.le_refl _) _).alloc (by simp) _).trans (hb.mono (by simp; omega)))
  clear hq hb
  go_wp2_with fail
  refine (two_any _ _ 1 2 _ _ (fun _ => 1) (fun k => if k = 0 then 1 else 2) _ _ _ _ _ ?g4 ?g5 (by omega) (by omega)).mono ?_
  case g4 => exact Ri.cell1 (by simp [go_sem]) (by simp [go_sem])
  case g5 => exact Ri.cell2 (by simp [go_sem]) (by simp [go_sem]) (by simp [go_sem])
  rintro e w4 hq
  obtain ⟨A4, n4, c4, rfl, hb⟩ := code_of (k := 1300) rfl hq
  have B4 := Lib.hid ((((Below.refl _ w3).alloc (Nat.le_refl _) _).alloc (by simp) _).trans (hb.mono (by simp; omega)))
  clear hq hb
  go_wp2_with fail
  refine (mean_any _ _ 1 1 _ _ (fun _ => a3.tmod 400) (fun _ => 3) _ ?g6 ?g7 (by omega) (by omega)).mono ?_
  case g6 => exact Ri.cell1 (by simp [go_sem]) (by simp [go_sem])
  case g7 => exact Ri.cell1 (by simp [go_sem]) (by simp [go_sem])
  rintro e w5 hq
  obtain ⟨A5, n5, c5, rfl, hb⟩ := code_of q3.out hq
  have B5 := Lib.hid ((((Below.refl _ w4).alloc (Nat.le_refl _) _).alloc (by simp) _).trans (hb.mono (by simp; omega)))
  clear hq hb
  go_wp2_with (go_at_call 16; refine (num_any _ _).mono ?_; rintro e w' ⟨rfl, rfl⟩)
  go_ret
  have p1 := B1.out
  have p2 := p1.trans (B2.out.mono p1.size)
  have p3 := p2.trans (B3.out.mono p2.size)
  have p4 := p3.trans (B4.out.mono p3.size)
  exact ⟨ret_bool (by first | rfl | (simp; omega)), p4.trans (B5.out.mono p4.size)⟩

set_option maxHeartbeats 1600000 in
theorem walk_WeightRanges_B (a0 : Int) (a1 : Int) (a2 : Int) (a3 : Int) (w : World) (hx : 0 ≤ a3.tmod 400 ∧ 255 < a3.tmod 400) :
    Calls Try.prog 7 #[.int .i64 a0, .int .i64 a1, .int .i64 a2, .int .i64 a3] w fun e w' => e = .returned (.bool true) ∧ Below w.heap.size w w' := by
  have b0 := tmod_bd a0 200 (by omega)
  have b1 := tmod_bd a1 200 (by omega)
  have b2 := tmod_bd a2 10 (by omega)
  have b3 := tmod_bd a3 400 (by omega)
  have q1 := Lib.hid (c_no ((one1 (a0.tmod 200) (a1.tmod 200) (a2.tmod 10) (a3.tmod 400)).trans (decide_eq_false (by omega))))
  have q2 := Lib.hid (c_no ((two1 (a0.tmod 200) (a2.tmod 10) (a3.tmod 400)).trans (decide_eq_false (by omega))))
  have q3 := Lib.hid (c_no ((mean1 (a3.tmod 400)).trans (decide_eq_false (by omega))))
  go_enter Try.func7, Try.ntmps7
  go_wp2_with fail
  refine (awake_any _).mono ?_
  rintro e w1 ⟨rfl, hb1⟩
  have B1 := Lib.hid hb1
  clear hb1
  go_wp2_with fail
  refine (one_any _ 1 _ (fun _ => a3.tmod 400) _ _ _ _ ?g1 (by omega)).mono ?_
  case g1 => exact Ri.cell1 (by simp [go_sem]) (by simp [go_sem])
  rintro e w2 hq
  obtain ⟨A2, n2, c2, rfl, hb⟩ := code_of q1.out hq
  have B2 := Lib.hid (((Below.refl _ w1).alloc (Nat.le_refl _) _).trans (hb.mono (by simp)))
  clear hq hb
  go_wp2_with fail
  refine (two_any _ _ 1 1 _ _ (fun _ => a3.tmod 400) (fun _ => 1) _ _ _ _ _ ?g2 ?g3 (by omega) (by omega)).mono ?_
  case g2 => exact Ri.cell1 (by simp [go_sem]) (by simp [go_sem])
  case g3 => exact Ri.cell1 (by simp [go_sem]) (by simp [go_sem])
  rintro e w3 hq
  obtain ⟨A3, n3, c3, rfl, hb⟩ := code_of q2.out hq
  have B3 := Lib.hid ((((Below.refl _ w2).alloc (Nat.le_refl _) _).alloc (by simp) _).trans (hb.mono (by simp; omega)))
  clear hq hb
  go_wp2_with fail
  refine (two_any _ _ 1 2 _ _ (fun _ => 1) (fun k => if k = 0 then 1 else 2) _ _ _ _ _ ?g4 ?g5 (by omega) (by omega)).mono ?_
  case g4 => exact Ri.cell1 (by simp [go_sem]) (by simp [go_sem])
  case g5 => exact Ri.cell2 (by simp [go_sem]) (by simp [go_sem]) (by simp [go_sem])
  rintro e w4 hq
  obtain ⟨A4, n4, c4, rfl, hb⟩ := code_of (k := 1300) rfl hq
  have B4 := Lib.hid ((((Below.refl _ w3).alloc (Nat.le_refl _) _).alloc (by simp) _).trans (hb.mono (by simp; omega)))
  clear hq hb
  go_wp2_with fail
  refine (mean_any _ _ 1 1 _ _ (fun _ => a3.tmod 400) (fun _ => 3) _ ?g6 ?g7 (by omega) (by omega)).mono ?_
  case g6 => exact Ri.cell1 (by simp [go_sem]) (by simp [go_sem])
  case g7 => exact Ri.cell1 (by simp [go_sem]) (by simp [go_sem])
  rintro e w5 hq
  obtain ⟨A5, n5, c5, rfl, hb⟩ := code_of q3.out hq
  have B5 := Lib.hid ((((Below.refl _ w4).alloc (Nat.le_refl _) _).alloc (by simp) _).trans (hb.mono (by simp; omega)))
  clear hq hb
  go_wp2_with (go_at_call 16; refine (num_any _ _).mono ?_; rintro e w' ⟨rfl, rfl⟩)
  go_ret
  have p1 := B1.out
  have p2 := p1.trans (B2.out.mono p1.size)
  have p3 := p2.trans (B3.out.mono p2.size)
  have p4 := p3.trans (B4.out.mono p3.size)
  exact ⟨ret_bool (by first | rfl | (simp; omega)), p4.trans (B5.out.mono p4.size)⟩

set_option maxHeartbeats 1600000 in
theorem walk_WeightRanges_C (a0 : Int) (a1 : Int) (a2 : Int) (a3 : Int) (w : World) (hx : 0 ≤ a3.tmod 400 ∧ a3.tmod 400 ≤ 255) (hg : a2.tmod 10 < 0) :
    Calls Try.prog 7 #[.int .i64 a0, .int .i64 a1, .int .i64 a2, .int .i64 a3] w fun e w' => e = .returned (.bool true) ∧ Below w.heap.size w w' := by
  have b0 := tmod_bd a0 200 (by omega)
  have b1 := tmod_bd a1 200 (by omega)
  have b2 := tmod_bd a2 10 (by omega)
  have b3 := tmod_bd a3 400 (by omega)
  have q1 := Lib.hid (c_no ((one1 (a0.tmod 200) (a1.tmod 200) (a2.tmod 10) (a3.tmod 400)).trans (decide_eq_false (by omega))))
  have q2 := Lib.hid (c_no ((two1 (a0.tmod 200) (a2.tmod 10) (a3.tmod 400)).trans (decide_eq_false (by omega))))
  have q3 := Lib.hid (c_yes ((mean1 (a3.tmod 400)).trans (decide_eq_true (by omega))))
  go_enter Try.func7, Try.ntmps7
  go_wp2_with fail
  refine (awake_any _).mono ?_
  rintro e w1 ⟨rfl, hb1⟩
  have B1 := Lib.hid hb1
  clear hb1
  go_wp2_with fail
  refine (one_any _ 1 _ (fun _ => a3.tmod 400) _ _ _ _ ?g1 (by omega)).mono ?_
  case g1 => exact Ri.cell1 (by simp [go_sem]) (by simp [go_sem])
  rintro e w2 hq
  obtain ⟨A2, n2, c2, rfl, hb⟩ := code_of q1.out hq
  have B2 := Lib.hid (((Below.refl _ w1).alloc (Nat.le_refl _) _).trans (hb.mono (by simp)))
  clear hq hb
  go_wp2_with fail
  refine (two_any _ _ 1 1 _ _ (fun _ => a3.tmod 400) (fun _ => 1) _ _ _ _ _ ?g2 ?g3 (by omega) (by omega)).mono ?_
  case g2 => exact Ri.cell1 (by simp [go_sem]) (by simp [go_sem])
  case g3 => exact Ri.cell1 (by simp [go_sem]) (by simp [go_sem])
  rintro e w3 hq
  obtain ⟨A3, n3, c3, rfl, hb⟩ := code_of q2.out hq
  have B3 := Lib.hid ((((Below.refl _ w2).alloc (Nat.le_refl _) _).alloc (by simp) _).trans (hb.mono (by simp; omega)))
  clear hq hb
  go_wp2_with fail
  refine (two_any _ _ 1 2 _ _ (fun _ => 1) (fun k => if k = 0 then 1 else 2) _ _ _ _ _ ?g4 ?g5 (by omega) (by omega)).mono ?_
  case g4 => exact Ri.cell1 (by simp [go_sem]) (by simp [go_sem])
  case g5 => exact Ri.cell2 (by simp [go_sem]) (by simp [go_sem]) (by simp [go_sem])
  rintro e w4 hq
  obtain ⟨A4, n4, c4, rfl, hb⟩ := code_of (k := 1300) rfl hq
  have B4 := Lib.hid ((((Below.refl _ w3).alloc (Nat.le_refl _) _).alloc (by simp) _).trans (hb.mono (by simp; omega)))
  clear hq hb
  go_wp2_with fail
  refine (mean_any _ _ 1 1 _ _ (fun _ => a3.tmod 400) (fun _ => 3) _ ?g6 ?g7 (by omega) (by omega)).mono ?_
  case g6 => exact Ri.cell1 (by simp [go_sem]) (by simp [go_sem])
  case g7 => exact Ri.cell1 (by simp [go_sem]) (by simp [go_sem])
  rintro e w5 hq
  obtain ⟨A5, n5, c5, rfl, hb⟩ := code_of q3.out hq
  have B5 := Lib.hid ((((Below.refl _ w4).alloc (Nat.le_refl _) _).alloc (by simp) _).trans (hb.mono (by simp; omega)))
  clear hq hb
  go_wp2_with (go_at_call 16; refine (num_any _ _).mono ?_; rintro e w' ⟨rfl, rfl⟩)
  go_ret
  have p1 := B1.out
  have p2 := p1.trans (B2.out.mono p1.size)
  have p3 := p2.trans (B3.out.mono p2.size)
  have p4 := p3.trans (B4.out.mono p3.size)
  exact ⟨ret_bool (by first | rfl | (simp; omega)), p4.trans (B5.out.mono p4.size)⟩

set_option maxHeartbeats 1600000 in
theorem walk_WeightRanges_D (a0 : Int) (a1 : Int) (a2 : Int) (a3 : Int) (w : World) (hx : 0 ≤ a3.tmod 400 ∧ a3.tmod 400 ≤ 255) (hg : 0 ≤ a2.tmod 10 ∧ 7 < a2.tmod 10) :
    Calls Try.prog 7 #[.int .i64 a0, .int .i64 a1, .int .i64 a2, .int .i64 a3] w fun e w' => e = .returned (.bool true) ∧ Below w.heap.size w w' := by
  have b0 := tmod_bd a0 200 (by omega)
  have b1 := tmod_bd a1 200 (by omega)
  have b2 := tmod_bd a2 10 (by omega)
  have b3 := tmod_bd a3 400 (by omega)
  have q1 := Lib.hid (c_no ((one1 (a0.tmod 200) (a1.tmod 200) (a2.tmod 10) (a3.tmod 400)).trans (decide_eq_false (by omega))))
  have q2 := Lib.hid (c_no ((two1 (a0.tmod 200) (a2.tmod 10) (a3.tmod 400)).trans (decide_eq_false (by omega))))
  have q3 := Lib.hid (c_yes ((mean1 (a3.tmod 400)).trans (decide_eq_true (by omega))))
  go_enter Try.func7, Try.ntmps7
  go_wp2_with fail
  refine (awake_any _).mono ?_
  rintro e w1 ⟨rfl, hb1⟩
  have B1 := Lib.hid hb1
  clear hb1
  go_wp2_with fail
  refine (one_any _ 1 _ (fun _ => a3.tmod 400) _ _ _ _ ?g1 (by omega)).mono ?_
  case g1 => exact Ri.cell1 (by simp [go_sem]) (by simp [go_sem])
  rintro e w2 hq
  obtain ⟨A2, n2, c2, rfl, hb⟩ := code_of q1.out hq
  have B2 := Lib.hid (((Below.refl _ w1).alloc (Nat.le_refl _) _).trans (hb.mono (by simp)))
  clear hq hb
  go_wp2_with fail
  refine (two_any _ _ 1 1 _ _ (fun _ => a3.tmod 400) (fun _ => 1) _ _ _ _ _ ?g2 ?g3 (by omega) (by omega)).mono ?_
  case g2 => exact Ri.cell1 (by simp [go_sem]) (by simp [go_sem])
  case g3 => exact Ri.cell1 (by simp [go_sem]) (by simp [go_sem])
  rintro e w3 hq
  obtain ⟨A3, n3, c3, rfl, hb⟩ := code_of q2.out hq
  have B3 := Lib.hid ((((Below.refl _ w2).alloc (Nat.le_refl _) _).alloc (by simp) _).trans (hb.mono (by simp; omega)))
  clear hq hb
  go_wp2_with fail
  refine (two_any _ _ 1 2 _ _ (fun _ => 1) (fun k => if k = 0 then 1 else 2) _ _ _ _ _ ?g4 ?g5 (by omega) (by omega)).mono ?_
  case g4 => exact Ri.cell1 (by simp [go_sem]) (by simp [go_sem])
  case g5 => exact Ri.cell2 (by simp [go_sem]) (by simp [go_sem]) (by simp [go_sem])
  rintro e w4 hq
  obtain ⟨A4, n4, c4, rfl, hb⟩ := code_of (k := 1300) rfl hq
  have B4 := Lib.hid ((((Below.refl _ w3).alloc (Nat.le_refl _) _).alloc (by simp) _).trans (hb.mono (by simp; omega)))
  clear hq hb
  go_wp2_with fail
  refine (mean_any _ _ 1 1 _ _ (fun _ => a3.tmod 400) (fun _ => 3) _ ?g6 ?g7 (by omega) (by omega)).mono ?_
  case g6 => exact Ri.cell1 (by simp [go_sem]) (by simp [go_sem])
  case g7 => exact Ri.cell1 (by simp [go_sem]) (by simp [go_sem])
  rintro e w5 hq
  obtain ⟨A5, n5, c5, rfl, hb⟩ := code_of q3.out hq
  have B5 := Lib.hid ((((Below.refl _ w4).alloc (Nat.le_refl _) _).alloc (by simp) _).trans (hb.mono (by simp; omega)))
  clear hq hb
  go_wp2_with (go_at_call 16; refine (num_any _ _).mono ?_; rintro e w' ⟨rfl, rfl⟩)
  go_ret
  have p1 := B1.out
  have p2 := p1.trans (B2.out.mono p1.size)
  have p3 := p2.trans (B3.out.mono p2.size)
  have p4 := p3.trans (B4.out.mono p3.size)
  exact ⟨ret_bool (by first | rfl | (simp; omega)), p4.trans (B5.out.mono p4.size)⟩

set_option maxHeartbeats 1600000 in
theorem walk_WeightRanges_E00 (a0 : Int) (a1 : Int) (a2 : Int) (a3 : Int) (w : World) (hx : 0 ≤ a3.tmod 400 ∧ a3.tmod 400 ≤ 255) (hg : 0 ≤ a2.tmod 10 ∧ a2.tmod 10 ≤ 7) (hs : a0.tmod 200 < -128) (ho : a1.tmod 200 < -128) :
    Calls Try.prog 7 #[.int .i64 a0, .int .i64 a1, .int .i64 a2, .int .i64 a3] w fun e w' => e = .returned (.bool true) ∧ Below w.heap.size w w' := by
  have b0 := tmod_bd a0 200 (by omega)
  have b1 := tmod_bd a1 200 (by omega)
  have b2 := tmod_bd a2 10 (by omega)
  have b3 := tmod_bd a3 400 (by omega)
  have q1 := Lib.hid (c_no ((one1 (a0.tmod 200) (a1.tmod 200) (a2.tmod 10) (a3.tmod 400)).trans (decide_eq_false (by omega))))
  have q2 := Lib.hid (c_no ((two1 (a0.tmod 200) (a2.tmod 10) (a3.tmod 400)).trans (decide_eq_false (by omega))))
  have q3 := Lib.hid (c_yes ((mean1 (a3.tmod 400)).trans (decide_eq_true (by omega))))
  go_enter Try.func7, Try.ntmps7
  go_wp2_with fail
  refine (awake_any _).mono ?_
  rintro e w1 ⟨rfl, hb1⟩
  have B1 := Lib.hid hb1
  clear hb1
  go_wp2_with fail
  refine (one_any _ 1 _ (fun _ => a3.tmod 400) _ _ _ _ ?g1 (by omega)).mono ?_
  case g1 => exact Ri.cell1 (by simp [go_sem]) (by simp [go_sem])
  rintro e w2 hq
  obtain ⟨A2, n2, c2, rfl, hb⟩ := code_of q1.out hq
  have B2 := Lib.hid (((Below.refl _ w1).alloc (Nat.le_refl _) _).trans (hb.mono (by simp)))
  clear hq hb
  go_wp2_with fail
  refine (two_any _ _ 1 1 _ _ (fun _ => a3.tmod 400) (fun _ => 1) _ _ _ _ _ ?g2 ?g3 (by omega) (by omega)).mono ?_
  case g2 => exact Ri.cell1 (by simp [go_sem]) (by simp [go_sem])
  case g3 => exact Ri.cell1 (by simp [go_sem]) (by simp [go_sem])
  rintro e w3 hq
  obtain ⟨A3, n3, c3, rfl, hb⟩ := code_of q2.out hq
  have B3 := Lib.hid ((((Below.refl _ w2).alloc (Nat.le_refl _) _).alloc (by simp) _).trans (hb.mono (by simp; omega)))
  clear hq hb
  go_wp2_with fail
  refine (two_any _ _ 1 2 _ _ (fun _ => 1) (fun k => if k = 0 then 1 else 2) _ _ _ _ _ ?g4 ?g5 (by omega) (by omega)).mono ?_
  case g4 => exact Ri.cell1 (by simp [go_sem]) (by simp [go_sem])
  case g5 => exact Ri.cell2 (by simp [go_sem]) (by simp [go_sem]) (by simp [go_sem])
  rintro e w4 hq
  obtain ⟨A4, n4, c4, rfl, hb⟩ := code_of (k := 1300) rfl hq
  have B4 := Lib.hid ((((Below.refl _ w3).alloc (Nat.le_refl _) _).alloc (by simp) _).trans (hb.mono (by simp; omega)))
  clear hq hb
  go_wp2_with fail
  refine (mean_any _ _ 1 1 _ _ (fun _ => a3.tmod 400) (fun _ => 3) _ ?g6 ?g7 (by omega) (by omega)).mono ?_
  case g6 => exact Ri.cell1 (by simp [go_sem]) (by simp [go_sem])
  case g7 => exact Ri.cell1 (by simp [go_sem]) (by simp [go_sem])
  rintro e w5 hq
  obtain ⟨A5, n5, c5, rfl, hb⟩ := code_of q3.out hq
  have B5 := Lib.hid ((((Below.refl _ w4).alloc (Nat.le_refl _) _).alloc (by simp) _).trans (hb.mono (by simp; omega)))
  clear hq hb
  go_wp2_with (go_at_call 16; refine (num_any _ _).mono ?_; rintro e w' ⟨rfl, rfl⟩)
  go_ret
  have p1 := B1.out
  have p2 := p1.trans (B2.out.mono p1.size)
  have p3 := p2.trans (B3.out.mono p2.size)
  have p4 := p3.trans (B4.out.mono p3.size)
  exact ⟨ret_bool (by first | rfl | (simp; omega)), p4.trans (B5.out.mono p4.size)⟩

set_option maxHeartbeats 1600000 in
theorem walk_WeightRanges_E01 (a0 : Int) (a1 : Int) (a2 : Int) (a3 : Int) (w : World) (hx : 0 ≤ a3.tmod 400 ∧ a3.tmod 400 ≤ 255) (hg : 0 ≤ a2.tmod 10 ∧ a2.tmod 10 ≤ 7) (hs : a0.tmod 200 < -128) (ho : -128 ≤ a1.tmod 200 ∧ a1.tmod 200 ≤ 127) :
    Calls Try.prog 7 #[.int .i64 a0, .int .i64 a1, .int .i64 a2, .int .i64 a3] w fun e w' => e = .returned (.bool true) ∧ Below w.heap.size w w' := by
  have b0 := tmod_bd a0 200 (by omega)
  have b1 := tmod_bd a1 200 (by omega)
  have b2 := tmod_bd a2 10 (by omega)
  have b3 := tmod_bd a3 400 (by omega)
  have q1 := Lib.hid (c_no ((one1 (a0.tmod 200) (a1.tmod 200) (a2.tmod 10) (a3.tmod 400)).trans (decide_eq_false (by omega))))
  have q2 := Lib.hid (c_no ((two1 (a0.tmod 200) (a2.tmod 10) (a3.tmod 400)).trans (decide_eq_false (by omega))))
  have q3 := Lib.hid (c_yes ((mean1 (a3.tmod 400)).trans (decide_eq_true (by omega))))
  go_enter Try.func7, Try.ntmps7
  go_wp2_with fail
  refine (awake_any _).mono ?_
  rintro e w1 ⟨rfl, hb1⟩
  have B1 := Lib.hid hb1
  clear hb1
  go_wp2_with fail
  refine (one_any _ 1 _ (fun _ => a3.tmod 400) _ _ _ _ ?g1 (by omega)).mono ?_
  case g1 => exact Ri.cell1 (by simp [go_sem]) (by simp [go_sem])
  rintro e w2 hq
  obtain ⟨A2, n2, c2, rfl, hb⟩ := code_of q1.out hq
  have B2 := Lib.hid (((Below.refl _ w1).alloc (Nat.le_refl _) _).trans (hb.mono (by simp)))
  clear hq hb
  go_wp2_with fail
  refine (two_any _ _ 1 1 _ _ (fun _ => a3.tmod 400) (fun _ => 1) _ _ _ _ _ ?g2 ?g3 (by omega) (by omega)).mono ?_
  case g2 => exact Ri.cell1 (by simp [go_sem]) (by simp [go_sem])
  case g3 => exact Ri.cell1 (by simp [go_sem]) (by simp [go_sem])
  rintro e w3 hq
  obtain ⟨A3, n3, c3, rfl, hb⟩ := code_of q2.out hq
  have B3 := Lib.hid ((((Below.refl _ w2).alloc (Nat.le_refl _) _).alloc (by simp) _).trans (hb.mono (by simp; omega)))
  clear hq hb
  go_wp2_with fail
  refine (two_any _ _ 1 2 _ _ (fun _ => 1) (fun k => if k = 0 then 1 else 2) _ _ _ _ _ ?g4 ?g5 (by omega) (by omega)).mono ?_
  case g4 => exact Ri.cell1 (by simp [go_sem]) (by simp [go_sem])
  case g5 => exact Ri.cell2 (by simp [go_sem]) (by simp [go_sem]) (by simp [go_sem])
  rintro e w4 hq
  obtain ⟨A4, n4, c4, rfl, hb⟩ := code_of (k := 1300) rfl hq
  have B4 := Lib.hid ((((Below.refl _ w3).alloc (Nat.le_refl _) _).alloc (by simp) _).trans (hb.mono (by simp; omega)))
  clear hq hb
  go_wp2_with fail
  refine (mean_any _ _ 1 1 _ _ (fun _ => a3.tmod 400) (fun _ => 3) _ ?g6 ?g7 (by omega) (by omega)).mono ?_
  case g6 => exact Ri.cell1 (by simp [go_sem]) (by simp [go_sem])
  case g7 => exact Ri.cell1 (by simp [go_sem]) (by simp [go_sem])
  rintro e w5 hq
  obtain ⟨A5, n5, c5, rfl, hb⟩ := code_of q3.out hq
  have B5 := Lib.hid ((((Below.refl _ w4).alloc (Nat.le_refl _) _).alloc (by simp) _).trans (hb.mono (by simp; omega)))
  clear hq hb
  go_wp2_with (go_at_call 16; refine (num_any _ _).mono ?_; rintro e w' ⟨rfl, rfl⟩)
  go_ret
  have p1 := B1.out
  have p2 := p1.trans (B2.out.mono p1.size)
  have p3 := p2.trans (B3.out.mono p2.size)
  have p4 := p3.trans (B4.out.mono p3.size)
  exact ⟨ret_bool (by first | rfl | (simp; omega)), p4.trans (B5.out.mono p4.size)⟩

set_option maxHeartbeats 1600000 in
theorem walk_WeightRanges_E02 (a0 : Int) (a1 : Int) (a2 : Int) (a3 : Int) (w : World) (hx : 0 ≤ a3.tmod 400 ∧ a3.tmod 400 ≤ 255) (hg : 0 ≤ a2.tmod 10 ∧ a2.tmod 10 ≤ 7) (hs : a0.tmod 200 < -128) (ho : -128 ≤ a1.tmod 200 ∧ 127 < a1.tmod 200) :
    Calls Try.prog 7 #[.int .i64 a0, .int .i64 a1, .int .i64 a2, .int .i64 a3] w fun e w' => e = .returned (.bool true) ∧ Below w.heap.size w w' := by
  have b0 := tmod_bd a0 200 (by omega)
  have b1 := tmod_bd a1 200 (by omega)
  have b2 := tmod_bd a2 10 (by omega)
  have b3 := tmod_bd a3 400 (by omega)
  have q1 := Lib.hid (c_no ((one1 (a0.tmod 200) (a1.tmod 200) (a2.tmod 10) (a3.tmod 400)).trans (decide_eq_false (by omega))))
  have q2 := Lib.hid (c_no ((two1 (a0.tmod 200) (a2.tmod 10) (a3.tmod 400)).trans (decide_eq_false (by omega))))
  have q3 := Lib.hid (c_yes ((mean1 (a3.tmod 400)).trans (decide_eq_true (by omega))))
  go_enter Try.func7, Try.ntmps7
  go_wp2_with fail
  refine (awake_any _).mono ?_
  rintro e w1 ⟨rfl, hb1⟩
  have B1 := Lib.hid hb1
  clear hb1
  go_wp2_with fail
  refine (one_any _ 1 _ (fun _ => a3.tmod 400) _ _ _ _ ?g1 (by omega)).mono ?_
  case g1 => exact Ri.cell1 (by simp [go_sem]) (by simp [go_sem])
  rintro e w2 hq
  obtain ⟨A2, n2, c2, rfl, hb⟩ := code_of q1.out hq
  have B2 := Lib.hid (((Below.refl _ w1).alloc (Nat.le_refl _) _).trans (hb.mono (by simp)))
  clear hq hb
  go_wp2_with fail
  refine (two_any _ _ 1 1 _ _ (fun _ => a3.tmod 400) (fun _ => 1) _ _ _ _ _ ?g2 ?g3 (by omega) (by omega)).mono ?_
  case g2 => exact Ri.cell1 (by simp [go_sem]) (by simp [go_sem])
  case g3 => exact Ri.cell1 (by simp [go_sem]) (by simp [go_sem])
  rintro e w3 hq
  obtain ⟨A3, n3, c3, rfl, hb⟩ := code_of q2.out hq
  have B3 := Lib.hid ((((Below.refl _ w2).alloc (Nat.le_refl _) _).alloc (by simp) _).trans (hb.mono (by simp; omega)))
  clear hq hb
  go_wp2_with fail
  refine (two_any _ _ 1 2 _ _ (fun _ => 1) (fun k => if k = 0 then 1 else 2) _ _ _ _ _ ?g4 ?g5 (by omega) (by omega)).mono ?_
  case g4 => exact Ri.cell1 (by simp [go_sem]) (by simp [go_sem])
  case g5 => exact Ri.cell2 (by simp [go_sem]) (by simp [go_sem]) (by simp [go_sem])
  rintro e w4 hq
  obtain ⟨A4, n4, c4, rfl, hb⟩ := code_of (k := 1300) rfl hq
  have B4 := Lib.hid ((((Below.refl _ w3).alloc (Nat.le_refl _) _).alloc (by simp) _).trans (hb.mono (by simp; omega)))
  clear hq hb
  go_wp2_with fail
  refine (mean_any _ _ 1 1 _ _ (fun _ => a3.tmod 400) (fun _ => 3) _ ?g6 ?g7 (by omega) (by omega)).mono ?_
  case g6 => exact Ri.cell1 (by simp [go_sem]) (by simp [go_sem])
  case g7 => exact Ri.cell1 (by simp [go_sem]) (by simp [go_sem])
  rintro e w5 hq
  obtain ⟨A5, n5, c5, rfl, hb⟩ := code_of q3.out hq
  have B5 := Lib.hid ((((Below.refl _ w4).alloc (Nat.le_refl _) _).alloc (by simp) _).trans (hb.mono (by simp; omega)))
  clear hq hb
  go_wp2_with (go_at_call 16; refine (num_any _ _).mono ?_; rintro e w' ⟨rfl, rfl⟩)
  go_ret
  have p1 := B1.out
  have p2 := p1.trans (B2.out.mono p1.size)
  have p3 := p2.trans (B3.out.mono p2.size)
  have p4 := p3.trans (B4.out.mono p3.size)
  exact ⟨ret_bool (by first | rfl | (simp; omega)), p4.trans (B5.out.mono p4.size)⟩

set_option maxHeartbeats 1600000 in
theorem walk_WeightRanges_E10 (a0 : Int) (a1 : Int) (a2 : Int) (a3 : Int) (w : World) (hx : 0 ≤ a3.tmod 400 ∧ a3.tmod 400 ≤ 255) (hg : 0 ≤ a2.tmod 10 ∧ a2.tmod 10 ≤ 7) (hs : -128 ≤ a0.tmod 200 ∧ a0.tmod 200 ≤ 127) (ho : a1.tmod 200 < -128) :
    Calls Try.prog 7 #[.int .i64 a0, .int .i64 a1, .int .i64 a2, .int .i64 a3] w fun e w' => e = .returned (.bool true) ∧ Below w.heap.size w w' := by
  have b0 := tmod_bd a0 200 (by omega)
  have b1 := tmod_bd a1 200 (by omega)
  have b2 := tmod_bd a2 10 (by omega)
  have b3 := tmod_bd a3 400 (by omega)
  have q1 := Lib.hid (c_no ((one1 (a0.tmod 200) (a1.tmod 200) (a2.tmod 10) (a3.tmod 400)).trans (decide_eq_false (by omega))))
  have q2 := Lib.hid (c_yes ((two1 (a0.tmod 200) (a2.tmod 10) (a3.tmod 400)).trans (decide_eq_true (by omega))))
  have q3 := Lib.hid (c_yes ((mean1 (a3.tmod 400)).trans (decide_eq_true (by omega))))
  go_enter Try.func7, Try.ntmps7
  go_wp2_with fail
  refine (awake_any _).mono ?_
  rintro e w1 ⟨rfl, hb1⟩
  have B1 := Lib.hid hb1
  clear hb1
  go_wp2_with fail
  refine (one_any _ 1 _ (fun _ => a3.tmod 400) _ _ _ _ ?g1 (by omega)).mono ?_
  case g1 => exact Ri.cell1 (by simp [go_sem]) (by simp [go_sem])
  rintro e w2 hq
  obtain ⟨A2, n2, c2, rfl, hb⟩ := code_of q1.out hq
  have B2 := Lib.hid (((Below.refl _ w1).alloc (Nat.le_refl _) _).trans (hb.mono (by simp)))
  clear hq hb
  go_wp2_with fail
  refine (two_any _ _ 1 1 _ _ (fun _ => a3.tmod 400) (fun _ => 1) _ _ _ _ _ ?g2 ?g3 (by omega) (by omega)).mono ?_
  case g2 => exact Ri.cell1 (by simp [go_sem]) (by simp [go_sem])
  case g3 => exact Ri.cell1 (by simp [go_sem]) (by simp [go_sem])
  rintro e w3 hq
  obtain ⟨A3, n3, c3, rfl, hb⟩ := code_of q2.out hq
  have B3 := Lib.hid ((((Below.refl _ w2).alloc (Nat.le_refl _) _).alloc (by simp) _).trans (hb.mono (by simp; omega)))
  clear hq hb
  go_wp2_with fail
  refine (two_any _ _ 1 2 _ _ (fun _ => 1) (fun k => if k = 0 then 1 else 2) _ _ _ _ _ ?g4 ?g5 (by omega) (by omega)).mono ?_
  case g4 => exact Ri.cell1 (by simp [go_sem]) (by simp [go_sem])
  case g5 => exact Ri.cell2 (by simp [go_sem]) (by simp [go_sem]) (by simp [go_sem])
  rintro e w4 hq
  obtain ⟨A4, n4, c4, rfl, hb⟩ := code_of (k := 1300) rfl hq
  have B4 := Lib.hid ((((Below.refl _ w3).alloc (Nat.le_refl _) _).alloc (by simp) _).trans (hb.mono (by simp; omega)))
  clear hq hb
  go_wp2_with fail
  refine (mean_any _ _ 1 1 _ _ (fun _ => a3.tmod 400) (fun _ => 3) _ ?g6 ?g7 (by omega) (by omega)).mono ?_
  case g6 => exact Ri.cell1 (by simp [go_sem]) (by simp [go_sem])
  case g7 => exact Ri.cell1 (by simp [go_sem]) (by simp [go_sem])
  rintro e w5 hq
  obtain ⟨A5, n5, c5, rfl, hb⟩ := code_of q3.out hq
  have B5 := Lib.hid ((((Below.refl _ w4).alloc (Nat.le_refl _) _).alloc (by simp) _).trans (hb.mono (by simp; omega)))
  clear hq hb
  go_wp2_with (go_at_call 16; refine (num_any _ _).mono ?_; rintro e w' ⟨rfl, rfl⟩)
  go_ret
  have p1 := B1.out
  have p2 := p1.trans (B2.out.mono p1.size)
  have p3 := p2.trans (B3.out.mono p2.size)
  have p4 := p3.trans (B4.out.mono p3.size)
  exact ⟨ret_bool (by first | rfl | (simp; omega)), p4.trans (B5.out.mono p4.size)⟩

set_option maxHeartbeats 1600000 in
theorem walk_WeightRanges_E11 (a0 : Int) (a1 : Int) (a2 : Int) (a3 : Int) (w : World) (hx : 0 ≤ a3.tmod 400 ∧ a3.tmod 400 ≤ 255) (hg : 0 ≤ a2.tmod 10 ∧ a2.tmod 10 ≤ 7) (hs : -128 ≤ a0.tmod 200 ∧ a0.tmod 200 ≤ 127) (ho : -128 ≤ a1.tmod 200 ∧ a1.tmod 200 ≤ 127) :
    Calls Try.prog 7 #[.int .i64 a0, .int .i64 a1, .int .i64 a2, .int .i64 a3] w fun e w' => e = .returned (.bool true) ∧ Below w.heap.size w w' := by
  have b0 := tmod_bd a0 200 (by omega)
  have b1 := tmod_bd a1 200 (by omega)
  have b2 := tmod_bd a2 10 (by omega)
  have b3 := tmod_bd a3 400 (by omega)
  have q1 := Lib.hid (c_yes ((one1 (a0.tmod 200) (a1.tmod 200) (a2.tmod 10) (a3.tmod 400)).trans (decide_eq_true (by omega))))
  have q2 := Lib.hid (c_yes ((two1 (a0.tmod 200) (a2.tmod 10) (a3.tmod 400)).trans (decide_eq_true (by omega))))
  have q3 := Lib.hid (c_yes ((mean1 (a3.tmod 400)).trans (decide_eq_true (by omega))))
  go_enter Try.func7, Try.ntmps7
  go_wp2_with fail
  refine (awake_any _).mono ?_
  rintro e w1 ⟨rfl, hb1⟩
  have B1 := Lib.hid hb1
  clear hb1
  go_wp2_with fail
  refine (one_any _ 1 _ (fun _ => a3.tmod 400) _ _ _ _ ?g1 (by omega)).mono ?_
  case g1 => exact Ri.cell1 (by simp [go_sem]) (by simp [go_sem])
  rintro e w2 hq
  obtain ⟨A2, n2, c2, rfl, hb⟩ := code_of q1.out hq
  have B2 := Lib.hid (((Below.refl _ w1).alloc (Nat.le_refl _) _).trans (hb.mono (by simp)))
  clear hq hb
  go_wp2_with fail
  refine (two_any _ _ 1 1 _ _ (fun _ => a3.tmod 400) (fun _ => 1) _ _ _ _ _ ?g2 ?g3 (by omega) (by omega)).mono ?_
  case g2 => exact Ri.cell1 (by simp [go_sem]) (by simp [go_sem])
  case g3 => exact Ri.cell1 (by simp [go_sem]) (by simp [go_sem])
  rintro e w3 hq
  obtain ⟨A3, n3, c3, rfl, hb⟩ := code_of q2.out hq
  have B3 := Lib.hid ((((Below.refl _ w2).alloc (Nat.le_refl _) _).alloc (by simp) _).trans (hb.mono (by simp; omega)))
  clear hq hb
  go_wp2_with fail
  refine (two_any _ _ 1 2 _ _ (fun _ => 1) (fun k => if k = 0 then 1 else 2) _ _ _ _ _ ?g4 ?g5 (by omega) (by omega)).mono ?_
  case g4 => exact Ri.cell1 (by simp [go_sem]) (by simp [go_sem])
  case g5 => exact Ri.cell2 (by simp [go_sem]) (by simp [go_sem]) (by simp [go_sem])
  rintro e w4 hq
  obtain ⟨A4, n4, c4, rfl, hb⟩ := code_of (k := 1300) rfl hq
  have B4 := Lib.hid ((((Below.refl _ w3).alloc (Nat.le_refl _) _).alloc (by simp) _).trans (hb.mono (by simp; omega)))
  clear hq hb
  go_wp2_with fail
  refine (mean_any _ _ 1 1 _ _ (fun _ => a3.tmod 400) (fun _ => 3) _ ?g6 ?g7 (by omega) (by omega)).mono ?_
  case g6 => exact Ri.cell1 (by simp [go_sem]) (by simp [go_sem])
  case g7 => exact Ri.cell1 (by simp [go_sem]) (by simp [go_sem])
  rintro e w5 hq
  obtain ⟨A5, n5, c5, rfl, hb⟩ := code_of q3.out hq
  have B5 := Lib.hid ((((Below.refl _ w4).alloc (Nat.le_refl _) _).alloc (by simp) _).trans (hb.mono (by simp; omega)))
  clear hq hb
  go_wp2_with (go_at_call 16; refine (num_any _ _).mono ?_; rintro e w' ⟨rfl, rfl⟩)
  go_ret
  have p1 := B1.out
  have p2 := p1.trans (B2.out.mono p1.size)
  have p3 := p2.trans (B3.out.mono p2.size)
  have p4 := p3.trans (B4.out.mono p3.size)
  exact ⟨ret_bool (by first | rfl | (simp; omega)), p4.trans (B5.out.mono p4.size)⟩

set_option maxHeartbeats 1600000 in
theorem walk_WeightRanges_E12 (a0 : Int) (a1 : Int) (a2 : Int) (a3 : Int) (w : World) (hx : 0 ≤ a3.tmod 400 ∧ a3.tmod 400 ≤ 255) (hg : 0 ≤ a2.tmod 10 ∧ a2.tmod 10 ≤ 7) (hs : -128 ≤ a0.tmod 200 ∧ a0.tmod 200 ≤ 127) (ho : -128 ≤ a1.tmod 200 ∧ 127 < a1.tmod 200) :
    Calls Try.prog 7 #[.int .i64 a0, .int .i64 a1, .int .i64 a2, .int .i64 a3] w fun e w' => e = .returned (.bool true) ∧ Below w.heap.size w w' := by
  have b0 := tmod_bd a0 200 (by omega)
  have b1 := tmod_bd a1 200 (by omega)
  have b2 := tmod_bd a2 10 (by omega)
  have b3 := tmod_bd a3 400 (by omega)
  have q1 := Lib.hid (c_no ((one1 (a0.tmod 200) (a1.tmod 200) (a2.tmod 10) (a3.tmod 400)).trans (decide_eq_false (by omega))))
  have q2 := Lib.hid (c_yes ((two1 (a0.tmod 200) (a2.tmod 10) (a3.tmod 400)).trans (decide_eq_true (by omega))))
  have q3 := Lib.hid (c_yes ((mean1 (a3.tmod 400)).trans (decide_eq_true (by omega))))
  go_enter Try.func7, Try.ntmps7
  go_wp2_with fail
  refine (awake_any _).mono ?_
  rintro e w1 ⟨rfl, hb1⟩
  have B1 := Lib.hid hb1
  clear hb1
  go_wp2_with fail
  refine (one_any _ 1 _ (fun _ => a3.tmod 400) _ _ _ _ ?g1 (by omega)).mono ?_
  case g1 => exact Ri.cell1 (by simp [go_sem]) (by simp [go_sem])
  rintro e w2 hq
  obtain ⟨A2, n2, c2, rfl, hb⟩ := code_of q1.out hq
  have B2 := Lib.hid (((Below.refl _ w1).alloc (Nat.le_refl _) _).trans (hb.mono (by simp)))
  clear hq hb
  go_wp2_with fail
  refine (two_any _ _ 1 1 _ _ (fun _ => a3.tmod 400) (fun _ => 1) _ _ _ _ _ ?g2 ?g3 (by omega) (by omega)).mono ?_
  case g2 => exact Ri.cell1 (by simp [go_sem]) (by simp [go_sem])
  case g3 => exact Ri.cell1 (by simp [go_sem]) (by simp [go_sem])
  rintro e w3 hq
  obtain ⟨A3, n3, c3, rfl, hb⟩ := code_of q2.out hq
  have B3 := Lib.hid ((((Below.refl _ w2).alloc (Nat.le_refl _) _).alloc (by simp) _).trans (hb.mono (by simp; omega)))
  clear hq hb
  go_wp2_with fail
  refine (two_any _ _ 1 2 _ _ (fun _ => 1) (fun k => if k = 0 then 1 else 2) _ _ _ _ _ ?g4 ?g5 (by omega) (by omega)).mono ?_
  case g4 => exact Ri.cell1 (by simp [go_sem]) (by simp [go_sem])
  case g5 => exact Ri.cell2 (by simp [go_sem]) (by simp [go_sem]) (by simp [go_sem])
  rintro e w4 hq
  obtain ⟨A4, n4, c4, rfl, hb⟩ := code_of (k := 1300) rfl hq
  have B4 := Lib.hid ((((Below.refl _ w3).alloc (Nat.le_refl _) _).alloc (by simp) _).trans (hb.mono (by simp; omega)))
  clear hq hb
  go_wp2_with fail
  refine (mean_any _ _ 1 1 _ _ (fun _ => a3.tmod 400) (fun _ => 3) _ ?g6 ?g7 (by omega) (by omega)).mono ?_
  case g6 => exact Ri.cell1 (by simp [go_sem]) (by simp [go_sem])
  case g7 => exact Ri.cell1 (by simp [go_sem]) (by simp [go_sem])
  rintro e w5 hq
  obtain ⟨A5, n5, c5, rfl, hb⟩ := code_of q3.out hq
  have B5 := Lib.hid ((((Below.refl _ w4).alloc (Nat.le_refl _) _).alloc (by simp) _).trans (hb.mono (by simp; omega)))
  clear hq hb
  go_wp2_with (go_at_call 16; refine (num_any _ _).mono ?_; rintro e w' ⟨rfl, rfl⟩)
  go_ret
  have p1 := B1.out
  have p2 := p1.trans (B2.out.mono p1.size)
  have p3 := p2.trans (B3.out.mono p2.size)
  have p4 := p3.trans (B4.out.mono p3.size)
  exact ⟨ret_bool (by first | rfl | (simp; omega)), p4.trans (B5.out.mono p4.size)⟩

set_option maxHeartbeats 1600000 in
theorem walk_WeightRanges_E20 (a0 : Int) (a1 : Int) (a2 : Int) (a3 : Int) (w : World) (hx : 0 ≤ a3.tmod 400 ∧ a3.tmod 400 ≤ 255) (hg : 0 ≤ a2.tmod 10 ∧ a2.tmod 10 ≤ 7) (hs : -128 ≤ a0.tmod 200 ∧ 127 < a0.tmod 200 ∧ a0.tmod 200 ≤ 191) (ho : a1.tmod 200 < -128) :
    Calls Try.prog 7 #[.int .i64 a0, .int .i64 a1, .int .i64 a2, .int .i64 a3] w fun e w' => e = .returned (.bool true) ∧ Below w.heap.size w w' := by
  have b0 := tmod_bd a0 200 (by omega)
  have b1 := tmod_bd a1 200 (by omega)
  have b2 := tmod_bd a2 10 (by omega)
  have b3 := tmod_bd a3 400 (by omega)
  have q1 := Lib.hid (c_no ((one1 (a0.tmod 200) (a1.tmod 200) (a2.tmod 10) (a3.tmod 400)).trans (decide_eq_false (by omega))))
  have q2 := Lib.hid (c_yes ((two1 (a0.tmod 200) (a2.tmod 10) (a3.tmod 400)).trans (decide_eq_true (by omega))))
  have q3 := Lib.hid (c_yes ((mean1 (a3.tmod 400)).trans (decide_eq_true (by omega))))
  go_enter Try.func7, Try.ntmps7
  go_wp2_with fail
  refine (awake_any _).mono ?_
  rintro e w1 ⟨rfl, hb1⟩
  have B1 := Lib.hid hb1
  clear hb1
  go_wp2_with fail
  refine (one_any _ 1 _ (fun _ => a3.tmod 400) _ _ _ _ ?g1 (by omega)).mono ?_
  case g1 => exact Ri.cell1 (by simp [go_sem]) (by simp [go_sem])
  rintro e w2 hq
  obtain ⟨A2, n2, c2, rfl, hb⟩ := code_of q1.out hq
  have B2 := Lib.hid (((Below.refl _ w1).alloc (Nat.le_refl _) _).trans (hb.mono (by simp)))
  clear hq hb
  go_wp2_with fail
  refine (two_any _ _ 1 1 _ _ (fun _ => a3.tmod 400) (fun _ => 1) _ _ _ _ _ ?g2 ?g3 (by omega) (by omega)).mono ?_
  case g2 => exact Ri.cell1 (by simp [go_sem]) (by simp [go_sem])
  case g3 => exact Ri.cell1 (by simp [go_sem]) (by simp [go_sem])
  rintro e w3 hq
  obtain ⟨A3, n3, c3, rfl, hb⟩ := code_of q2.out hq
  have B3 := Lib.hid ((((Below.refl _ w2).alloc (Nat.le_refl _) _).alloc (by simp) _).trans (hb.mono (by simp; omega)))
  clear hq hb
  go_wp2_with fail
  refine (two_any _ _ 1 2 _ _ (fun _ => 1) (fun k => if k = 0 then 1 else 2) _ _ _ _ _ ?g4 ?g5 (by omega) (by omega)).mono ?_
  case g4 => exact Ri.cell1 (by simp [go_sem]) (by simp [go_sem])
  case g5 => exact Ri.cell2 (by simp [go_sem]) (by simp [go_sem]) (by simp [go_sem])
  rintro e w4 hq
  obtain ⟨A4, n4, c4, rfl, hb⟩ := code_of (k := 1300) rfl hq
  have B4 := Lib.hid ((((Below.refl _ w3).alloc (Nat.le_refl _) _).alloc (by simp) _).trans (hb.mono (by simp; omega)))
  clear hq hb
  go_wp2_with fail
  refine (mean_any _ _ 1 1 _ _ (fun _ => a3.tmod 400) (fun _ => 3) _ ?g6 ?g7 (by omega) (by omega)).mono ?_
  case g6 => exact Ri.cell1 (by simp [go_sem]) (by simp [go_sem])
  case g7 => exact Ri.cell1 (by simp [go_sem]) (by simp [go_sem])
  rintro e w5 hq
  obtain ⟨A5, n5, c5, rfl, hb⟩ := code_of q3.out hq
  have B5 := Lib.hid ((((Below.refl _ w4).alloc (Nat.le_refl _) _).alloc (by simp) _).trans (hb.mono (by simp; omega)))
  clear hq hb
  go_wp2_with (go_at_call 16; refine (num_any _ _).mono ?_; rintro e w' ⟨rfl, rfl⟩)
  go_ret
  have p1 := B1.out
  have p2 := p1.trans (B2.out.mono p1.size)
  have p3 := p2.trans (B3.out.mono p2.size)
  have p4 := p3.trans (B4.out.mono p3.size)
  exact ⟨ret_bool (by first | rfl | (simp; omega)), p4.trans (B5.out.mono p4.size)⟩

set_option maxHeartbeats 1600000 in
theorem walk_WeightRanges_E21 (a0 : Int) (a1 : Int) (a2 : Int) (a3 : Int) (w : World) (hx : 0 ≤ a3.tmod 400 ∧ a3.tmod 400 ≤ 255) (hg : 0 ≤ a2.tmod 10 ∧ a2.tmod 10 ≤ 7) (hs : -128 ≤ a0.tmod 200 ∧ 127 < a0.tmod 200 ∧ a0.tmod 200 ≤ 191) (ho : -128 ≤ a1.tmod 200 ∧ a1.tmod 200 ≤ 127) :
    Calls Try.prog 7 #[.int .i64 a0, .int .i64 a1, .int .i64 a2, .int .i64 a3] w fun e w' => e = .returned (.bool true) ∧ Below w.heap.size w w' := by
  have b0 := tmod_bd a0 200 (by omega)
  have b1 := tmod_bd a1 200 (by omega)
  have b2 := tmod_bd a2 10 (by omega)
  have b3 := tmod_bd a3 400 (by omega)
  have q1 := Lib.hid (c_no ((one1 (a0.tmod 200) (a1.tmod 200) (a2.tmod 10) (a3.tmod 400)).trans (decide_eq_false (by omega))))
  have q2 := Lib.hid (c_yes ((two1 (a0.tmod 200) (a2.tmod 10) (a3.tmod 400)).trans (decide_eq_true (by omega))))
  have q3 := Lib.hid (c_yes ((mean1 (a3.tmod 400)).trans (decide_eq_true (by omega))))
  go_enter Try.func7, Try.ntmps7
  go_wp2_with fail
  refine (awake_any _).mono ?_
  rintro e w1 ⟨rfl, hb1⟩
  have B1 := Lib.hid hb1
  clear hb1
  go_wp2_with fail
  refine (one_any _ 1 _ (fun _ => a3.tmod 400) _ _ _ _ ?g1 (by omega)).mono ?_
  case g1 => exact Ri.cell1 (by simp [go_sem]) (by simp [go_sem])
  rintro e w2 hq
  obtain ⟨A2, n2, c2, rfl, hb⟩ := code_of q1.out hq
  have B2 := Lib.hid (((Below.refl _ w1).alloc (Nat.le_refl _) _).trans (hb.mono (by simp)))
  clear hq hb
  go_wp2_with fail
  refine (two_any _ _ 1 1 _ _ (fun _ => a3.tmod 400) (fun _ => 1) _ _ _ _ _ ?g2 ?g3 (by omega) (by omega)).mono ?_
  case g2 => exact Ri.cell1 (by simp [go_sem]) (by simp [go_sem])
  case g3 => exact Ri.cell1 (by simp [go_sem]) (by simp [go_sem])
  rintro e w3 hq
  obtain ⟨A3, n3, c3, rfl, hb⟩ := code_of q2.out hq
  have B3 := Lib.hid ((((Below.refl _ w2).alloc (Nat.le_refl _) _).alloc (by simp) _).trans (hb.mono (by simp; omega)))
  clear hq hb
  go_wp2_with fail
  refine (two_any _ _ 1 2 _ _ (fun _ => 1) (fun k => if k = 0 then 1 else 2) _ _ _ _ _ ?g4 ?g5 (by omega) (by omega)).mono ?_
  case g4 => exact Ri.cell1 (by simp [go_sem]) (by simp [go_sem])
  case g5 => exact Ri.cell2 (by simp [go_sem]) (by simp [go_sem]) (by simp [go_sem])
  rintro e w4 hq
  obtain ⟨A4, n4, c4, rfl, hb⟩ := code_of (k := 1300) rfl hq
  have B4 := Lib.hid ((((Below.refl _ w3).alloc (Nat.le_refl _) _).alloc (by simp) _).trans (hb.mono (by simp; omega)))
  clear hq hb
  go_wp2_with fail
  refine (mean_any _ _ 1 1 _ _ (fun _ => a3.tmod 400) (fun _ => 3) _ ?g6 ?g7 (by omega) (by omega)).mono ?_
  case g6 => exact Ri.cell1 (by simp [go_sem]) (by simp [go_sem])
  case g7 => exact Ri.cell1 (by simp [go_sem]) (by simp [go_sem])
  rintro e w5 hq
  obtain ⟨A5, n5, c5, rfl, hb⟩ := code_of q3.out hq
  have B5 := Lib.hid ((((Below.refl _ w4).alloc (Nat.le_refl _) _).alloc (by simp) _).trans (hb.mono (by simp; omega)))
  clear hq hb
  go_wp2_with (go_at_call 16; refine (num_any _ _).mono ?_; rintro e w' ⟨rfl, rfl⟩)
  go_ret
  have p1 := B1.out
  have p2 := p1.trans (B2.out.mono p1.size)
  have p3 := p2.trans (B3.out.mono p2.size)
  have p4 := p3.trans (B4.out.mono p3.size)
  exact ⟨ret_bool (by first | rfl | (simp; omega)), p4.trans (B5.out.mono p4.size)⟩

set_option maxHeartbeats 1600000 in
theorem walk_WeightRanges_E22 (a0 : Int) (a1 : Int) (a2 : Int) (a3 : Int) (w : World) (hx : 0 ≤ a3.tmod 400 ∧ a3.tmod 400 ≤ 255) (hg : 0 ≤ a2.tmod 10 ∧ a2.tmod 10 ≤ 7) (hs : -128 ≤ a0.tmod 200 ∧ 127 < a0.tmod 200 ∧ a0.tmod 200 ≤ 191) (ho : -128 ≤ a1.tmod 200 ∧ 127 < a1.tmod 200) :
    Calls Try.prog 7 #[.int .i64 a0, .int .i64 a1, .int .i64 a2, .int .i64 a3] w fun e w' => e = .returned (.bool true) ∧ Below w.heap.size w w' := by
  have b0 := tmod_bd a0 200 (by omega)
  have b1 := tmod_bd a1 200 (by omega)
  have b2 := tmod_bd a2 10 (by omega)
  have b3 := tmod_bd a3 400 (by omega)
  have q1 := Lib.hid (c_no ((one1 (a0.tmod 200) (a1.tmod 200) (a2.tmod 10) (a3.tmod 400)).trans (decide_eq_false (by omega))))
  have q2 := Lib.hid (c_yes ((two1 (a0.tmod 200) (a2.tmod 10) (a3.tmod 400)).trans (decide_eq_true (by omega))))
  have q3 := Lib.hid (c_yes ((mean1 (a3.tmod 400)).trans (decide_eq_true (by omega))))
  go_enter Try.func7, Try.ntmps7
  go_wp2_with fail
  refine (awake_any _).mono ?_
  rintro e w1 ⟨rfl, hb1⟩
  have B1 := Lib.hid hb1
  clear hb1
  go_wp2_with fail
  refine (one_any _ 1 _ (fun _ => a3.tmod 400) _ _ _ _ ?g1 (by omega)).mono ?_
  case g1 => exact Ri.cell1 (by simp [go_sem]) (by simp [go_sem])
  rintro e w2 hq
  obtain ⟨A2, n2, c2, rfl, hb⟩ := code_of q1.out hq
  have B2 := Lib.hid (((Below.refl _ w1).alloc (Nat.le_refl _) _).trans (hb.mono (by simp)))
  clear hq hb
  go_wp2_with fail
  refine (two_any _ _ 1 1 _ _ (fun _ => a3.tmod 400) (fun _ => 1) _ _ _ _ _ ?g2 ?g3 (by omega) (by omega)).mono ?_
  case g2 => exact Ri.cell1 (by simp [go_sem]) (by simp [go_sem])
  case g3 => exact Ri.cell1 (by simp [go_sem]) (by simp [go_sem])
  rintro e w3 hq
  obtain ⟨A3, n3, c3, rfl, hb⟩ := code_of q2.out hq
  have B3 := Lib.hid ((((Below.refl _ w2).alloc (Nat.le_refl _) _).alloc (by simp) _).trans (hb.mono (by simp; omega)))
  clear hq hb
  go_wp2_with fail
  refine (two_any _ _ 1 2 _ _ (fun _ => 1) (fun k => if k = 0 then 1 else 2) _ _ _ _ _ ?g4 ?g5 (by omega) (by omega)).mono ?_
  case g4 => exact Ri.cell1 (by simp [go_sem]) (by simp [go_sem])
  case g5 => exact Ri.cell2 (by simp [go_sem]) (by simp [go_sem]) (by simp [go_sem])
  rintro e w4 hq
  obtain ⟨A4, n4, c4, rfl, hb⟩ := code_of (k := 1300) rfl hq
  have B4 := Lib.hid ((((Below.refl _ w3).alloc (Nat.le_refl _) _).alloc (by simp) _).trans (hb.mono (by simp; omega)))
  clear hq hb
  go_wp2_with fail
  refine (mean_any _ _ 1 1 _ _ (fun _ => a3.tmod 400) (fun _ => 3) _ ?g6 ?g7 (by omega) (by omega)).mono ?_
  case g6 => exact Ri.cell1 (by simp [go_sem]) (by simp [go_sem])
  case g7 => exact Ri.cell1 (by simp [go_sem]) (by simp [go_sem])
  rintro e w5 hq
  obtain ⟨A5, n5, c5, rfl, hb⟩ := code_of q3.out hq
  have B5 := Lib.hid ((((Below.refl _ w4).alloc (Nat.le_refl _) _).alloc (by simp) _).trans (hb.mono (by simp; omega)))
  clear hq hb
  go_wp2_with (go_at_call 16; refine (num_any _ _).mono ?_; rintro e w' ⟨rfl, rfl⟩)
  go_ret
  have p1 := B1.out
  have p2 := p1.trans (B2.out.mono p1.size)
  have p3 := p2.trans (B3.out.mono p2.size)
  have p4 := p3.trans (B4.out.mono p3.size)
  exact ⟨ret_bool (by first | rfl | (simp; omega)), p4.trans (B5.out.mono p4.size)⟩

set_option maxHeartbeats 1600000 in
theorem walk_WeightRanges_E30 (a0 : Int) (a1 : Int) (a2 : Int) (a3 : Int) (w : World) (hx : 0 ≤ a3.tmod 400 ∧ a3.tmod 400 ≤ 255) (hg : 0 ≤ a2.tmod 10 ∧ a2.tmod 10 ≤ 7) (hs : -128 ≤ a0.tmod 200 ∧ 127 < a0.tmod 200 ∧ 191 < a0.tmod 200) (ho : a1.tmod 200 < -128) :
    Calls Try.prog 7 #[.int .i64 a0, .int .i64 a1, .int .i64 a2, .int .i64 a3] w fun e w' => e = .returned (.bool true) ∧ Below w.heap.size w w' := by
  have b0 := tmod_bd a0 200 (by omega)
  have b1 := tmod_bd a1 200 (by omega)
  have b2 := tmod_bd a2 10 (by omega)
  have b3 := tmod_bd a3 400 (by omega)
  have q1 := Lib.hid (c_no ((one1 (a0.tmod 200) (a1.tmod 200) (a2.tmod 10) (a3.tmod 400)).trans (decide_eq_false (by omega))))
  have q2 := Lib.hid (c_no ((two1 (a0.tmod 200) (a2.tmod 10) (a3.tmod 400)).trans (decide_eq_false (by omega))))
  have q3 := Lib.hid (c_yes ((mean1 (a3.tmod 400)).trans (decide_eq_true (by omega))))
  go_enter Try.func7, Try.ntmps7
  go_wp2_with fail
  refine (awake_any _).mono ?_
  rintro e w1 ⟨rfl, hb1⟩
  have B1 := Lib.hid hb1
  clear hb1
  go_wp2_with fail
  refine (one_any _ 1 _ (fun _ => a3.tmod 400) _ _ _ _ ?g1 (by omega)).mono ?_
  case g1 => exact Ri.cell1 (by simp [go_sem]) (by simp [go_sem])
  rintro e w2 hq
  obtain ⟨A2, n2, c2, rfl, hb⟩ := code_of q1.out hq
  have B2 := Lib.hid (((Below.refl _ w1).alloc (Nat.le_refl _) _).trans (hb.mono (by simp)))
  clear hq hb
  go_wp2_with fail
  refine (two_any _ _ 1 1 _ _ (fun _ => a3.tmod 400) (fun _ => 1) _ _ _ _ _ ?g2 ?g3 (by omega) (by omega)).mono ?_
  case g2 => exact Ri.cell1 (by simp [go_sem]) (by simp [go_sem])
  case g3 => exact Ri.cell1 (by simp [go_sem]) (by simp [go_sem])
  rintro e w3 hq
  obtain ⟨A3, n3, c3, rfl, hb⟩ := code_of q2.out hq
  have B3 := Lib.hid ((((Below.refl _ w2).alloc (Nat.le_refl _) _).alloc (by simp) _).trans (hb.mono (by simp; omega)))
  clear hq hb
  go_wp2_with fail
  refine (two_any _ _ 1 2 _ _ (fun _ => 1) (fun k => if k = 0 then 1 else 2) _ _ _ _ _ ?g4 ?g5 (by omega) (by omega)).mono ?_
  case g4 => exact Ri.cell1 (by simp [go_sem]) (by simp [go_sem])
  case g5 => exact Ri.cell2 (by simp [go_sem]) (by simp [go_sem]) (by simp [go_sem])
  rintro e w4 hq
  obtain ⟨A4, n4, c4, rfl, hb⟩ := code_of (k := 1300) rfl hq
  have B4 := Lib.hid ((((Below.refl _ w3).alloc (Nat.le_refl _) _).alloc (by simp) _).trans (hb.mono (by simp; omega)))
  clear hq hb
  go_wp2_with fail
  refine (mean_any _ _ 1 1 _ _ (fun _ => a3.tmod 400) (fun _ => 3) _ ?g6 ?g7 (by omega) (by omega)).mono ?_
  case g6 => exact Ri.cell1 (by simp [go_sem]) (by simp [go_sem])
  case g7 => exact Ri.cell1 (by simp [go_sem]) (by simp [go_sem])
  rintro e w5 hq
  obtain ⟨A5, n5, c5, rfl, hb⟩ := code_of q3.out hq
  have B5 := Lib.hid ((((Below.refl _ w4).alloc (Nat.le_refl _) _).alloc (by simp) _).trans (hb.mono (by simp; omega)))
  clear hq hb
  go_wp2_with (go_at_call 16; refine (num_any _ _).mono ?_; rintro e w' ⟨rfl, rfl⟩)
  go_ret
  have p1 := B1.out
  have p2 := p1.trans (B2.out.mono p1.size)
  have p3 := p2.trans (B3.out.mono p2.size)
  have p4 := p3.trans (B4.out.mono p3.size)
  exact ⟨ret_bool (by first | rfl | (simp; omega)), p4.trans (B5.out.mono p4.size)⟩

set_option maxHeartbeats 1600000 in
theorem walk_WeightRanges_E31 (a0 : Int) (a1 : Int) (a2 : Int) (a3 : Int) (w : World) (hx : 0 ≤ a3.tmod 400 ∧ a3.tmod 400 ≤ 255) (hg : 0 ≤ a2.tmod 10 ∧ a2.tmod 10 ≤ 7) (hs : -128 ≤ a0.tmod 200 ∧ 127 < a0.tmod 200 ∧ 191 < a0.tmod 200) (ho : -128 ≤ a1.tmod 200 ∧ a1.tmod 200 ≤ 127) :
    Calls Try.prog 7 #[.int .i64 a0, .int .i64 a1, .int .i64 a2, .int .i64 a3] w fun e w' => e = .returned (.bool true) ∧ Below w.heap.size w w' := by
  have b0 := tmod_bd a0 200 (by omega)
  have b1 := tmod_bd a1 200 (by omega)
  have b2 := tmod_bd a2 10 (by omega)
  have b3 := tmod_bd a3 400 (by omega)
  have q1 := Lib.hid (c_no ((one1 (a0.tmod 200) (a1.tmod 200) (a2.tmod 10) (a3.tmod 400)).trans (decide_eq_false (by omega))))
  have q2 := Lib.hid (c_no ((two1 (a0.tmod 200) (a2.tmod 10) (a3.tmod 400)).trans (decide_eq_false (by omega))))
  have q3 := Lib.hid (c_yes ((mean1 (a3.tmod 400)).trans (decide_eq_true (by omega))))
  go_enter Try.func7, Try.ntmps7
  go_wp2_with fail
  refine (awake_any _).mono ?_
  rintro e w1 ⟨rfl, hb1⟩
  have B1 := Lib.hid hb1
  clear hb1
  go_wp2_with fail
  refine (one_any _ 1 _ (fun _ => a3.tmod 400) _ _ _ _ ?g1 (by omega)).mono ?_
  case g1 => exact Ri.cell1 (by simp [go_sem]) (by simp [go_sem])
  rintro e w2 hq
  obtain ⟨A2, n2, c2, rfl, hb⟩ := code_of q1.out hq
  have B2 := Lib.hid (((Below.refl _ w1).alloc (Nat.le_refl _) _).trans (hb.mono (by simp)))
  clear hq hb
  go_wp2_with fail
  refine (two_any _ _ 1 1 _ _ (fun _ => a3.tmod 400) (fun _ => 1) _ _ _ _ _ ?g2 ?g3 (by omega) (by omega)).mono ?_
  case g2 => exact Ri.cell1 (by simp [go_sem]) (by simp [go_sem])
  case g3 => exact Ri.cell1 (by simp [go_sem]) (by simp [go_sem])
  rintro e w3 hq
  obtain ⟨A3, n3, c3, rfl, hb⟩ := code_of q2.out hq
  have B3 := Lib.hid ((((Below.refl _ w2).alloc (Nat.le_refl _) _).alloc (by simp) _).trans (hb.mono (by simp; omega)))
  clear hq hb
  go_wp2_with fail
  refine (two_any _ _ 1 2 _ _ (fun _ => 1) (fun k => if k = 0 then 1 else 2) _ _ _ _ _ ?g4 ?g5 (by omega) (by omega)).mono ?_
  case g4 => exact Ri.cell1 (by simp [go_sem]) (by simp [go_sem])
  case g5 => exact Ri.cell2 (by simp [go_sem]) (by simp [go_sem]) (by simp [go_sem])
  rintro e w4 hq
  obtain ⟨A4, n4, c4, rfl, hb⟩ := code_of (k := 1300) rfl hq
  have B4 := Lib.hid ((((Below.refl _ w3).alloc (Nat.le_refl _) _).alloc (by simp) _).trans (hb.mono (by simp; omega)))
  clear hq hb
  go_wp2_with fail
  refine (mean_any _ _ 1 1 _ _ (fun _ => a3.tmod 400) (fun _ => 3) _ ?g6 ?g7 (by omega) (by omega)).mono ?_
  case g6 => exact Ri.cell1 (by simp [go_sem]) (by simp [go_sem])
  case g7 => exact Ri.cell1 (by simp [go_sem]) (by simp [go_sem])
  rintro e w5 hq
  obtain ⟨A5, n5, c5, rfl, hb⟩ := code_of q3.out hq
  have B5 := Lib.hid ((((Below.refl _ w4).alloc (Nat.le_refl _) _).alloc (by simp) _).trans (hb.mono (by simp; omega)))
  clear hq hb
  go_wp2_with (go_at_call 16; refine (num_any _ _).mono ?_; rintro e w' ⟨rfl, rfl⟩)
  go_ret
  have p1 := B1.out
  have p2 := p1.trans (B2.out.mono p1.size)
  have p3 := p2.trans (B3.out.mono p2.size)
  have p4 := p3.trans (B4.out.mono p3.size)
  exact ⟨ret_bool (by first | rfl | (simp; omega)), p4.trans (B5.out.mono p4.size)⟩

set_option maxHeartbeats 1600000 in
theorem walk_WeightRanges_E32 (a0 : Int) (a1 : Int) (a2 : Int) (a3 : Int) (w : World) (hx : 0 ≤ a3.tmod 400 ∧ a3.tmod 400 ≤ 255) (hg : 0 ≤ a2.tmod 10 ∧ a2.tmod 10 ≤ 7) (hs : -128 ≤ a0.tmod 200 ∧ 127 < a0.tmod 200 ∧ 191 < a0.tmod 200) (ho : -128 ≤ a1.tmod 200 ∧ 127 < a1.tmod 200) :
    Calls Try.prog 7 #[.int .i64 a0, .int .i64 a1, .int .i64 a2, .int .i64 a3] w fun e w' => e = .returned (.bool true) ∧ Below w.heap.size w w' := by
  have b0 := tmod_bd a0 200 (by omega)
  have b1 := tmod_bd a1 200 (by omega)
  have b2 := tmod_bd a2 10 (by omega)
  have b3 := tmod_bd a3 400 (by omega)
  have q1 := Lib.hid (c_no ((one1 (a0.tmod 200) (a1.tmod 200) (a2.tmod 10) (a3.tmod 400)).trans (decide_eq_false (by omega))))
  have q2 := Lib.hid (c_no ((two1 (a0.tmod 200) (a2.tmod 10) (a3.tmod 400)).trans (decide_eq_false (by omega))))
  have q3 := Lib.hid (c_yes ((mean1 (a3.tmod 400)).trans (decide_eq_true (by omega))))
  go_enter Try.func7, Try.ntmps7
  go_wp2_with fail
  refine (awake_any _).mono ?_
  rintro e w1 ⟨rfl, hb1⟩
  have B1 := Lib.hid hb1
  clear hb1
  go_wp2_with fail
  refine (one_any _ 1 _ (fun _ => a3.tmod 400) _ _ _ _ ?g1 (by omega)).mono ?_
  case g1 => exact Ri.cell1 (by simp [go_sem]) (by simp [go_sem])
  rintro e w2 hq
  obtain ⟨A2, n2, c2, rfl, hb⟩ := code_of q1.out hq
  have B2 := Lib.hid (((Below.refl _ w1).alloc (Nat.le_refl _) _).trans (hb.mono (by simp)))
  clear hq hb
  go_wp2_with fail
  refine (two_any _ _ 1 1 _ _ (fun _ => a3.tmod 400) (fun _ => 1) _ _ _ _ _ ?g2 ?g3 (by omega) (by omega)).mono ?_
  case g2 => exact Ri.cell1 (by simp [go_sem]) (by simp [go_sem])
  case g3 => exact Ri.cell1 (by simp [go_sem]) (by simp [go_sem])
  rintro e w3 hq
  obtain ⟨A3, n3, c3, rfl, hb⟩ := code_of q2.out hq
  have B3 := Lib.hid ((((Below.refl _ w2).alloc (Nat.le_refl _) _).alloc (by simp) _).trans (hb.mono (by simp; omega)))
  clear hq hb
  go_wp2_with fail
  refine (two_any _ _ 1 2 _ _ (fun _ => 1) (fun k => if k = 0 then 1 else 2) _ _ _ _ _ ?g4 ?g5 (by omega) (by omega)).mono ?_
  case g4 => exact Ri.cell1 (by simp [go_sem]) (by simp [go_sem])
  case g5 => exact Ri.cell2 (by simp [go_sem]) (by simp [go_sem]) (by simp [go_sem])
  rintro e w4 hq
  obtain ⟨A4, n4, c4, rfl, hb⟩ := code_of (k := 1300) rfl hq
  have B4 := Lib.hid ((((Below.refl _ w3).alloc (Nat.le_refl _) _).alloc (by simp) _).trans (hb.mono (by simp; omega)))
  clear hq hb
  go_wp2_with fail
  refine (mean_any _ _ 1 1 _ _ (fun _ => a3.tmod 400) (fun _ => 3) _ ?g6 ?g7 (by omega) (by omega)).mono ?_
  case g6 => exact Ri.cell1 (by simp [go_sem]) (by simp [go_sem])
  case g7 => exact Ri.cell1 (by simp [go_sem]) (by simp [go_sem])
  rintro e w5 hq
  obtain ⟨A5, n5, c5, rfl, hb⟩ := code_of q3.out hq
  have B5 := Lib.hid ((((Below.refl _ w4).alloc (Nat.le_refl _) _).alloc (by simp) _).trans (hb.mono (by simp; omega)))
  clear hq hb
  go_wp2_with (go_at_call 16; refine (num_any _ _).mono ?_; rintro e w' ⟨rfl, rfl⟩)
  go_ret
  have p1 := B1.out
  have p2 := p1.trans (B2.out.mono p1.size)
  have p3 := p2.trans (B3.out.mono p2.size)
  have p4 := p3.trans (B4.out.mono p3.size)
  exact ⟨ret_bool (by first | rfl | (simp; omega)), p4.trans (B5.out.mono p4.size)⟩

theorem walk_WeightRanges (a0 : Int) (a1 : Int) (a2 : Int) (a3 : Int) (w : World) (w_a0 : (Lit.int .i64 a0).wf = true) (w_a1 : (Lit.int .i64 a1).wf = true) (w_a2 : (Lit.int .i64 a2).wf = true) (w_a3 : (Lit.int .i64 a3).wf = true) :
    Calls Try.prog 7 #[.int .i64 a0, .int .i64 a1, .int .i64 a2, .int .i64 a3] w fun e w' => e = .returned (.bool true) ∧ Below w.heap.size w w' := by
  rcases (by omega : a3.tmod 400 < 0 ∨ (0 ≤ a3.tmod 400 ∧ 255 < a3.tmod 400) ∨ (0 ≤ a3.tmod 400 ∧ a3.tmod 400 ≤ 255)) with hx | hx | hx
  · exact walk_WeightRanges_A a0 a1 a2 a3 w hx
  · exact walk_WeightRanges_B a0 a1 a2 a3 w hx
  · rcases (by omega : a2.tmod 10 < 0 ∨ (0 ≤ a2.tmod 10 ∧ 7 < a2.tmod 10) ∨ (0 ≤ a2.tmod 10 ∧ a2.tmod 10 ≤ 7)) with hg | hg | hg
    · exact walk_WeightRanges_C a0 a1 a2 a3 w hx hg
    · exact walk_WeightRanges_D a0 a1 a2 a3 w hx hg
    · rcases (by omega : a0.tmod 200 < -128 ∨ (-128 ≤ a0.tmod 200 ∧ a0.tmod 200 ≤ 127) ∨ (-128 ≤ a0.tmod 200 ∧ 127 < a0.tmod 200 ∧ a0.tmod 200 ≤ 191) ∨ (-128 ≤ a0.tmod 200 ∧ 127 < a0.tmod 200 ∧ 191 < a0.tmod 200)) with hs | hs | hs | hs
      · rcases (by omega : a1.tmod 200 < -128 ∨ (-128 ≤ a1.tmod 200 ∧ a1.tmod 200 ≤ 127) ∨ (-128 ≤ a1.tmod 200 ∧ 127 < a1.tmod 200)) with ho | ho | ho
        · exact walk_WeightRanges_E00 a0 a1 a2 a3 w hx hg hs ho
        · exact walk_WeightRanges_E01 a0 a1 a2 a3 w hx hg hs ho
        · exact walk_WeightRanges_E02 a0 a1 a2 a3 w hx hg hs ho
      · rcases (by omega : a1.tmod 200 < -128 ∨ (-128 ≤ a1.tmod 200 ∧ a1.tmod 200 ≤ 127) ∨ (-128 ≤ a1.tmod 200 ∧ 127 < a1.tmod 200)) with ho | ho | ho
        · exact walk_WeightRanges_E10 a0 a1 a2 a3 w hx hg hs ho
        · exact walk_WeightRanges_E11 a0 a1 a2 a3 w hx hg hs ho
        · exact walk_WeightRanges_E12 a0 a1 a2 a3 w hx hg hs ho
      · rcases (by omega : a1.tmod 200 < -128 ∨ (-128 ≤ a1.tmod 200 ∧ a1.tmod 200 ≤ 127) ∨ (-128 ≤ a1.tmod 200 ∧ 127 < a1.tmod 200)) with ho | ho | ho
        · exact walk_WeightRanges_E20 a0 a1 a2 a3 w hx hg hs ho
        · exact walk_WeightRanges_E21 a0 a1 a2 a3 w hx hg hs ho
        · exact walk_WeightRanges_E22 a0 a1 a2 a3 w hx hg hs ho
      · rcases (by omega : a1.tmod 200 < -128 ∨ (-128 ≤ a1.tmod 200 ∧ a1.tmod 200 ≤ 127) ∨ (-128 ≤ a1.tmod 200 ∧ 127 < a1.tmod 200)) with ho | ho | ho
        · exact walk_WeightRanges_E30 a0 a1 a2 a3 w hx hg hs ho
        · exact walk_WeightRanges_E31 a0 a1 a2 a3 w hx hg hs ho
        · exact walk_WeightRanges_E32 a0 a1 a2 a3 w hx hg hs ho

end Go.Proofs.Ytadinglpkphpgaa
