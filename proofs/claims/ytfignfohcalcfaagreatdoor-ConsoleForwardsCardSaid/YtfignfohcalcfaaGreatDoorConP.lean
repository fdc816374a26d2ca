/- poc.Zero. Printed by gen-conp.py. -/
import Derived.Test.YtfignfohcalcfaaGreatDoorConS
namespace Go.Proofs.YtfignfohcalcfaaGreatDoor
open Go.RowKit
set_option linter.unusedVariables false
set_option linter.unusedSimpArgs false
attribute [local go_sem] ite_max ite_min

def pocV (r : Option (Int × Int)) : Value := match r with
  | none => .tuple #[.int .i64 0, .int .i64 0, .int .i64 1701]
  | some x => .tuple #[.int .i64 x.1, .int .i64 x.2, .int .i64 0]
theorem poc_out (msb lsb now bits : Int) (w : World) (h : bits < 4 ∨ 8 < bits) :
    Calls Tryz.prog 79 #[.int .i64 msb, .int .i64 lsb, .int .i64 now, .int .i64 bits] w fun e w' => e = .returned (pocV (pocF msb lsb now bits)) ∧ w = w' := by
  have e : pocF msb lsb now bits = none := by unfold pocF; rw [if_pos h]
  rw [e]
  by_cases h1 : bits < 4
  · clear h
    go_enter Tryz.func79, Tryz.ntmps79
    go_wp2_with fail
    go_ret3
    exact ⟨rfl, rfl⟩
  · have h2 : 8 < bits := by omega
    clear h
    go_enter Tryz.func79, Tryz.ntmps79
    go_wp2_with fail
    go_ret3
    exact ⟨rfl, rfl⟩
set_option maxRecDepth 100000 in
set_option maxHeartbeats 6400000 in
theorem poc_4 (msb lsb now : Int) (w : World) :
    Calls Tryz.prog 79 #[.int .i64 msb, .int .i64 lsb, .int .i64 now, .int .i64 4] w fun e w' => e = .returned (pocV (pocF msb lsb now 4)) ∧ w = w' := by
  have e : pocF msb lsb now 4 = if lsb < 0 ∨ 16 ≤ lsb ∨ now < 0 ∨ 16 ≤ now ∨ msb.tmod 16 ≠ 0 ∨ 268435456 < msb ∨ msb < -268435456 then none else some (if 8 ≤ lsb - now then msb + 16 else if 8 < now - lsb then msb - 16 else msb, (if 8 ≤ lsb - now then msb + 16 else if 8 < now - lsb then msb - 16 else msb) + now) := rfl
  rw [e]
  clear e
  by_cases h1 : lsb < 0
  · rw [if_pos (by omega)]
    go_enter Tryz.func79, Tryz.ntmps79
    go_wp2_with fail
    all_goals (go_ret3; exact ⟨rfl, rfl⟩)
  by_cases h2 : 16 ≤ lsb
  · rw [if_pos (by omega)]
    go_enter Tryz.func79, Tryz.ntmps79
    go_wp2_with fail
    all_goals (go_ret3; exact ⟨rfl, rfl⟩)
  by_cases h3 : now < 0
  · rw [if_pos (by omega)]
    go_enter Tryz.func79, Tryz.ntmps79
    go_wp2_with fail
    all_goals (go_ret3; exact ⟨rfl, rfl⟩)
  by_cases h4 : 16 ≤ now
  · rw [if_pos (by omega)]
    go_enter Tryz.func79, Tryz.ntmps79
    go_wp2_with fail
    all_goals (go_ret3; exact ⟨rfl, rfl⟩)
  by_cases h5 : msb.tmod 16 ≠ 0
  · rw [if_pos (Or.inr (Or.inr (Or.inr (Or.inr (Or.inl h5)))))]
    have hq : (msb.tmod 16 != 0) = true := by simpa using h5
    go_enter Tryz.func79, Tryz.ntmps79
    go_wp2_with fail
    all_goals (go_ret3; exact ⟨rfl, rfl⟩)
  have hz : msb.tmod 16 = 0 := Classical.byContradiction h5
  have hq : (msb.tmod 16 != 0) = false := by simp [hz]
  by_cases h6 : 268435456 < msb
  · rw [if_pos (by omega)]
    clear hz
    go_enter Tryz.func79, Tryz.ntmps79
    go_wp2_with fail
    all_goals (go_ret3; exact ⟨rfl, rfl⟩)
  by_cases h7 : msb < -268435456
  · rw [if_pos (by omega)]
    clear hz
    go_enter Tryz.func79, Tryz.ntmps79
    go_wp2_with fail
    all_goals (go_ret3; exact ⟨rfl, rfl⟩)
  rw [if_neg (by omega)]
  clear hz h5
  by_cases g1 : 8 ≤ lsb - now
  · simp only [if_pos g1]
    go_enter Tryz.func79, Tryz.ntmps79
    go_wp2_with fail
    all_goals (go_ret3; exact ⟨rfl, rfl⟩)
  by_cases g2 : 8 < now - lsb
  · simp only [if_neg g1, if_pos g2]
    go_enter Tryz.func79, Tryz.ntmps79
    go_wp2_with fail
    all_goals (go_ret3; exact ⟨rfl, rfl⟩)
  simp only [if_neg g1, if_neg g2]
  go_enter Tryz.func79, Tryz.ntmps79
  go_wp2_with fail
  all_goals (go_ret3; exact ⟨rfl, rfl⟩)
set_option maxRecDepth 100000 in
set_option maxHeartbeats 6400000 in
theorem poc_5 (msb lsb now : Int) (w : World) :
    Calls Tryz.prog 79 #[.int .i64 msb, .int .i64 lsb, .int .i64 now, .int .i64 5] w fun e w' => e = .returned (pocV (pocF msb lsb now 5)) ∧ w = w' := by
  have e : pocF msb lsb now 5 = if lsb < 0 ∨ 32 ≤ lsb ∨ now < 0 ∨ 32 ≤ now ∨ msb.tmod 32 ≠ 0 ∨ 268435456 < msb ∨ msb < -268435456 then none else some (if 16 ≤ lsb - now then msb + 32 else if 16 < now - lsb then msb - 32 else msb, (if 16 ≤ lsb - now then msb + 32 else if 16 < now - lsb then msb - 32 else msb) + now) := rfl
  rw [e]
  clear e
  by_cases h1 : lsb < 0
  · rw [if_pos (by omega)]
    go_enter Tryz.func79, Tryz.ntmps79
    go_wp2_with fail
    all_goals (go_ret3; exact ⟨rfl, rfl⟩)
  by_cases h2 : 32 ≤ lsb
  · rw [if_pos (by omega)]
    go_enter Tryz.func79, Tryz.ntmps79
    go_wp2_with fail
    all_goals (go_ret3; exact ⟨rfl, rfl⟩)
  by_cases h3 : now < 0
  · rw [if_pos (by omega)]
    go_enter Tryz.func79, Tryz.ntmps79
    go_wp2_with fail
    all_goals (go_ret3; exact ⟨rfl, rfl⟩)
  by_cases h4 : 32 ≤ now
  · rw [if_pos (by omega)]
    go_enter Tryz.func79, Tryz.ntmps79
    go_wp2_with fail
    all_goals (go_ret3; exact ⟨rfl, rfl⟩)
  by_cases h5 : msb.tmod 32 ≠ 0
  · rw [if_pos (Or.inr (Or.inr (Or.inr (Or.inr (Or.inl h5)))))]
    have hq : (msb.tmod 32 != 0) = true := by simpa using h5
    go_enter Tryz.func79, Tryz.ntmps79
    go_wp2_with fail
    all_goals (go_ret3; exact ⟨rfl, rfl⟩)
  have hz : msb.tmod 32 = 0 := Classical.byContradiction h5
  have hq : (msb.tmod 32 != 0) = false := by simp [hz]
  by_cases h6 : 268435456 < msb
  · rw [if_pos (by omega)]
    clear hz
    go_enter Tryz.func79, Tryz.ntmps79
    go_wp2_with fail
    all_goals (go_ret3; exact ⟨rfl, rfl⟩)
  by_cases h7 : msb < -268435456
  · rw [if_pos (by omega)]
    clear hz
    go_enter Tryz.func79, Tryz.ntmps79
    go_wp2_with fail
    all_goals (go_ret3; exact ⟨rfl, rfl⟩)
  rw [if_neg (by omega)]
  clear hz h5
  by_cases g1 : 16 ≤ lsb - now
  · simp only [if_pos g1]
    go_enter Tryz.func79, Tryz.ntmps79
    go_wp2_with fail
    all_goals (go_ret3; exact ⟨rfl, rfl⟩)
  by_cases g2 : 16 < now - lsb
  · simp only [if_neg g1, if_pos g2]
    go_enter Tryz.func79, Tryz.ntmps79
    go_wp2_with fail
    all_goals (go_ret3; exact ⟨rfl, rfl⟩)
  simp only [if_neg g1, if_neg g2]
  go_enter Tryz.func79, Tryz.ntmps79
  go_wp2_with fail
  all_goals (go_ret3; exact ⟨rfl, rfl⟩)
set_option maxRecDepth 100000 in
set_option maxHeartbeats 6400000 in
theorem poc_6 (msb lsb now : Int) (w : World) :
    Calls Tryz.prog 79 #[.int .i64 msb, .int .i64 lsb, .int .i64 now, .int .i64 6] w fun e w' => e = .returned (pocV (pocF msb lsb now 6)) ∧ w = w' := by
  have e : pocF msb lsb now 6 = if lsb < 0 ∨ 64 ≤ lsb ∨ now < 0 ∨ 64 ≤ now ∨ msb.tmod 64 ≠ 0 ∨ 268435456 < msb ∨ msb < -268435456 then none else some (if 32 ≤ lsb - now then msb + 64 else if 32 < now - lsb then msb - 64 else msb, (if 32 ≤ lsb - now then msb + 64 else if 32 < now - lsb then msb - 64 else msb) + now) := rfl
  rw [e]
  clear e
  by_cases h1 : lsb < 0
  · rw [if_pos (by omega)]
    go_enter Tryz.func79, Tryz.ntmps79
    go_wp2_with fail
    all_goals (go_ret3; exact ⟨rfl, rfl⟩)
  by_cases h2 : 64 ≤ lsb
  · rw [if_pos (by omega)]
    go_enter Tryz.func79, Tryz.ntmps79
    go_wp2_with fail
    all_goals (go_ret3; exact ⟨rfl, rfl⟩)
  by_cases h3 : now < 0
  · rw [if_pos (by omega)]
    go_enter Tryz.func79, Tryz.ntmps79
    go_wp2_with fail
    all_goals (go_ret3; exact ⟨rfl, rfl⟩)
  by_cases h4 : 64 ≤ now
  · rw [if_pos (by omega)]
    go_enter Tryz.func79, Tryz.ntmps79
    go_wp2_with fail
    all_goals (go_ret3; exact ⟨rfl, rfl⟩)
  by_cases h5 : msb.tmod 64 ≠ 0
  · rw [if_pos (Or.inr (Or.inr (Or.inr (Or.inr (Or.inl h5)))))]
    have hq : (msb.tmod 64 != 0) = true := by simpa using h5
    go_enter Tryz.func79, Tryz.ntmps79
    go_wp2_with fail
    all_goals (go_ret3; exact ⟨rfl, rfl⟩)
  have hz : msb.tmod 64 = 0 := Classical.byContradiction h5
  have hq : (msb.tmod 64 != 0) = false := by simp [hz]
  by_cases h6 : 268435456 < msb
  · rw [if_pos (by omega)]
    clear hz
    go_enter Tryz.func79, Tryz.ntmps79
    go_wp2_with fail
    all_goals (go_ret3; exact ⟨rfl, rfl⟩)
  by_cases h7 : msb < -268435456
  · rw [if_pos (by omega)]
    clear hz
    go_enter Tryz.func79, Tryz.ntmps79
    go_wp2_with fail
    all_goals (go_ret3; exact ⟨rfl, rfl⟩)
  rw [if_neg (by omega)]
  clear hz h5
  by_cases g1 : 32 ≤ lsb - now
  · simp only [if_pos g1]
    go_enter Tryz.func79, Tryz.ntmps79
    go_wp2_with fail
    all_goals (go_ret3; exact ⟨rfl, rfl⟩)
  by_cases g2 : 32 < now - lsb
  · simp only [if_neg g1, if_pos g2]
    go_enter Tryz.func79, Tryz.ntmps79
    go_wp2_with fail
    all_goals (go_ret3; exact ⟨rfl, rfl⟩)
  simp only [if_neg g1, if_neg g2]
  go_enter Tryz.func79, Tryz.ntmps79
  go_wp2_with fail
  all_goals (go_ret3; exact ⟨rfl, rfl⟩)
set_option maxRecDepth 100000 in
set_option maxHeartbeats 6400000 in
theorem poc_7 (msb lsb now : Int) (w : World) :
    Calls Tryz.prog 79 #[.int .i64 msb, .int .i64 lsb, .int .i64 now, .int .i64 7] w fun e w' => e = .returned (pocV (pocF msb lsb now 7)) ∧ w = w' := by
  have e : pocF msb lsb now 7 = if lsb < 0 ∨ 128 ≤ lsb ∨ now < 0 ∨ 128 ≤ now ∨ msb.tmod 128 ≠ 0 ∨ 268435456 < msb ∨ msb < -268435456 then none else some (if 64 ≤ lsb - now then msb + 128 else if 64 < now - lsb then msb - 128 else msb, (if 64 ≤ lsb - now then msb + 128 else if 64 < now - lsb then msb - 128 else msb) + now) := rfl
  rw [e]
  clear e
  by_cases h1 : lsb < 0
  · rw [if_pos (by omega)]
    go_enter Tryz.func79, Tryz.ntmps79
    go_wp2_with fail
    all_goals (go_ret3; exact ⟨rfl, rfl⟩)
  by_cases h2 : 128 ≤ lsb
  · rw [if_pos (by omega)]
    go_enter Tryz.func79, Tryz.ntmps79
    go_wp2_with fail
    all_goals (go_ret3; exact ⟨rfl, rfl⟩)
  by_cases h3 : now < 0
  · rw [if_pos (by omega)]
    go_enter Tryz.func79, Tryz.ntmps79
    go_wp2_with fail
    all_goals (go_ret3; exact ⟨rfl, rfl⟩)
  by_cases h4 : 128 ≤ now
  · rw [if_pos (by omega)]
    go_enter Tryz.func79, Tryz.ntmps79
    go_wp2_with fail
    all_goals (go_ret3; exact ⟨rfl, rfl⟩)
  by_cases h5 : msb.tmod 128 ≠ 0
  · rw [if_pos (Or.inr (Or.inr (Or.inr (Or.inr (Or.inl h5)))))]
    have hq : (msb.tmod 128 != 0) = true := by simpa using h5
    go_enter Tryz.func79, Tryz.ntmps79
    go_wp2_with fail
    all_goals (go_ret3; exact ⟨rfl, rfl⟩)
  have hz : msb.tmod 128 = 0 := Classical.byContradiction h5
  have hq : (msb.tmod 128 != 0) = false := by simp [hz]
  by_cases h6 : 268435456 < msb
  · rw [if_pos (by omega)]
    clear hz
    go_enter Tryz.func79, Tryz.ntmps79
    go_wp2_with fail
    all_goals (go_ret3; exact ⟨rfl, rfl⟩)
  by_cases h7 : msb < -268435456
  · rw [if_pos (by omega)]
    clear hz
    go_enter Tryz.func79, Tryz.ntmps79
    go_wp2_with fail
    all_goals (go_ret3; exact ⟨rfl, rfl⟩)
  rw [if_neg (by omega)]
  clear hz h5
  by_cases g1 : 64 ≤ lsb - now
  · simp only [if_pos g1]
    go_enter Tryz.func79, Tryz.ntmps79
    go_wp2_with fail
    all_goals (go_ret3; exact ⟨rfl, rfl⟩)
  by_cases g2 : 64 < now - lsb
  · simp only [if_neg g1, if_pos g2]
    go_enter Tryz.func79, Tryz.ntmps79
    go_wp2_with fail
    all_goals (go_ret3; exact ⟨rfl, rfl⟩)
  simp only [if_neg g1, if_neg g2]
  go_enter Tryz.func79, Tryz.ntmps79
  go_wp2_with fail
  all_goals (go_ret3; exact ⟨rfl, rfl⟩)
set_option maxRecDepth 100000 in
set_option maxHeartbeats 6400000 in
theorem poc_8 (msb lsb now : Int) (w : World) :
    Calls Tryz.prog 79 #[.int .i64 msb, .int .i64 lsb, .int .i64 now, .int .i64 8] w fun e w' => e = .returned (pocV (pocF msb lsb now 8)) ∧ w = w' := by
  have e : pocF msb lsb now 8 = if lsb < 0 ∨ 256 ≤ lsb ∨ now < 0 ∨ 256 ≤ now ∨ msb.tmod 256 ≠ 0 ∨ 268435456 < msb ∨ msb < -268435456 then none else some (if 128 ≤ lsb - now then msb + 256 else if 128 < now - lsb then msb - 256 else msb, (if 128 ≤ lsb - now then msb + 256 else if 128 < now - lsb then msb - 256 else msb) + now) := rfl
  rw [e]
  clear e
  by_cases h1 : lsb < 0
  · rw [if_pos (by omega)]
    go_enter Tryz.func79, Tryz.ntmps79
    go_wp2_with fail
    all_goals (go_ret3; exact ⟨rfl, rfl⟩)
  by_cases h2 : 256 ≤ lsb
  · rw [if_pos (by omega)]
    go_enter Tryz.func79, Tryz.ntmps79
    go_wp2_with fail
    all_goals (go_ret3; exact ⟨rfl, rfl⟩)
  by_cases h3 : now < 0
  · rw [if_pos (by omega)]
    go_enter Tryz.func79, Tryz.ntmps79
    go_wp2_with fail
    all_goals (go_ret3; exact ⟨rfl, rfl⟩)
  by_cases h4 : 256 ≤ now
  · rw [if_pos (by omega)]
    go_enter Tryz.func79, Tryz.ntmps79
    go_wp2_with fail
    all_goals (go_ret3; exact ⟨rfl, rfl⟩)
  by_cases h5 : msb.tmod 256 ≠ 0
  · rw [if_pos (Or.inr (Or.inr (Or.inr (Or.inr (Or.inl h5)))))]
    have hq : (msb.tmod 256 != 0) = true := by simpa using h5
    go_enter Tryz.func79, Tryz.ntmps79
    go_wp2_with fail
    all_goals (go_ret3; exact ⟨rfl, rfl⟩)
  have hz : msb.tmod 256 = 0 := Classical.byContradiction h5
  have hq : (msb.tmod 256 != 0) = false := by simp [hz]
  by_cases h6 : 268435456 < msb
  · rw [if_pos (by omega)]
    clear hz
    go_enter Tryz.func79, Tryz.ntmps79
    go_wp2_with fail
    all_goals (go_ret3; exact ⟨rfl, rfl⟩)
  by_cases h7 : msb < -268435456
  · rw [if_pos (by omega)]
    clear hz
    go_enter Tryz.func79, Tryz.ntmps79
    go_wp2_with fail
    all_goals (go_ret3; exact ⟨rfl, rfl⟩)
  rw [if_neg (by omega)]
  clear hz h5
  by_cases g1 : 128 ≤ lsb - now
  · simp only [if_pos g1]
    go_enter Tryz.func79, Tryz.ntmps79
    go_wp2_with fail
    all_goals (go_ret3; exact ⟨rfl, rfl⟩)
  by_cases g2 : 128 < now - lsb
  · simp only [if_neg g1, if_pos g2]
    go_enter Tryz.func79, Tryz.ntmps79
    go_wp2_with fail
    all_goals (go_ret3; exact ⟨rfl, rfl⟩)
  simp only [if_neg g1, if_neg g2]
  go_enter Tryz.func79, Tryz.ntmps79
  go_wp2_with fail
  all_goals (go_ret3; exact ⟨rfl, rfl⟩)
theorem poc_any (msb lsb now bits : Int) (w : World) :
    Calls Tryz.prog 79 #[.int .i64 msb, .int .i64 lsb, .int .i64 now, .int .i64 bits] w fun e w' => e = .returned (pocV (pocF msb lsb now bits)) ∧ w = w' := by
  by_cases h : bits < 4 ∨ 8 < bits
  · exact poc_out msb lsb now bits w h
  · rcases (by omega : bits = 4 ∨ bits = 5 ∨ bits = 6 ∨ bits = 7 ∨ bits = 8) with rfl | rfl | rfl | rfl | rfl
    · exact poc_4 msb lsb now w
    · exact poc_5 msb lsb now w
    · exact poc_6 msb lsb now w
    · exact poc_7 msb lsb now w
    · exact poc_8 msb lsb now w
end Go.Proofs.YtfignfohcalcfaaGreatDoor
