/- The statements on package direct: the walks, 1. -/
import Derived.Test.YtahnfecohdflnaaDirG
import Derived.Deep.RegionHeld3
namespace Go.Proofs.Ytahnfecohdflnaa
open Go.RowKit
set_option linter.unusedVariables false

def tA (x y s : Int) (b : Bool) (v : Int) : Int := if (-1048576 ≤ x ∧ x ≤ 1048576) ∧ (-1048576 ≤ y ∧ y ≤ 1048576) ∧ (-1048576 ≤ s ∧ s ≤ 1048576) then (if b = true then v else tIs s v) else 0
def tB (x y s : Int) (b : Bool) (v : Int) : Int := if (-1048576 ≤ x ∧ x ≤ 1048576) ∧ (-1048576 ≤ y ∧ y ≤ 1048576) ∧ (-1048576 ≤ s ∧ s ≤ 1048576) then (if b = true then 0 else tIs s v - v) else 0

theorem temp_any (x y s : Int) (b : Bool) (w : World) :
    Calls Try.prog 10 #[.agg #[.int .i64 x, .int .i64 y], .int .i64 s, .bool b] w fun e w' => e = .returned (.tuple #[.agg #[.int .i64 (tA x y s b x), .int .i64 (tA x y s b y)], .agg #[.int .i64 (tB x y s b x), .int .i64 (tB x y s b y)]]) ∧ Below w.heap.size w w' := by
  unfold tA tB
  by_cases h : tOk x y s
  · have h' := h
    unfold tOk at h'
    simp only [if_pos h']
    cases b
    · exact temp_go x y s w h
    · exact temp_still x y s w h
  · have h' := h
    unfold tOk at h'
    simp only [if_neg h']
    exact temp_out x y s b w h
theorem tempr_any (x y s : Int) (b : Bool) (w : World) :
    Calls Try.prog 11 #[.agg #[.int .i64 x, .int .i64 y], .int .i64 s, .bool b] w fun e w' => e = .returned (.tuple #[.agg #[.int .i64 (tA x y s b x), .int .i64 (tA x y s b y)], .agg #[.int .i64 (tB x y s b x), .int .i64 (tB x y s b y)]]) ∧ Below w.heap.size w w' := by
  unfold tA tB
  by_cases h : tOk x y s
  · have h' := h
    unfold tOk at h'
    simp only [if_pos h']
    cases b
    · exact tempr_go x y s w h
    · exact tempr_still x y s w h
  · have h' := h
    unfold tOk at h'
    simp only [if_neg h']
    exact tempr_out x y s b w h

set_option maxHeartbeats 1600000 in
theorem walk_Directs (a0 : Int) (a1 : Int) (a2 : Int) (a3_X : Int) (a3_Y : Int) (a4 : Int) (a5 : Bool) (a6_0 : Int) (a6_1 : Int) (a6_2 : Int) (w : World) (w_a0 : (Lit.int .i64 a0).wf = true) (w_a1 : (Lit.int .i64 a1).wf = true) (w_a2 : (Lit.int .i64 a2).wf = true) (w_a3_X : (Lit.int .i64 a3_X).wf = true) (w_a3_Y : (Lit.int .i64 a3_Y).wf = true) (w_a4 : (Lit.int .i64 a4).wf = true) (w_a6_0 : (Lit.int .i64 a6_0).wf = true) (w_a6_1 : (Lit.int .i64 a6_1).wf = true) (w_a6_2 : (Lit.int .i64 a6_2).wf = true) :
    Calls Try.prog 3 #[.int .i64 a0, .int .i64 a1, .int .i64 a2, .agg #[.int .i64 a3_X, .int .i64 a3_Y], .int .i64 a4, .bool a5, .agg #[.int .i64 a6_0, .int .i64 a6_1, .int .i64 a6_2]] w fun e w' => e = .returned (.bool true) ∧ Below w.heap.size w w' := by
  clear w_a0 w_a1 w_a2 w_a3_X w_a3_Y w_a4 w_a6_0 w_a6_1 w_a6_2
  go_enter Try.func3, Try.ntmps3
  go_wp2_with fail
  refine (scale_any _ _ _ _).mono ?_
  rintro e w' ⟨rfl, rfl⟩
  go_wp2_with fail
  refine (scale2_any _ _ _ _).mono ?_
  rintro e w' ⟨rfl, rfl⟩
  go_wp2_with fail
  refine (temp_any _ _ _ _ _).mono ?_
  rintro e w1 ⟨rfl, hb1⟩
  have hz1 : w.heap.size + 1 < w1.heap.size := by have := hb1.size; simp at this; omega
  have hz0 : w.heap.size < w1.heap.size := by omega
  have c0 : w1.cell? ⟨w.heap.size, 0, none⟩ = some (.int .i64 a3_X) := (hb1.cell (by simp <;> omega)).trans (by simp)
  have c1 : w1.cell? ⟨w.heap.size, 1, none⟩ = some (.int .i64 a3_Y) := (hb1.cell (by simp <;> omega)).trans (by simp)
  have d0 : w1.cell? ⟨w.heap.size + 1, 0, none⟩ = some (.int .i64 a6_0) := (hb1.cell (by simp)).trans (by simp)
  have d1 : w1.cell? ⟨w.heap.size + 1, 1, none⟩ = some (.int .i64 a6_1) := (hb1.cell (by simp)).trans (by simp)
  have d2 : w1.cell? ⟨w.heap.size + 1, 2, none⟩ = some (.int .i64 a6_2) := (hb1.cell (by simp)).trans (by simp)
  have hB1 : Below w.heap.size w w1 := (((Below.refl _ _).alloc (Nat.le_refl _) _).alloc (by simp) _).trans (hb1.mono (by simp; omega))
  clear hb1
  generalize scaleV a0 a1 a2 = V
  generalize scaleB a0 a1 a2 = B
  go_wp2_with fail
  refine (tempr_any _ _ _ _ _).mono ?_
  rintro e w2 ⟨rfl, hb2⟩
  generalize tA a3_X a3_Y a4 a5 a3_X = p1 at *
  generalize tA a3_X a3_Y a4 a5 a3_Y = p2 at *
  generalize tB a3_X a3_Y a4 a5 a3_X = q1 at *
  generalize tB a3_X a3_Y a4 a5 a3_Y = q2 at *
  have hz2 : w1.heap.size + 1 < w2.heap.size := by have := hb2.size; simp at this; omega
  have hz3 : w1.heap.size < w2.heap.size := by omega
  have hz4 : w.heap.size + 1 < w2.heap.size := by omega
  have hz5 : w.heap.size < w2.heap.size := by omega
  have hB12 : Below w1.heap.size w1 w2 := (((Below.refl _ _).alloc (Nat.le_refl _) _).alloc (by simp) _).trans (hb2.mono (by simp; omega))
  have d0' : w2.cell? ⟨w.heap.size + 1, 0, none⟩ = some (.int .i64 a6_0) := (hB12.cell (by simpa using hz1)).trans d0
  have d1' : w2.cell? ⟨w.heap.size + 1, 1, none⟩ = some (.int .i64 a6_1) := (hB12.cell (by simpa using hz1)).trans d1
  have d2' : w2.cell? ⟨w.heap.size + 1, 2, none⟩ = some (.int .i64 a6_2) := (hB12.cell (by simpa using hz1)).trans d2
  have e0' : w2.cell? ⟨w1.heap.size, 0, none⟩ = some (.int .i64 p1) := (hb2.cell (by simp <;> omega)).trans (by simp)
  have e1' : w2.cell? ⟨w1.heap.size, 1, none⟩ = some (.int .i64 p2) := (hb2.cell (by simp <;> omega)).trans (by simp)
  have f0' : w2.cell? ⟨w1.heap.size + 1, 0, none⟩ = some (.int .i64 q1) := (hb2.cell (by simp)).trans (by simp)
  have f1' : w2.cell? ⟨w1.heap.size + 1, 1, none⟩ = some (.int .i64 q2) := (hb2.cell (by simp)).trans (by simp)
  have hB2 : Below w.heap.size w w2 := ((hB1.alloc (by omega) _).alloc (by simp; omega) _).trans (hb2.mono (by simp; omega))
  clear hb2 hB1 hB12 c0 c1 d0 d1 d2
  go_wp2_with fail
  have hB3 : Below w.heap.size w ((w2.alloc (Obj.cells #[Value.int IntKind.i64 p1, Value.int IntKind.i64 p2] 23)).alloc (Obj.cells #[Value.int IntKind.i64 q1, Value.int IntKind.i64 q2] 23)).drew := ((hB2.alloc (by omega) _).alloc (by simp; omega) _).drew
  go_region_held3 (fun w' => w'.cell? ⟨w1.heap.size, 0, none⟩ = some (.int .i64 p1) ∧ w'.cell? ⟨w1.heap.size, 1, none⟩ = some (.int .i64 p2) ∧ w'.cell? ⟨w1.heap.size + 1, 0, none⟩ = some (.int .i64 q1) ∧ w'.cell? ⟨w1.heap.size + 1, 1, none⟩ = some (.int .i64 q2) ∧ w'.cell? ⟨w2.heap.size, 0, none⟩ = some (.int .i64 p1) ∧ w'.cell? ⟨w2.heap.size, 1, none⟩ = some (.int .i64 p2) ∧ w'.cell? ⟨w2.heap.size + 1, 0, none⟩ = some (.int .i64 q1) ∧ w'.cell? ⟨w2.heap.size + 1, 1, none⟩ = some (.int .i64 q2) ∧ w'.cell? ⟨w.heap.size + 1, 0, none⟩ = some (.int .i64 a6_0) ∧ w'.cell? ⟨w.heap.size + 1, 1, none⟩ = some (.int .i64 a6_1) ∧ w'.cell? ⟨w.heap.size + 1, 2, none⟩ = some (.int .i64 a6_2) ∧ w2.heap.size + 1 < w'.heap.size ∧ Below w.heap.size w w')
    (first | go_keep | (go_split_ands; refine ⟨(hb4.cell (by simp <;> omega)).trans (by assumption), (hb4.cell (by simp <;> omega)).trans (by assumption), (hb4.cell (by simp <;> omega)).trans (by assumption), (hb4.cell (by simp <;> omega)).trans (by assumption), (hb4.cell (by simp <;> omega)).trans (by assumption), (hb4.cell (by simp <;> omega)).trans (by assumption), (hb4.cell (by simp <;> omega)).trans (by assumption), (hb4.cell (by simp <;> omega)).trans (by assumption), (hb4.cell (by simp <;> omega)).trans (by assumption), (hb4.cell (by simp <;> omega)).trans (by assumption), (hb4.cell (by simp <;> omega)).trans (by assumption), by have := hb4.size; omega, Below.trans (by assumption) (hb4.mono (by omega))⟩) | (go_split_ands; refine ⟨(hb5.cell (by simp <;> omega)).trans (by assumption), (hb5.cell (by simp <;> omega)).trans (by assumption), (hb5.cell (by simp <;> omega)).trans (by assumption), (hb5.cell (by simp <;> omega)).trans (by assumption), (hb5.cell (by simp <;> omega)).trans (by assumption), (hb5.cell (by simp <;> omega)).trans (by assumption), (hb5.cell (by simp <;> omega)).trans (by assumption), (hb5.cell (by simp <;> omega)).trans (by assumption), (hb5.cell (by simp <;> omega)).trans (by assumption), (hb5.cell (by simp <;> omega)).trans (by assumption), (hb5.cell (by simp <;> omega)).trans (by assumption), by have := hb5.size; omega, Below.trans (by assumption) (hb5.mono (by omega))⟩) | (go_split_ands; refine ⟨(hb6.cell (by simp <;> omega)).trans (by assumption), (hb6.cell (by simp <;> omega)).trans (by assumption), (hb6.cell (by simp <;> omega)).trans (by assumption), (hb6.cell (by simp <;> omega)).trans (by assumption), (hb6.cell (by simp <;> omega)).trans (by assumption), (hb6.cell (by simp <;> omega)).trans (by assumption), (hb6.cell (by simp <;> omega)).trans (by assumption), (hb6.cell (by simp <;> omega)).trans (by assumption), (hb6.cell (by simp <;> omega)).trans (by assumption), (hb6.cell (by simp <;> omega)).trans (by assumption), (hb6.cell (by simp <;> omega)).trans (by assumption), by have := hb6.size; omega, Below.trans (by assumption) (hb6.mono (by omega))⟩))
    (first | (go_at_call 12; refine (refs_any _ _ _ _).mono ?_; rintro e w4 ⟨rfl, hb4⟩) | (go_at_call 13; refine (refs2_any _ _ _ _).mono ?_; rintro e w5 ⟨rfl, hb5⟩) | (go_at_call 14; refine (awake_any _).mono ?_; rintro e w6 ⟨rfl, hb6⟩))
  go_wp2
  go_ret
  go_split_ands
  exact ⟨rfl, by assumption⟩

end Go.Proofs.Ytahnfecohdflnaa
