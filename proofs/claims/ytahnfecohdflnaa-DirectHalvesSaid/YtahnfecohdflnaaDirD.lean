/- direct.Temporal. -/
import Derived.Test.YtahnfecohdflnaaDirC
namespace Go.Proofs.Ytahnfecohdflnaa
open Go.RowKit
set_option linter.unusedVariables false

def vec (x y : Int) : Value := .agg #[.int .i64 x, .int .i64 y]
def tOk (x y s : Int) : Prop := (-1048576 ≤ x ∧ x ≤ 1048576) ∧ (-1048576 ≤ y ∧ y ≤ 1048576) ∧ (-1048576 ≤ s ∧ s ≤ 1048576)
def tIs (s v : Int) : Int := (s * v + 128) / 256

theorem temp_bd (s v : Int) (hs : -1048576 ≤ s ∧ s ≤ 1048576) (hv : -1048576 ≤ v ∧ v ≤ 1048576) : -1099511627776 ≤ s * v ∧ s * v ≤ 1099511627776 := mul_bd s v 1048576 1048576 hs hv


set_option maxHeartbeats 800000 in
theorem temp_still (x y s : Int) (w : World) (h : tOk x y s) :
    Calls Try.prog 10 #[vec x y, .int .i64 s, .bool true] w fun e w' => e = .returned (.tuple #[vec x y, vec 0 0]) ∧ Below w.heap.size w w' := by
  obtain ⟨hx, hy, hs⟩ := h
  unfold vec
  go_enter Try.func10, Try.ntmps10
  go_wp2
  refine wp_loop_rounds 4 ?_
  iterate 4 (rw [rounds_succ]; go_wp2)
  refine bodyPost_ret (v := .tuple #[.agg #[.int .i64 x, .int .i64 y], .agg #[.int .i64 0, .int .i64 0]]) (by simp [results, Try.results10, go_sem]) rfl ⟨rfl, ?_⟩
  repeat (first | exact Below.refl _ _ | refine Below.alloc ?_ (by simp <;> omega) _ | refine Below.drew ?_ | refine Below.setCell ?_ (by simp <;> omega) _)

set_option maxHeartbeats 800000 in
theorem temp_go (x y s : Int) (w : World) (h : tOk x y s) :
    Calls Try.prog 10 #[vec x y, .int .i64 s, .bool false] w fun e w' => e = .returned (.tuple #[vec (tIs s x) (tIs s y), vec (tIs s x - x) (tIs s y - y)]) ∧ Below w.heap.size w w' := by
  obtain ⟨hx, hy, hs⟩ := h
  have h1 := temp_bd s x hs hx
  have h2 := temp_bd s y hs hy
  unfold vec tIs
  go_enter Try.func10, Try.ntmps10
  go_wp2
  refine wp_loop_rounds 4 ?_
  iterate 4 (rw [rounds_succ]; go_wp2)
  go_region
  go_wp2
  refine bodyPost_ret (v := .tuple #[.agg #[.int .i64 ((s * x + 128) / 256), .int .i64 ((s * y + 128) / 256)], .agg #[.int .i64 ((s * x + 128) / 256 - x), .int .i64 ((s * y + 128) / 256 - y)]]) (by simp [results, Try.results10, go_sem]) rfl ⟨rfl, ?_⟩
  repeat (first | exact Below.refl _ _ | refine Below.alloc ?_ (by simp <;> omega) _ | refine Below.drew ?_ | refine Below.setCell ?_ (by simp <;> omega) _)

set_option maxHeartbeats 1600000 in
theorem temp_out (x y s : Int) (b : Bool) (w : World) (h : ¬ tOk x y s) :
    Calls Try.prog 10 #[vec x y, .int .i64 s, .bool b] w fun e w' => e = .returned (.tuple #[vec 0 0, vec 0 0]) ∧ Below w.heap.size w w' := by
  have h' : (x < -1048576 ∨ 1048576 < x) ∨ ((-1048576 ≤ x ∧ x ≤ 1048576) ∧ (y < -1048576 ∨ 1048576 < y)) ∨ ((-1048576 ≤ x ∧ x ≤ 1048576) ∧ (-1048576 ≤ y ∧ y ≤ 1048576) ∧ (s < -1048576 ∨ 1048576 < s)) := by unfold tOk at h; omega
  clear h
  unfold vec
  rcases h' with (h | h) | ⟨h1, h | h⟩ | ⟨h1, h2, h | h⟩
  all_goals
    go_enter Try.func10, Try.ntmps10
    go_wp2
    refine wp_loop_rounds 3 ?_
    rw [rounds_succ]
    go_wp2
    repeat (rw [rounds_succ]; go_wp2)
    refine bodyPost_ret (v := .tuple #[.agg #[.int .i64 0, .int .i64 0], .agg #[.int .i64 0, .int .i64 0]]) (by simp [results, Try.results10, go_sem]) rfl ⟨rfl, ?_⟩
    repeat (first | exact Below.refl _ _ | refine Below.alloc ?_ (by simp <;> omega) _ | refine Below.drew ?_ | refine Below.setCell ?_ (by simp <;> omega) _)

end Go.Proofs.Ytahnfecohdflnaa
