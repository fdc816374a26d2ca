/- The document's own Temporal. -/
import Derived.Test.YtahnfecohdflnaaDirD
namespace Go.Proofs.Ytahnfecohdflnaa
open Go.RowKit
set_option linter.unusedVariables false
attribute [local go_sem] ite_max ite_min

set_option maxHeartbeats 400000 in
theorem temporal2 (v s : Int) (w : World) (hs : -1048576 ≤ s ∧ s ≤ 1048576) (hv : -1048576 ≤ v ∧ v ≤ 1048576) :
    Calls Try.prog 19 #[.int .i64 v, .int .i64 s] w fun e w' => e = .returned (.tuple #[.int .i64 (tIs s v), .int .i64 (tIs s v - v)]) ∧ w = w' := by
  have h1 := temp_bd s v hs hv
  unfold tIs
  go_enter Try.func19, Try.ntmps19
  go_wp2
  go_ret2
  exact ⟨rfl, rfl⟩

set_option maxHeartbeats 800000 in
theorem tempr_still (x y s : Int) (w : World) (h : tOk x y s) :
    Calls Try.prog 11 #[vec x y, .int .i64 s, .bool true] w fun e w' => e = .returned (.tuple #[vec x y, vec 0 0]) ∧ Below w.heap.size w w' := by
  obtain ⟨hx, hy, hs⟩ := h
  unfold vec
  go_enter Try.func11, Try.ntmps11
  go_wp2
  refine bodyPost_ret (v := .tuple #[.agg #[.int .i64 x, .int .i64 y], .agg #[.int .i64 0, .int .i64 0]]) (by simp [results, Try.results11, go_sem]) rfl ⟨rfl, ?_⟩
  repeat (first | exact Below.refl _ _ | refine Below.alloc ?_ (by simp <;> omega) _ | refine Below.drew ?_ | refine Below.setCell ?_ (by simp <;> omega) _)

set_option maxHeartbeats 800000 in
theorem tempr_go (x y s : Int) (w : World) (h : tOk x y s) :
    Calls Try.prog 11 #[vec x y, .int .i64 s, .bool false] w fun e w' => e = .returned (.tuple #[vec (tIs s x) (tIs s y), vec (tIs s x - x) (tIs s y - y)]) ∧ Below w.heap.size w w' := by
  obtain ⟨hx, hy, hs⟩ := h
  unfold vec
  go_enter Try.func11, Try.ntmps11
  go_wp2_with (go_at_call 19; refine (temporal2 _ _ _ (by omega) (by omega)).mono ?_; rintro e w' ⟨rfl, rfl⟩)
  refine bodyPost_ret (v := .tuple #[.agg #[.int .i64 (tIs s x), .int .i64 (tIs s y)], .agg #[.int .i64 (tIs s x - x), .int .i64 (tIs s y - y)]]) (by simp [results, Try.results11, go_sem]) rfl ⟨rfl, ?_⟩
  repeat (first | exact Below.refl _ _ | refine Below.alloc ?_ (by simp <;> omega) _ | refine Below.drew ?_ | refine Below.setCell ?_ (by simp <;> omega) _)

set_option maxHeartbeats 1600000 in
theorem tempr_out (x y s : Int) (b : Bool) (w : World) (h : ¬ tOk x y s) :
    Calls Try.prog 11 #[vec x y, .int .i64 s, .bool b] w fun e w' => e = .returned (.tuple #[vec 0 0, vec 0 0]) ∧ Below w.heap.size w w' := by
  have h' : (1048576 < max (max x y) s) ∨ (max (max x y) s ≤ 1048576 ∧ min (min x y) s < -1048576) := by unfold tOk at h; omega
  clear h
  unfold vec
  rcases h' with h | ⟨h1, h⟩
  all_goals
    go_enter Try.func11, Try.ntmps11
    go_wp2
    refine bodyPost_ret (v := .tuple #[.agg #[.int .i64 0, .int .i64 0], .agg #[.int .i64 0, .int .i64 0]]) (by simp [results, Try.results11, go_sem]) rfl ⟨rfl, ?_⟩
    repeat (first | exact Below.refl _ _ | refine Below.alloc ?_ (by simp <;> omega) _ | refine Below.drew ?_ | refine Below.setCell ?_ (by simp <;> omega) _)

end Go.Proofs.Ytahnfecohdflnaa
