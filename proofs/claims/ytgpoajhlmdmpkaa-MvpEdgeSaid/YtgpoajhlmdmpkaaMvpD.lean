/- mvp.Skip and the document's own. -/
import Derived.Test.YtgpoajhlmdmpkaaMvpC
namespace Go.Proofs.Ytgpoajhlmdmpkaa
open Go.RowKit
set_option linter.unusedVariables false

def stopB (h : Bool) (r x y : Int) : Bool := !h || ((r == 0) && ((x == 0) && (y == 0)))
def skipV (h0 h1 : Bool) (r0 r1 r2 x0 y0 x1 y1 v0 v1 v2 : Int) : Int := if (stopB h0 r0 x0 y0 || stopB h1 r1 x1 y1) = true then 0 else pred 0 0 r0 r1 r2 v0 v1 v2 0

set_option maxRecDepth 100000 in
set_option maxHeartbeats 1600000 in
theorem skip_any (r0 r1 r2 x0 y0 x1 y1 x2 y2 : Int) (h0 h1 : Bool) (w : World) :
    Calls Try.prog 13 #[.agg #[.int .i64 r0, .int .i64 r1, .int .i64 r2], .agg #[.int .i64 x0, .int .i64 y0, .int .i64 x1, .int .i64 y1, .int .i64 x2, .int .i64 y2], .agg #[.bool h0, .bool h1]] w
      fun e w' => e = .returned (.agg #[.int .i64 (skipV h0 h1 r0 r1 r2 x0 y0 x1 y1 x0 x1 x2), .int .i64 (skipV h0 h1 r0 r1 r2 x0 y0 x1 y1 y0 y1 y2)]) ∧ Below w.heap.size w w' := by
  go_enter Try.func13, Try.ntmps13
  go_wp2_with fail
  refine wp_loop_rounds 3 ?_
  iterate 3 (all_goals (try (rw [rounds_succ]; go_wp2_with fail)))
  all_goals first
    | (refine bodyPost_ret (v := .agg #[.int .i64 0, .int .i64 0]) ?_ rfl ⟨?_, ?_⟩
       · (simp [results, Try.results13, go_sem]; done)
       · exact ret_vec (by unfold skipV stopB; simp [*]) (by unfold skipV stopB; simp [*])
       · repeat (first | exact Below.refl _ _ | refine Below.alloc ?_ (by simp <;> omega) _ | refine Below.drew ?_ | refine Below.setCell ?_ (by simp <;> omega) _))
    | (refine (pred_any _ _ _ _ _ _ _ _ _ _ _ _ _).mono ?_
       rintro e w1 ⟨rfl, hb1⟩
       have hz : w.heap.size + 1 + 1 + 1 < w1.heap.size := by have := hb1.size; simp at this; omega
       have c0 : w1.cell? ⟨w.heap.size + 1 + 1 + 1, 0, none⟩ = some (.int .i64 0) := (hb1.cell (by simp <;> omega)).trans (by simp [go_sem])
       have c1 : w1.cell? ⟨w.heap.size + 1 + 1 + 1, 1, none⟩ = some (.int .i64 0) := (hb1.cell (by simp <;> omega)).trans (by simp [go_sem])
       have f0 : w1.frozen? ⟨w.heap.size + 1 + 1 + 1, 0, none⟩ = false := (hb1.frozen (by simp <;> omega)).trans (by simp [go_sem])
       have f1 : w1.frozen? ⟨w.heap.size + 1 + 1 + 1, 1, none⟩ = false := (hb1.frozen (by simp <;> omega)).trans (by simp [go_sem])
       have hB : Below w.heap.size w w1 := Below.trans (by repeat (first | exact Below.refl _ _ | refine Below.alloc ?_ (by simp <;> omega) _)) (hb1.mono (by simp <;> omega))
       clear hb1
       go_wp2_with fail
       refine bodyPost_ret (v := .agg #[.int .i64 (skipV h0 h1 r0 r1 r2 x0 y0 x1 y1 x0 x1 x2), .int .i64 (skipV h0 h1 r0 r1 r2 x0 y0 x1 y1 y0 y1 y2)]) ?_ rfl ⟨rfl, ?_⟩
       · simp [results, Try.results13, go_sem, skipV, stopB, *]
       · exact (hB.setCell (by simp <;> omega) _).setCell (by simp <;> omega) _)

set_option maxRecDepth 100000 in
set_option maxHeartbeats 1600000 in
theorem skip2_any (r0 r1 r2 x0 y0 x1 y1 x2 y2 : Int) (h0 h1 : Bool) (w : World) :
    Calls Try.prog 14 #[.agg #[.int .i64 r0, .int .i64 r1, .int .i64 r2], .agg #[.int .i64 x0, .int .i64 y0, .int .i64 x1, .int .i64 y1, .int .i64 x2, .int .i64 y2], .agg #[.bool h0, .bool h1]] w
      fun e w' => e = .returned (.agg #[.int .i64 (skipV h0 h1 r0 r1 r2 x0 y0 x1 y1 x0 x1 x2), .int .i64 (skipV h0 h1 r0 r1 r2 x0 y0 x1 y1 y0 y1 y2)]) ∧ Below w.heap.size w w' := by
  go_enter Try.func14, Try.ntmps14
  go_wp2_with fail
  all_goals first
    | (refine bodyPost_ret (v := .agg #[.int .i64 0, .int .i64 0]) ?_ rfl ⟨?_, ?_⟩
       · (simp [results, Try.results14, go_sem]; done)
       · exact ret_vec (by unfold skipV stopB; simp [*]) (by unfold skipV stopB; simp [*])
       · repeat (first | exact Below.refl _ _ | refine Below.alloc ?_ (by simp <;> omega) _ | refine Below.drew ?_ | refine Below.setCell ?_ (by simp <;> omega) _))
    | (refine (pred2_any _ _ _ _ _ _ _ _ _ _ _ _ _).mono ?_
       rintro e w1 ⟨rfl, hb1⟩
       have hz : w.heap.size + 1 + 1 + 1 + 1 < w1.heap.size := by have := hb1.size; simp at this; omega
       have c0 : w1.cell? ⟨w.heap.size + 1 + 1 + 1, 0, none⟩ = some (.int .i64 0) := (hb1.cell (by simp <;> omega)).trans (by simp [go_sem])
       have c1 : w1.cell? ⟨w.heap.size + 1 + 1 + 1, 1, none⟩ = some (.int .i64 0) := (hb1.cell (by simp <;> omega)).trans (by simp [go_sem])
       have f0 : w1.frozen? ⟨w.heap.size + 1 + 1 + 1, 0, none⟩ = false := (hb1.frozen (by simp <;> omega)).trans (by simp [go_sem])
       have f1 : w1.frozen? ⟨w.heap.size + 1 + 1 + 1, 1, none⟩ = false := (hb1.frozen (by simp <;> omega)).trans (by simp [go_sem])
       have hB : Below w.heap.size w w1 := Below.trans (by repeat (first | exact Below.refl _ _ | refine Below.alloc ?_ (by simp <;> omega) _)) (hb1.mono (by simp <;> omega))
       clear hb1
       go_wp2_with fail
       refine bodyPost_ret (v := .agg #[.int .i64 (skipV h0 h1 r0 r1 r2 x0 y0 x1 y1 x0 x1 x2), .int .i64 (skipV h0 h1 r0 r1 r2 x0 y0 x1 y1 y0 y1 y2)]) ?_ rfl ⟨rfl, ?_⟩
       · simp [results, Try.results14, go_sem, skipV, stopB, *]
       · exact (hB.setCell (by simp <;> omega) _).setCell (by simp <;> omega) _)

end Go.Proofs.Ytgpoajhlmdmpkaa
