/- awake of the statements on package direct: true. -/
import Derived.Test.YtahnfecohdflnaaDirF
namespace Go.Proofs.Ytahnfecohdflnaa
open Go.RowKit
set_option linter.unusedVariables false

set_option maxHeartbeats 400000 in
theorem num_any (x : Int) (w : World) :
    Calls Try.prog 15 #[.int .i64 x] w fun e w' => e = .returned (.int .i64 x) ∧ w = w' := by
  go_enter Try.func15, Try.ntmps15
  go_wp2
  go_ret
  exact ⟨rfl, rfl⟩

theorem scale_a (w : World) : Calls Try.prog 8 #[.int .i64 2, .int .i64 0, .int .i64 4] w fun e w' => e = .returned (.tuple #[.int .i64 128, .bool true]) ∧ w = w' :=
  (scale_any 2 0 4 w).mono fun _ _ h => ⟨h.1.trans (by kernel_rfl), h.2⟩
theorem scale_b (w : World) : Calls Try.prog 8 #[.int .i64 2, .int .i64 4, .int .i64 4] w fun e w' => e = .returned (.tuple #[.int .i64 0, .bool false]) ∧ w = w' :=
  (scale_any 2 4 4 w).mono fun _ _ h => ⟨h.1.trans (by kernel_rfl), h.2⟩
theorem temp_a (w : World) : Calls Try.prog 10 #[.agg #[.int .i64 8, .int .i64 (-8)], .int .i64 128, .bool false] w fun e w' => e = .returned (.tuple #[.agg #[.int .i64 4, .int .i64 (-4)], .agg #[.int .i64 (-4), .int .i64 4]]) ∧ Below w.heap.size w w' :=
  (temp_go 8 (-8) 128 w (by unfold tOk; omega)).mono fun _ _ h => ⟨h.1.trans (by kernel_rfl), h.2⟩
theorem refs_a (w : World) : Calls Try.prog 12 #[.agg #[.int .i64 (-1), .int .i64 3, .int .i64 2]] w fun e w' => e = .returned (.int .i64 2) ∧ Below w.heap.size w w' :=
  (refs_any (-1) 3 2 w).mono fun _ _ h => ⟨h.1.trans (by kernel_rfl), h.2⟩
theorem refs_b (w : World) : Calls Try.prog 12 #[.agg #[.int .i64 (-2), .int .i64 (-1), .int .i64 (-1)]] w fun e w' => e = .returned (.int .i64 (-1)) ∧ Below w.heap.size w w' :=
  (refs_any (-2) (-1) (-1) w).mono fun _ _ h => ⟨h.1.trans (by kernel_rfl), h.2⟩

set_option maxHeartbeats 1600000 in
theorem awake_any (w : World) :
    Calls Try.prog 14 #[] w fun e w' => e = .returned (.bool true) ∧ Below w.heap.size w w' := by
  go_enter Try.func14, Try.ntmps14
  go_wp2_with fail
  refine (scale_a _).mono ?_
  rintro e w' ⟨rfl, rfl⟩
  go_wp2_with fail
  refine (scale_b _).mono ?_
  rintro e w' ⟨rfl, rfl⟩
  go_wp2_with fail
  refine (temp_a _).mono ?_
  rintro e w1 ⟨rfl, hb1⟩
  go_wp2_with fail
  refine (refs_a _).mono ?_
  rintro e w2 ⟨rfl, hb2⟩
  go_wp2_with fail
  refine (refs_b _).mono ?_
  rintro e w3 ⟨rfl, hb3⟩
  go_wp2_with fail
  refine (num_any _ _).mono ?_
  rintro e w' ⟨rfl, rfl⟩
  go_wp2_with fail
  go_ret
  refine ⟨rfl, ?_⟩
  have h1 : Below w.heap.size w ((w1.alloc (Obj.cells #[Value.int IntKind.i64 4, Value.int IntKind.i64 (-4)] 23)).alloc (Obj.cells #[Value.int IntKind.i64 (-4), Value.int IntKind.i64 4] 23)) := 
    (hb1.alloc hb1.size _).alloc (by have := hb1.size; simp; omega) _
  exact h1.trans ((hb2.mono h1.size).trans (hb3.mono (Nat.le_trans h1.size hb2.size)))

end Go.Proofs.Ytahnfecohdflnaa
