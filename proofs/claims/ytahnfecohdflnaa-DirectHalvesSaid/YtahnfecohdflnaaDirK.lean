/- The statements on package direct: the walk of DirectSums. -/
import Derived.Test.YtahnfecohdflnaaDirJ
namespace Go.Proofs.Ytahnfecohdflnaa
open Go.RowKit
set_option linter.unusedVariables false

theorem tIs_bd (s v : Int) (hs : -1048576 ≤ s ∧ s ≤ 1048576) (hv : -1048576 ≤ v ∧ v ≤ 1048576) : -4294967297 ≤ tIs s v ∧ tIs s v ≤ 4294967297 := by
  have := temp_bd s v hs hv
  unfold tIs; omega

set_option maxHeartbeats 1600000 in
theorem walk_DirectSums (a0_X : Int) (a0_Y : Int) (a1 : Int) (w : World) (w_a0_X : (Lit.int .i64 a0_X).wf = true) (w_a0_Y : (Lit.int .i64 a0_Y).wf = true) (w_a1 : (Lit.int .i64 a1).wf = true) :
    Calls Try.prog 5 #[.agg #[.int .i64 a0_X, .int .i64 a0_Y], .int .i64 a1] w fun e w' => e = .returned (.bool true) ∧ Below w.heap.size w w' := by
  clear w_a0_X w_a0_Y w_a1
  have b0 := tmod_bd a0_X 10000 (by omega)
  have b1 := tmod_bd a0_Y 10000 (by omega)
  have b2 := tmod_bd a1 1024 (by omega)
  have hok : tOk (a0_X.tmod 10000) (a0_Y.tmod 10000) (a1.tmod 1024) := by unfold tOk; omega
  have b3 := tIs_bd (a1.tmod 1024) (a0_X.tmod 10000) (by omega) (by omega)
  have b4 := tIs_bd (a1.tmod 1024) (a0_Y.tmod 10000) (by omega) (by omega)
  have HG : ∀ w, Calls Try.prog 10 #[.agg #[.int .i64 (a0_X.tmod 10000), .int .i64 (a0_Y.tmod 10000)], .int .i64 (a1.tmod 1024), .bool false] w fun e w' => e = .returned (.tuple #[.agg #[.int .i64 (tIs (a1.tmod 1024) (a0_X.tmod 10000)), .int .i64 (tIs (a1.tmod 1024) (a0_Y.tmod 10000))], .agg #[.int .i64 (tIs (a1.tmod 1024) (a0_X.tmod 10000) - a0_X.tmod 10000), .int .i64 (tIs (a1.tmod 1024) (a0_Y.tmod 10000) - a0_Y.tmod 10000)]]) ∧ Below w.heap.size w w' := fun w => temp_go _ _ _ w hok
  have HT : ∀ w, Calls Try.prog 10 #[.agg #[.int .i64 (a0_X.tmod 10000), .int .i64 (a0_Y.tmod 10000)], .int .i64 (a1.tmod 1024), .bool true] w fun e w' => e = .returned (.tuple #[.agg #[.int .i64 (a0_X.tmod 10000), .int .i64 (a0_Y.tmod 10000)], .agg #[.int .i64 0, .int .i64 0]]) ∧ Below w.heap.size w w' := fun w => temp_still _ _ _ w hok
  have KG := Lib.hid HG
  have KT := Lib.hid HT
  clear HG HT hok
  generalize tIs (a1.tmod 1024) (a0_X.tmod 10000) = p at *
  generalize tIs (a1.tmod 1024) (a0_Y.tmod 10000) = q at *
  have e0 : (p - (p - a0_X.tmod 10000) == a0_X.tmod 10000) = true := by rw [beq_iff_eq]; omega
  have e1 : (q - (q - a0_Y.tmod 10000) == a0_Y.tmod 10000) = true := by rw [beq_iff_eq]; omega
  go_enter Try.func5, Try.ntmps5
  go_wp2_with fail
  refine (awake_any _).mono ?_
  rintro e w1 ⟨rfl, hb1⟩
  have hz1 : w.heap.size < w1.heap.size := by have := hb1.size; simp at this; omega
  have c0 : w1.cell? ⟨w.heap.size, 0, none⟩ = some (.int .i64 a0_X) := (hb1.cell (by simp <;> omega)).trans (by simp)
  have c1 : w1.cell? ⟨w.heap.size, 1, none⟩ = some (.int .i64 a0_Y) := (hb1.cell (by simp <;> omega)).trans (by simp)
  have hB1 : Below w.heap.size w w1 := ((Below.refl _ _).alloc (Nat.le_refl _) _).trans (hb1.mono (by simp <;> omega))
  clear hb1
  go_wp2_with fail
  refine (KG.out _).mono ?_
  rintro e w2 ⟨rfl, hb2⟩
  have hz2 : w1.heap.size < w2.heap.size := by have := hb2.size; simp at this; omega
  have c2 : w2.cell? ⟨w1.heap.size, 0, none⟩ = some (.int .i64 (a0_X.tmod 10000)) := (hb2.cell (by simp <;> omega)).trans (by simp)
  have c3 : w2.cell? ⟨w1.heap.size, 1, none⟩ = some (.int .i64 (a0_Y.tmod 10000)) := (hb2.cell (by simp <;> omega)).trans (by simp)
  have hB2 : Below w.heap.size w w2 := (hB1.alloc (by omega) _).trans (hb2.mono (by simp <;> omega))
  clear hb2 hB1 c0 c1
  go_wp2_with fail
  refine (KT.out _).mono ?_
  rintro e w3 ⟨rfl, hb3⟩
  have hz3 : w2.heap.size + 1 < w3.heap.size := by have := hb3.size; simp at this; omega
  have hz4 : w2.heap.size < w3.heap.size := by omega
  have hz5 : w1.heap.size < w3.heap.size := by omega
  have hB23 : Below w2.heap.size w2 w3 := (((Below.refl _ _).alloc (Nat.le_refl _) _).alloc (by simp) _).trans (hb3.mono (by simp <;> omega))
  have c2' : w3.cell? ⟨w1.heap.size, 0, none⟩ = some (.int .i64 (a0_X.tmod 10000)) := (hB23.cell hz2).trans c2
  have c3' : w3.cell? ⟨w1.heap.size, 1, none⟩ = some (.int .i64 (a0_Y.tmod 10000)) := (hB23.cell hz2).trans c3
  have d0 : w3.cell? ⟨w2.heap.size, 0, none⟩ = some (.int .i64 p) := (hb3.cell (by simp <;> omega)).trans (by simp)
  have d1 : w3.cell? ⟨w2.heap.size, 1, none⟩ = some (.int .i64 q) := (hb3.cell (by simp <;> omega)).trans (by simp)
  have d2 : w3.cell? ⟨w2.heap.size + 1, 0, none⟩ = some (.int .i64 (p - a0_X.tmod 10000)) := (hb3.cell (by simp <;> omega)).trans (by simp)
  have d3 : w3.cell? ⟨w2.heap.size + 1, 1, none⟩ = some (.int .i64 (q - a0_Y.tmod 10000)) := (hb3.cell (by simp <;> omega)).trans (by simp)
  have hB3 : Below w.heap.size w w3 := hB2.trans (hB23.mono (by omega))
  clear hb3 hB23 hB2 c2 c3
  go_wp2_with fail
  refine (num_any _ _).mono ?_
  rintro e w' ⟨rfl, rfl⟩
  go_wp2_with fail
  go_ret
  exact ⟨rfl, (hB3.alloc (by omega) _).alloc (by simp <;> omega) _⟩

end Go.Proofs.Ytahnfecohdflnaa
