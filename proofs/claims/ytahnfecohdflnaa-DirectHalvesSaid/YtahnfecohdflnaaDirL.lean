/- The statements on package direct: the walk of DirectHalves. -/
import Derived.Test.YtahnfecohdflnaaDirK
namespace Go.Proofs.Ytahnfecohdflnaa
open Go.RowKit
set_option linter.unusedVariables false

theorem halves_all : ∀ j : Fin 30, scaleV (1 + (j.val : Int)) 0 (2 * (1 + (j.val : Int))) = 128 ∧ scaleB (1 + (j.val : Int)) 0 (2 * (1 + (j.val : Int))) = true ∧ scaleV (2 * (1 + (j.val : Int))) 0 (2 * (1 + (j.val : Int))) = 256 ∧ scaleB (2 * (1 + (j.val : Int))) 0 (2 * (1 + (j.val : Int))) = true := by decide +kernel
theorem halves_at (j : Int) (h : 0 ≤ j ∧ j < 30) : scaleV (1 + j) 0 (2 * (1 + j)) = 128 ∧ scaleB (1 + j) 0 (2 * (1 + j)) = true ∧ scaleV (2 * (1 + j)) 0 (2 * (1 + j)) = 256 ∧ scaleB (2 * (1 + j)) 0 (2 * (1 + j)) = true := by
  have := halves_all ⟨j.toNat, by omega⟩
  rwa [show ((⟨j.toNat, by omega⟩ : Fin 30).val : Int) = j from by simp; omega] at this

set_option maxHeartbeats 1600000 in
theorem walk_DirectHalves (a0_X : Int) (a0_Y : Int) (a1 : Int) (w : World) (w_a0_X : (Lit.int .i64 a0_X).wf = true) (w_a0_Y : (Lit.int .i64 a0_Y).wf = true) (w_a1 : (Lit.int .i64 a1).wf = true) :
    Calls Try.prog 4 #[.agg #[.int .i64 a0_X, .int .i64 a0_Y], .int .i64 a1] w fun e w' => e = .returned (.bool true) ∧ Below w.heap.size w w' := by
  clear w_a0_X w_a0_Y w_a1
  have b2 := u64_tmod_bd a1 30 (by omega)
  have hh := halves_at _ b2
  have HS : ∀ w, Calls Try.prog 8 #[.int .i64 (1 + ((IntKind.u64.wrap a1).tmod 30)), .int .i64 0, .int .i64 (2 * (1 + ((IntKind.u64.wrap a1).tmod 30)))] w fun e w' => e = .returned (.tuple #[.int .i64 128, .bool true]) ∧ w = w' :=
    fun w => (scale_any _ _ _ w).mono fun _ _ h => ⟨h.1.trans (by rw [hh.1, hh.2.1]), h.2⟩
  have HT : ∀ w, Calls Try.prog 8 #[.int .i64 (2 * (1 + ((IntKind.u64.wrap a1).tmod 30))), .int .i64 0, .int .i64 (2 * (1 + ((IntKind.u64.wrap a1).tmod 30)))] w fun e w' => e = .returned (.tuple #[.int .i64 256, .bool true]) ∧ w = w' :=
    fun w => (scale_any _ _ _ w).mono fun _ _ h => ⟨h.1.trans (by rw [hh.2.2.1, hh.2.2.2]), h.2⟩
  clear hh
  have KS := Lib.hid HS
  have KT := Lib.hid HT
  clear HS HT
  have b0 := tmod_bd a0_X 500 (by omega)
  have b1 := tmod_bd a0_Y 500 (by omega)
  have HG : ∀ w, Calls Try.prog 10 #[.agg #[.int .i64 ((a0_X.tmod 500) * 2), .int .i64 ((a0_Y.tmod 500) * 2)], .int .i64 128, .bool false] w fun e w' => e = .returned (.tuple #[.agg #[.int .i64 (a0_X.tmod 500), .int .i64 (a0_Y.tmod 500)], .agg #[.int .i64 (-(a0_X.tmod 500)), .int .i64 (-(a0_Y.tmod 500))]]) ∧ Below w.heap.size w w' :=
    fun w => (temp_go ((a0_X.tmod 500) * 2) ((a0_Y.tmod 500) * 2) 128 w (by unfold tOk; omega)).mono fun _ _ h => ⟨h.1.trans (by rw [show tIs 128 ((a0_X.tmod 500) * 2) = (a0_X.tmod 500) from by unfold tIs; omega, show tIs 128 ((a0_Y.tmod 500) * 2) = (a0_Y.tmod 500) from by unfold tIs; omega, show (a0_X.tmod 500) - (a0_X.tmod 500) * 2 = -(a0_X.tmod 500) from by omega, show (a0_Y.tmod 500) - (a0_Y.tmod 500) * 2 = -(a0_Y.tmod 500) from by omega]; rfl), h.2⟩
  have HH : ∀ w, Calls Try.prog 10 #[.agg #[.int .i64 ((a0_X.tmod 500) * 2), .int .i64 ((a0_Y.tmod 500) * 2)], .int .i64 256, .bool false] w fun e w' => e = .returned (.tuple #[.agg #[.int .i64 ((a0_X.tmod 500) * 2), .int .i64 ((a0_Y.tmod 500) * 2)], .agg #[.int .i64 0, .int .i64 0]]) ∧ Below w.heap.size w w' :=
    fun w => (temp_go ((a0_X.tmod 500) * 2) ((a0_Y.tmod 500) * 2) 256 w (by unfold tOk; omega)).mono fun _ _ h => ⟨h.1.trans (by rw [show tIs 256 ((a0_X.tmod 500) * 2) = (a0_X.tmod 500) * 2 from by unfold tIs; omega, show tIs 256 ((a0_Y.tmod 500) * 2) = (a0_Y.tmod 500) * 2 from by unfold tIs; omega, show (a0_X.tmod 500) * 2 - (a0_X.tmod 500) * 2 = 0 from by omega, show (a0_Y.tmod 500) * 2 - (a0_Y.tmod 500) * 2 = 0 from by omega]; rfl), h.2⟩
  have KG := Lib.hid HG
  have KH := Lib.hid HH
  clear HG HH
  have t1 : ((a0_X.tmod 500) * 2).tdiv 2 = (a0_X.tmod 500) := Int.mul_tdiv_cancel _ (by omega)
  have t2 : ((a0_Y.tmod 500) * 2).tdiv 2 = (a0_Y.tmod 500) := Int.mul_tdiv_cancel _ (by omega)
  have t3 : (-((a0_X.tmod 500) * 2)).tdiv 2 = -(a0_X.tmod 500) := by rw [Int.neg_tdiv, t1]
  have t4 : (-((a0_Y.tmod 500) * 2)).tdiv 2 = -(a0_Y.tmod 500) := by rw [Int.neg_tdiv, t2]
  have hk : (2 * (1 + ((IntKind.u64.wrap a1).tmod 30))).tdiv 2 = 1 + ((IntKind.u64.wrap a1).tmod 30) := Int.mul_tdiv_cancel_left _ (by omega)
  go_enter Try.func4, Try.ntmps4
  go_wp2_with fail
  refine (awake_any _).mono ?_
  rintro e w1 ⟨rfl, hb1⟩
  have hz1 : w.heap.size < w1.heap.size := by have := hb1.size; simp at this; omega
  have c0 : w1.cell? ⟨w.heap.size, 0, none⟩ = some (.int .i64 a0_X) := (hb1.cell (by simp <;> omega)).trans (by simp)
  have c1 : w1.cell? ⟨w.heap.size, 1, none⟩ = some (.int .i64 a0_Y) := (hb1.cell (by simp <;> omega)).trans (by simp)
  have hB1 : Below w.heap.size w w1 := ((Below.refl _ _).alloc (Nat.le_refl _) _).trans (hb1.mono (by simp <;> omega))
  clear hb1
  go_wp2_with fail
  go_wp2_with fail
  refine (KS.out _).mono ?_
  rintro e w' ⟨rfl, rfl⟩
  go_wp2_with fail
  refine (KT.out _).mono ?_
  rintro e w' ⟨rfl, rfl⟩
  go_wp2_with fail
  refine (KG.out _).mono ?_
  rintro e w2 ⟨rfl, hb2⟩
  have hz2 : w1.heap.size < w2.heap.size := by have := hb2.size; simp at this; omega
  have c2 : w2.cell? ⟨w1.heap.size, 0, none⟩ = some (.int .i64 (a0_X.tmod 500 * 2)) := (hb2.cell (by simp <;> omega)).trans (by simp)
  have c3 : w2.cell? ⟨w1.heap.size, 1, none⟩ = some (.int .i64 (a0_Y.tmod 500 * 2)) := (hb2.cell (by simp <;> omega)).trans (by simp)
  have hB2 : Below w.heap.size w w2 := (hB1.alloc (by omega) _).trans (hb2.mono (by simp <;> omega))
  clear hb2 hB1 c0 c1
  go_wp2_with fail
  refine (KH.out _).mono ?_
  rintro e w3 ⟨rfl, hb3⟩
  have hz3 : w2.heap.size + 1 < w3.heap.size := by have := hb3.size; simp at this; omega
  have hz4 : w2.heap.size < w3.heap.size := by omega
  have hz5 : w1.heap.size < w3.heap.size := by omega
  have hB23 : Below w2.heap.size w2 w3 := (((Below.refl _ _).alloc (Nat.le_refl _) _).alloc (by simp) _).trans (hb3.mono (by simp <;> omega))
  have c2' : w3.cell? ⟨w1.heap.size, 0, none⟩ = some (.int .i64 (a0_X.tmod 500 * 2)) := (hB23.cell hz2).trans c2
  have c3' : w3.cell? ⟨w1.heap.size, 1, none⟩ = some (.int .i64 (a0_Y.tmod 500 * 2)) := (hB23.cell hz2).trans c3
  have d0 : w3.cell? ⟨w2.heap.size, 0, none⟩ = some (.int .i64 (a0_X.tmod 500)) := (hb3.cell (by simp <;> omega)).trans (by simp)
  have d1 : w3.cell? ⟨w2.heap.size, 1, none⟩ = some (.int .i64 (a0_Y.tmod 500)) := (hb3.cell (by simp <;> omega)).trans (by simp)
  have d2 : w3.cell? ⟨w2.heap.size + 1, 0, none⟩ = some (.int .i64 (-(a0_X.tmod 500))) := (hb3.cell (by simp <;> omega)).trans (by simp)
  have d3 : w3.cell? ⟨w2.heap.size + 1, 1, none⟩ = some (.int .i64 (-(a0_Y.tmod 500))) := (hb3.cell (by simp <;> omega)).trans (by simp)
  have hB3 : Below w.heap.size w w3 := hB2.trans (hB23.mono (by omega))
  clear hb3 hB23 hB2 c2 c3
  go_wp2_with fail
  go_ret
  exact ⟨rfl, (hB3.alloc (by omega) _).alloc (by simp <;> omega) _⟩

end Go.Proofs.Ytahnfecohdflnaa
