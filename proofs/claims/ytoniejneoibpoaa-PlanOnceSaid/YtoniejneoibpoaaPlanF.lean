/- Plan: every configuration, however many frames. -/
import Derived.Test.YtoniejneoibpoaaPlanD
namespace Go.Proofs.Ytoniejneoibpoaa
open Go.RowKit
set_option linter.unusedVariables false
set_option linter.unusedSimpArgs false
attribute [local go_sem] ite_max ite_min

/-- What a call of Plan's kind leaves: the row of pictures, and a code. -/
def Row (w : World) (L : List Pic) (c : Int) (e : Ending) (w' : World) : Prop :=
  ∃ v, e = .returned (.tuple #[v, .int .i64 c]) ∧ w'.ownsRow w.heap.size 37 5 v L.length (cellsOf L) ∧ Below w.heap.size w w'

theorem row_no (w w' : World) (e : Ending) (h : e = .returned (.tuple #[.slice none 0 0, .int .i64 2500]) ∧ Below w.heap.size w w') : Row w [] 2500 e w' := by
  obtain ⟨rfl, hb⟩ := h
  exact ⟨_, rfl, World.ownsRow_nil _ _ _ _, hb⟩

set_option maxRecDepth 100000 in
set_option maxHeartbeats 1600000 in
theorem plan_no (wide high refs qp bs period : Int) (cabac : Bool) (slices : Int) (pcm deblock : Bool) (poc bits many : Int) (w : World)
    (h : mayB wide high refs qp bs period slices poc bits = false ∨ (mayB wide high refs qp bs period slices poc bits = true ∧ ¬ (0 ≤ many ∧ many ≤ 64))) :
    Calls Try.prog 19 #[.agg (cfgV wide high refs qp bs period cabac slices pcm deblock poc bits), .int .i64 many] w (Row w [] 2500) := by
  refine Calls.mono (R := fun e w' => e = .returned (.tuple #[.slice none 0 0, .int .i64 2500]) ∧ Below w.heap.size w w') ?_ (fun e w' q => row_no w w' e q)
  have hc := may_any wide high refs qp bs period cabac slices pcm deblock poc bits
  unfold cfgV at hc ⊢
  have HC := Lib.hid hc
  clear hc
  rcases h with h | ⟨h, h2⟩
  · go_enter Try.func19, Try.ntmps19
    go_wp2_with fail
    refine (HC.out _).mono ?_
    rw [h]
    rintro e w1 ⟨rfl, hb⟩
    have HB := Lib.hid (((Below.refl w.heap.size w).alloc (Nat.le_refl _) _).trans (hb.mono (by simp)))
    clear hb h
    go_wp2_with fail
    go_ret2
    exact ⟨rfl, HB.out⟩
  · go_enter Try.func19, Try.ntmps19
    go_wp2_with fail
    refine (HC.out _).mono ?_
    rw [h]
    rintro e w1 ⟨rfl, hb⟩
    have HB := Lib.hid (((Below.refl w.heap.size w).alloc (Nat.le_refl _) _).trans (hb.mono (by simp)))
    clear hb h
    go_wp2_with fail
    refine (in_no _ _ _ _ h2).mono ?_
    rintro e w' ⟨rfl, rfl⟩
    go_wp2_with fail
    go_ret2
    exact ⟨rfl, HB.out⟩

end Go.Proofs.Ytoniejneoibpoaa
