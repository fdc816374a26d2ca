/- Pictures in coding's row: the plain side, no function of the program. -/
import Derived.Test.YtoniejneoibpoaaSlice
namespace Go.Proofs.Ytoniejneoibpoaa
open Go.RowKit
set_option linter.unusedVariables false

/-- One planned picture: its frame, its type, whether it is a reference, a key, its counter. -/
structure Pic where
  frame : Nat
  type : Nat
  ref : Bool
  key : Bool
  poc : Nat
deriving DecidableEq

def Pic.cells (p : Pic) : List Value := [.int .i64 p.frame, .int .i64 p.type, .bool p.ref, .bool p.key, .int .i64 p.poc]
def cellsOf (l : List Pic) : List Value := l.flatMap Pic.cells

/-- f: the group's first frame; j: the place in it. -/
def picI (f : Nat) : Pic := ⟨f, 2, true, true, 0⟩
def picP (f j : Nat) : Pic := ⟨f + j, 0, true, false, 2 * j⟩
def picB (f j : Nat) : Pic := ⟨f + j, 1, false, false, 2 * j⟩
/-- those between: places j, j + 1, .. -/
def betw (f : Nat) : Nat → Nat → List Pic
  | 0, _ => []
  | n + 1, j => picB f j :: betw f n (j + 1)
/-- a group's pictures from place a on; b: how many between; g: the group's length -/
def mids (f b g : Nat) : Nat → Nat → List Pic
  | 0, _ => []
  | u + 1, a => if a < g then picP f (min (a + b) (g - 1)) :: (betw f (min (a + b) (g - 1) - a) a ++ mids f b g u (a + b + 1)) else []
/-- all pictures from frame f on; p: the period; m: how many frames -/
def rows (p b m : Nat) : Nat → Nat → List Pic
  | 0, _ => []
  | u + 1, f => if f < m then picI f :: (mids f b (min p (m - f)) 8 1 ++ rows p b m u (f + p)) else []
def planned (p b m : Nat) : List Pic := rows p b m 65 0

theorem cellsOf_length (l : List Pic) : (cellsOf l).length = l.length * 5 := by
  induction l with
  | nil => rfl
  | cons p l ih =>
    show (p.cells ++ cellsOf l).length = _
    rw [List.length_append, ih]
    simp [Pic.cells]
    omega
theorem cellsOf_append (a b : List Pic) : cellsOf (a ++ b) = cellsOf a ++ cellsOf b := List.flatMap_append
theorem cellsOf_one (p : Pic) : cellsOf [p] = p.cells := by simp [cellsOf]
theorem betw_len (f n j : Nat) : (betw f n j).length = n := by
  induction n generalizing j with
  | zero => rfl
  | succ n ih => simp [betw, ih]
theorem mids_len (f b g u a : Nat) : (mids f b g u a).length ≤ g - a := by
  induction u generalizing a with
  | zero => simp [mids]
  | succ u ih =>
    unfold mids
    split
    · rename_i h
      have := ih (a + b + 1)
      simp only [List.length_cons, List.length_append, betw_len]
      omega
    · simp
theorem rows_len (p b m u f : Nat) (hp : 1 ≤ p) : (rows p b m u f).length ≤ m - f := by
  induction u generalizing f with
  | zero => simp [rows]
  | succ u ih =>
    unfold rows
    split
    · rename_i h
      have h1 := ih (f + p)
      have h2 := mids_len f b (min p (m - f)) 8 1
      simp only [List.length_cons, List.length_append]
      omega
    · simp
theorem planned_len (p b m : Nat) (hp : 1 ≤ p) : (planned p b m).length ≤ m := by
  have := rows_len p b m 65 0 hp
  unfold planned
  omega

/-- a configuration's numbers in their row -/
def mayB (wide high refs qp bs period slices poc bits : Int) : Bool :=
  decide (1 ≤ wide ∧ wide ≤ 8) && (decide (1 ≤ high ∧ high ≤ 8) && (decide (1 ≤ refs ∧ refs ≤ 4) && (decide (0 ≤ qp ∧ qp ≤ 51) && (decide (0 ≤ bs ∧ bs ≤ 2) && (decide (1 ≤ period ∧ period ≤ 7) &&
    (decide (poc = 0 ∨ poc = 2) && (decide (bs = 0 ∨ (refs ≠ 1 ∧ poc ≠ 2)) && (decide (1 ≤ slices ∧ slices ≤ min 8 (wide * high)) && decide (0 ≤ bits ∧ bits ≤ 100000000)))))))))
theorem mayB_iff {wide high refs qp bs period slices poc bits : Int} : mayB wide high refs qp bs period slices poc bits = true ↔
    (1 ≤ wide ∧ wide ≤ 8) ∧ (1 ≤ high ∧ high ≤ 8) ∧ (1 ≤ refs ∧ refs ≤ 4) ∧ (0 ≤ qp ∧ qp ≤ 51) ∧ (0 ≤ bs ∧ bs ≤ 2) ∧ (1 ≤ period ∧ period ≤ 7) ∧ (poc = 0 ∨ poc = 2) ∧ (bs = 0 ∨ (refs ≠ 1 ∧ poc ≠ 2)) ∧ (1 ≤ slices ∧ slices ≤ min 8 (wide * high)) ∧ 0 ≤ bits ∧ bits ≤ 100000000 := by
  simp only [mayB, Bool.and_eq_true, decide_eq_true_iff]

end Go.Proofs.Ytoniejneoibpoaa
