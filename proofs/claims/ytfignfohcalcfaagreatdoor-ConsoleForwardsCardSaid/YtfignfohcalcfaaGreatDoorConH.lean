/- xform: rows, columns, plainly. No function of the program. -/
import Derived.Test.YtfignfohcalcfaaGreatDoorConG
namespace Go.Proofs.YtfignfohcalcfaaGreatDoor
open Go.RowKit
set_option linter.unusedVariables false
set_option linter.unusedSimpArgs false

def rowL (l : List Int) (i : Nat) : List Int := (List.range 16).map fun j => if j < 4 * i then g16 (rowsF l) j else g16 l j
def colL (l : List Int) (i k : Nat) : List Int := (List.range 16).map fun j => if j % 4 < i ∨ (j % 4 = i ∧ j / 4 < k) then g16 (colsF l) j else g16 l j
theorem rowL_length (l : List Int) (i : Nat) : (rowL l i).length = 16 := by simp [rowL]
theorem colL_length (l : List Int) (i k : Nat) : (colL l i k).length = 16 := by simp [colL]
theorem rowsF_length (l : List Int) : (rowsF l).length = 16 := rfl
theorem colsF_length (l : List Int) : (colsF l).length = 16 := by simp [colsF]
theorem rowL_get (l : List Int) (i j : Nat) (h0 : 4 * i ≤ j) (h1 : j < 16) : g16 (rowL l i) j = g16 l j := by
  unfold rowL
  rw [g16_range _ _ _ h1, if_neg (by omega)]
theorem rowL_zero (l : List Int) (hl : l.length = 16) : rowL l 0 = l := by
  refine g16_ext (by rw [rowL_length, hl]) fun j hj => ?_
  rw [rowL_length] at hj
  exact rowL_get l 0 j (by omega) hj
theorem rowL_full (l : List Int) : rowL l 4 = rowsF l := by
  refine g16_ext (by rw [rowL_length, rowsF_length]) fun j hj => ?_
  rw [rowL_length] at hj
  unfold rowL
  rw [g16_range _ _ _ hj, if_pos (by omega)]
theorem rowL_cut (l : List Int) (i : Nat) (hi : i < 4) : ((iA (rowL l i)).toList.take (4 * i) ++ ((iA (fwd4 (g16 l (4 * i)) (g16 l (4 * i + 1)) (g16 l (4 * i + 2)) (g16 l (4 * i + 3)))).toList ++ (iA (rowL l i)).toList.drop (4 * i + 4))).toArray = iA (rowL l (i + 1)) := by
  match i, hi with
  | 0, _ => rfl
  | 1, _ => rfl
  | 2, _ => rfl
  | 3, _ => rfl
theorem colL_get (l : List Int) (i j : Nat) (h0 : j % 4 = i) (h1 : j < 16) : g16 (colL l i 0) j = g16 l j := by
  unfold colL
  rw [g16_range _ _ _ h1, if_neg (by omega)]
theorem colL_zero (l : List Int) (hl : l.length = 16) : colL l 0 0 = l := by
  refine g16_ext (by rw [colL_length, hl]) fun j hj => ?_
  rw [colL_length] at hj
  unfold colL
  rw [g16_range _ _ _ hj, if_neg (by omega)]
theorem colL_full (l : List Int) : colL l 4 0 = colsF l := by
  refine g16_ext (by rw [colL_length, colsF_length]) fun j hj => ?_
  rw [colL_length] at hj
  unfold colL
  rw [g16_range _ _ _ hj, if_pos (by omega)]
theorem colL_next (l : List Int) (i : Nat) : colL l i 4 = colL l (i + 1) 0 := by
  refine g16_ext (by rw [colL_length, colL_length]) fun j hj => ?_
  rw [colL_length] at hj
  unfold colL
  rw [g16_range _ _ _ hj, g16_range _ _ _ hj]
  by_cases h : j % 4 < i ∨ (j % 4 = i ∧ j / 4 < 4)
  · rw [if_pos h, if_pos (by omega)]
  · rw [if_neg h, if_neg (by omega)]
theorem colL_set (l : List Int) (i k : Nat) (hi : i < 4) (hk : k < 4) : (colL l i k).set (4 * k + i) (g16 (fwd4 (g16 l i) (g16 l (4 + i)) (g16 l (8 + i)) (g16 l (12 + i))) k) = colL l i (k + 1) := by
  refine g16_ext (by rw [List.length_set, colL_length, colL_length]) fun j hj => ?_
  rw [List.length_set, colL_length] at hj
  rw [g16_set _ _ _ _ (by rw [colL_length]; omega)]
  unfold colL
  rw [g16_range _ _ _ hj, g16_range _ _ _ hj]
  by_cases h : 4 * k + i = j
  · rw [if_pos h, if_pos (by omega)]
    unfold colsF
    rw [g16_range _ _ _ hj, show j % 4 = i by omega, show j / 4 = k by omega]
  · rw [if_neg h]
    by_cases h2 : j % 4 < i ∨ (j % 4 = i ∧ j / 4 < k)
    · rw [if_pos h2, if_pos (by omega)]
    · rw [if_neg h2, if_neg (by omega)]
theorem rowsF_bd (l : List Int) (h : ∀ j, j < 16 → Sm 1048576 (g16 l j)) (j : Nat) (hj : j < 16) : Sm 20000000 (g16 (rowsF l) j) := by
  have key : ∀ i, i < 4 → ∀ x ∈ fwd4 (g16 l (4 * i)) (g16 l (4 * i + 1)) (g16 l (4 * i + 2)) (g16 l (4 * i + 3)), Sm 20000000 x := by
    intro i hi x hx
    have h0 := h (4 * i) (by omega)
    have h1 := h (4 * i + 1) (by omega)
    have h2 := h (4 * i + 2) (by omega)
    have h3 := h (4 * i + 3) (by omega)
    unfold Sm at *
    simp [fwd4] at hx
    rcases hx with rfl | rfl | rfl | rfl <;> omega
  have hm : ∀ x ∈ rowsF l, Sm 20000000 x := by
    intro x hx
    unfold rowsF at hx
    obtain ⟨i, hi, hx⟩ := List.mem_flatMap.1 hx
    exact key i (List.mem_range.1 hi) x hx
  have hj2 : j < (rowsF l).length := by rw [rowsF_length]; exact hj
  have : g16 (rowsF l) j = (rowsF l)[j] := by simp [g16, hj2]
  rw [this]
  exact hm _ (List.getElem_mem hj2)
theorem clip_bd (l : List Int) (j : Nat) (hl : l.length = 16) (hj : j < 16) : Sm 1048576 (g16 (l.map (clipN (-1048576) · 1048576)) j) := by
  rw [← clL_full l hl]
  unfold clL
  rw [g16_range _ _ _ hj, if_pos hj]
  unfold Sm clipN
  omega
end Go.Proofs.YtfignfohcalcfaaGreatDoor
