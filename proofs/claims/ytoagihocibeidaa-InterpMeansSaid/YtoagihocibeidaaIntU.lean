/- The statement InterpMeans: the walk. -/
import Derived.Test.YtoagihocibeidaaIntT
namespace Go.Proofs.Ytoagihocibeidaa
open Go.RowKit
set_option linter.unusedVariables false
set_option linter.unusedSimpArgs false
attribute [local go_sem] ite_max ite_min and_3 and_7 and_63

def pairsL : List Int := [1, 0, 0, 0, 2, 0, 3, 0, 2, 0, 4, 0, 0, 1, 0, 0, 0, 2, 0, 3, 0, 2, 0, 4, 2, 1, 2, 0, 2, 2, 2, 3, 2, 2, 2, 4, 1, 2, 0, 2, 2, 2, 3, 2, 2, 2, 4, 2, 1, 1, 2, 0, 0, 2, 3, 1, 2, 0, 4, 2, 1, 3, 0, 2, 2, 4, 3, 3, 2, 4, 4, 2]
def pr (k j : Nat) : Int := pairsL.getD (k * 6 + j) 0
theorem pr_bd (k j : Nat) : 0 ≤ pr k j ∧ pr k j ≤ 4 := by
  have h : ∀ m : Fin 72, 0 ≤ pairsL.getD m.val 0 ∧ pairsL.getD m.val 0 ≤ 4 := by decide +kernel
  unfold pr
  by_cases hm : k * 6 + j < 72
  · exact h ⟨_, hm⟩
  · rw [List.getD_eq_getElem?_getD, List.getElem?_eq_none (by show 72 ≤ _; omega)]
    simp

theorem mean_law (s : Nat → Int) (a b : Int) (ha : 0 ≤ a ∧ a ≤ 3) (hb : 0 ≤ b ∧ b ≤ 3) (i : Nat) (hi : i < 12) (k : Nat) :
    lumF s 12 12 (4 * a + pr i 0) (4 * b + pr i 1) 4 k = (lumF s 12 12 (4 * a + pr i 2) (4 * b + pr i 3) 4 k + lumF s 12 12 (4 * a + pr i 4) (4 * b + pr i 5) 4 k + 1) / 2 := by
  obtain ⟨X, hX⟩ : ∃ X, X = a + ((k % 4 : Nat) : Int) := ⟨_, rfl⟩
  obtain ⟨Y, hY⟩ : ∃ Y, Y = b + ((k / 4 : Nat) : Int) := ⟨_, rfl⟩
  have key : ∀ (u v : Int) (d : Nat) (p q : Int), dOf (4 * a + u) (4 * b + v) = d → (4 * a + u) / 4 = a + p → (4 * b + v) / 4 = b + q → lumF s 12 12 (4 * a + u) (4 * b + v) 4 k = lumV (atS s 12 12) d (X + p) (Y + q) := fun u v d p q h1 h2 h3 => by
    unfold lumF
    rw [h1, h2, h3, hX, hY]
    congr 1 <;> omega
  have hc : i = 0 ∨ i = 1 ∨ i = 2 ∨ i = 3 ∨ i = 4 ∨ i = 5 ∨ i = 6 ∨ i = 7 ∨ i = 8 ∨ i = 9 ∨ i = 10 ∨ i = 11 := by omega
  generalize atS s 12 12 = A at *
  rcases hc with rfl | rfl | rfl | rfl | rfl | rfl | rfl | rfl | rfl | rfl | rfl | rfl
  · show lumF s 12 12 (4 * a + 1) (4 * b + 0) 4 k = (lumF s 12 12 (4 * a + 0) (4 * b + 0) 4 k + lumF s 12 12 (4 * a + 2) (4 * b + 0) 4 k + 1) / 2
    rw [key 1 0 1 0 0 (by unfold dOf; omega) (by omega) (by omega),
      key 0 0 0 0 0 (by unfold dOf; omega) (by omega) (by omega),
      key 2 0 2 0 0 (by unfold dOf; omega) (by omega) (by omega)]
    simp only [Int.add_zero]
    rfl
  · show lumF s 12 12 (4 * a + 3) (4 * b + 0) 4 k = (lumF s 12 12 (4 * a + 2) (4 * b + 0) 4 k + lumF s 12 12 (4 * a + 4) (4 * b + 0) 4 k + 1) / 2
    rw [key 3 0 3 0 0 (by unfold dOf; omega) (by omega) (by omega),
      key 2 0 2 0 0 (by unfold dOf; omega) (by omega) (by omega),
      key 4 0 0 1 0 (by unfold dOf; omega) (by omega) (by omega)]
    simp only [Int.add_zero]
    rfl
  · show lumF s 12 12 (4 * a + 0) (4 * b + 1) 4 k = (lumF s 12 12 (4 * a + 0) (4 * b + 0) 4 k + lumF s 12 12 (4 * a + 0) (4 * b + 2) 4 k + 1) / 2
    rw [key 0 1 4 0 0 (by unfold dOf; omega) (by omega) (by omega),
      key 0 0 0 0 0 (by unfold dOf; omega) (by omega) (by omega),
      key 0 2 8 0 0 (by unfold dOf; omega) (by omega) (by omega)]
    simp only [Int.add_zero]
    rfl
  · show lumF s 12 12 (4 * a + 0) (4 * b + 3) 4 k = (lumF s 12 12 (4 * a + 0) (4 * b + 2) 4 k + lumF s 12 12 (4 * a + 0) (4 * b + 4) 4 k + 1) / 2
    rw [key 0 3 12 0 0 (by unfold dOf; omega) (by omega) (by omega),
      key 0 2 8 0 0 (by unfold dOf; omega) (by omega) (by omega),
      key 0 4 0 0 1 (by unfold dOf; omega) (by omega) (by omega)]
    simp only [Int.add_zero]
    rfl
  · show lumF s 12 12 (4 * a + 2) (4 * b + 1) 4 k = (lumF s 12 12 (4 * a + 2) (4 * b + 0) 4 k + lumF s 12 12 (4 * a + 2) (4 * b + 2) 4 k + 1) / 2
    rw [key 2 1 6 0 0 (by unfold dOf; omega) (by omega) (by omega),
      key 2 0 2 0 0 (by unfold dOf; omega) (by omega) (by omega),
      key 2 2 10 0 0 (by unfold dOf; omega) (by omega) (by omega)]
    simp only [Int.add_zero]
    rfl
  · show lumF s 12 12 (4 * a + 2) (4 * b + 3) 4 k = (lumF s 12 12 (4 * a + 2) (4 * b + 2) 4 k + lumF s 12 12 (4 * a + 2) (4 * b + 4) 4 k + 1) / 2
    rw [key 2 3 14 0 0 (by unfold dOf; omega) (by omega) (by omega),
      key 2 2 10 0 0 (by unfold dOf; omega) (by omega) (by omega),
      key 2 4 2 0 1 (by unfold dOf; omega) (by omega) (by omega)]
    simp only [Int.add_zero]
    rfl
  · show lumF s 12 12 (4 * a + 1) (4 * b + 2) 4 k = (lumF s 12 12 (4 * a + 0) (4 * b + 2) 4 k + lumF s 12 12 (4 * a + 2) (4 * b + 2) 4 k + 1) / 2
    rw [key 1 2 9 0 0 (by unfold dOf; omega) (by omega) (by omega),
      key 0 2 8 0 0 (by unfold dOf; omega) (by omega) (by omega),
      key 2 2 10 0 0 (by unfold dOf; omega) (by omega) (by omega)]
    simp only [Int.add_zero]
    rfl
  · show lumF s 12 12 (4 * a + 3) (4 * b + 2) 4 k = (lumF s 12 12 (4 * a + 2) (4 * b + 2) 4 k + lumF s 12 12 (4 * a + 4) (4 * b + 2) 4 k + 1) / 2
    rw [key 3 2 11 0 0 (by unfold dOf; omega) (by omega) (by omega),
      key 2 2 10 0 0 (by unfold dOf; omega) (by omega) (by omega),
      key 4 2 8 1 0 (by unfold dOf; omega) (by omega) (by omega)]
    simp only [Int.add_zero]
    rfl
  · show lumF s 12 12 (4 * a + 1) (4 * b + 1) 4 k = (lumF s 12 12 (4 * a + 2) (4 * b + 0) 4 k + lumF s 12 12 (4 * a + 0) (4 * b + 2) 4 k + 1) / 2
    rw [key 1 1 5 0 0 (by unfold dOf; omega) (by omega) (by omega),
      key 2 0 2 0 0 (by unfold dOf; omega) (by omega) (by omega),
      key 0 2 8 0 0 (by unfold dOf; omega) (by omega) (by omega)]
    simp only [Int.add_zero]
    rfl
  · show lumF s 12 12 (4 * a + 3) (4 * b + 1) 4 k = (lumF s 12 12 (4 * a + 2) (4 * b + 0) 4 k + lumF s 12 12 (4 * a + 4) (4 * b + 2) 4 k + 1) / 2
    rw [key 3 1 7 0 0 (by unfold dOf; omega) (by omega) (by omega),
      key 2 0 2 0 0 (by unfold dOf; omega) (by omega) (by omega),
      key 4 2 8 1 0 (by unfold dOf; omega) (by omega) (by omega)]
    simp only [Int.add_zero]
    rfl
  · show lumF s 12 12 (4 * a + 1) (4 * b + 3) 4 k = (lumF s 12 12 (4 * a + 0) (4 * b + 2) 4 k + lumF s 12 12 (4 * a + 2) (4 * b + 4) 4 k + 1) / 2
    rw [key 1 3 13 0 0 (by unfold dOf; omega) (by omega) (by omega),
      key 0 2 8 0 0 (by unfold dOf; omega) (by omega) (by omega),
      key 2 4 2 0 1 (by unfold dOf; omega) (by omega) (by omega)]
    simp only [Int.add_zero]
    rfl
  · show lumF s 12 12 (4 * a + 3) (4 * b + 3) 4 k = (lumF s 12 12 (4 * a + 2) (4 * b + 4) 4 k + lumF s 12 12 (4 * a + 4) (4 * b + 2) 4 k + 1) / 2
    rw [key 3 3 15 0 0 (by unfold dOf; omega) (by omega) (by omega),
      key 2 4 2 0 1 (by unfold dOf; omega) (by omega) (by omega),
      key 4 2 8 1 0 (by unfold dOf; omega) (by omega) (by omega)]
    simp only [Int.add_zero]
    rfl

end Go.Proofs.Ytoagihocibeidaa
