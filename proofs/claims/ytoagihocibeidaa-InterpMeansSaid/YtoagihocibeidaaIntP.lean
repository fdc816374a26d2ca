/- Plain laws on samples between samples: one value near by, rows for columns, even ramps. No function of the program. -/
import Derived.Test.YtoagihocibeidaaIntA
namespace Go.Proofs.Ytoagihocibeidaa
open Go.RowKit
set_option linter.unusedVariables false

section
variable {A : Int → Int → Int} {x y c : Int} (hA : ∀ i j : Int, -2 ≤ i ∧ i ≤ 3 → -2 ≤ j ∧ j ≤ 3 → A (x + i) (y + j) = c) (hc : 0 ≤ c ∧ c ≤ 255)
include hA hc
omit hc in
theorem near_acr (j : Int) (hj : -2 ≤ j ∧ j ≤ 3) : acr A x (y + j) = 32 * c := by
  unfold acr tap
  simp only []
  rw [hA (-2) j (by omega) hj, hA (-1) j (by omega) hj, hA 0 j (by omega) hj, hA 1 j (by omega) hj, hA 2 j (by omega) hj, hA 3 j (by omega) hj]
  omega
omit hc in
theorem near_dwn (i : Int) (hi : -2 ≤ i ∧ i ≤ 3) : dwn A (x + i) y = 32 * c := by
  unfold dwn tap
  simp only []
  rw [hA i (-2) hi (by omega), hA i (-1) hi (by omega), hA i 0 hi (by omega), hA i 1 hi (by omega), hA i 2 hi (by omega), hA i 3 hi (by omega)]
  omega
theorem near_kd (k : Nat) : kd A k x y = c := by
  have a0 := near_acr hA 0 (by omega)
  have a1 := near_acr hA 1 (by omega)
  have d0 := near_dwn hA 0 (by omega)
  have d1 := near_dwn hA 1 (by omega)
  have g0 := hA 0 0 (by omega) (by omega)
  have g1 := hA 1 0 (by omega) (by omega)
  have g2 := hA 0 1 (by omega) (by omega)
  rw [Int.add_zero] at a0 d0
  rw [Int.add_zero, Int.add_zero] at g0
  rw [Int.add_zero] at g1 g2
  have j : tap (fun i => acr A x (y + i)) = 1024 * c := by
    unfold tap
    simp only []
    rw [near_acr hA (-2) (by omega), near_acr hA (-1) (by omega), near_acr hA 0 (by omega), near_acr hA 1 (by omega), near_acr hA 2 (by omega), near_acr hA 3 (by omega)]
    omega
  unfold kd hB hH hJ clip
  rw [a0, a1, d0, d1, g0, g1, g2, j]
  repeat' split
  all_goals omega
theorem near_lum (d : Nat) : lumV A d x y = c := by
  unfold lumV
  rw [near_kd hA hc, near_kd hA hc]
  split <;> omega
omit hc in
theorem near_chr (dx dy : Int) (hx : 0 ≤ dx ∧ dx ≤ 7) (hy : 0 ≤ dy ∧ dy ≤ 7) : chrV A dx dy x y = c := by
  have g0 := hA 0 0 (by omega) (by omega)
  have g1 := hA 1 0 (by omega) (by omega)
  have g2 := hA 0 1 (by omega) (by omega)
  have g3 := hA 1 1 (by omega) (by omega)
  rw [Int.add_zero, Int.add_zero] at g0
  rw [Int.add_zero] at g1 g2
  unfold chrV
  rw [g0, g1, g2, g3]
  have e1 : (8 - dx) * c + dx * c = 8 * c := by rw [← Int.add_mul]; congr 1; omega
  have e2 : (8 - dy) * (8 * c) + dy * (8 * c) = 8 * (8 * c) := by rw [← Int.add_mul]; congr 1; omega
  rw [e1, e2]
  omega
end

/-- rows for columns -/
def trn (A : Int → Int → Int) : Int → Int → Int := fun u v => A v u
theorem trn_acr (A : Int → Int → Int) (x y : Int) : acr (trn A) y x = dwn A x y := rfl
theorem trn_dwn (A : Int → Int → Int) (x y : Int) : dwn (trn A) y x = acr A x y := rfl
theorem trn_hB (A : Int → Int → Int) (x y : Int) : hB (trn A) y x = hH A x y := rfl
theorem trn_hH (A : Int → Int → Int) (x y : Int) : hH (trn A) y x = hB A x y := rfl
theorem trn_hJ (A : Int → Int → Int) (x y : Int) : hJ (trn A) y x = hJ A x y := by
  unfold hJ
  congr 3
  unfold acr tap trn
  simp only []
  omega
def swp (d : Nat) : Nat := d / 4 + 4 * (d % 4)
theorem trn_lum (A : Int → Int → Int) (d : Nat) (hd : d < 16) (x y : Int) : lumV (trn A) (swp d) y x = lumV A d x y := by
  have hc : d = 0 ∨ d = 1 ∨ d = 2 ∨ d = 3 ∨ d = 4 ∨ d = 5 ∨ d = 6 ∨ d = 7 ∨ d = 8 ∨ d = 9 ∨ d = 10 ∨ d = 11 ∨ d = 12 ∨ d = 13 ∨ d = 14 ∨ d = 15 := by omega
  rcases hc with rfl | rfl | rfl | rfl | rfl | rfl | rfl | rfl | rfl | rfl | rfl | rfl | rfl | rfl | rfl | rfl
  all_goals
    simp only [lumV, swp, kA, kB, kd, List.getD_cons_succ, List.getD_cons_zero, Nat.reduceDiv, Nat.reduceMod, Nat.reduceAdd, Nat.reduceMul, Nat.reduceEqDiff, if_true, if_false, trn_hB, trn_hH, trn_hJ]
    try rfl
    try omega
    try (simp only [trn]; omega)
theorem trn_chr (A : Int → Int → Int) (dx dy x y : Int) : chrV (trn A) dy dx y x = chrV A dx dy x y := by
  unfold chrV trn
  congr 2
  generalize A x y = a
  generalize A (x + 1) y = b
  generalize A x (y + 1) = c
  generalize A (x + 1) (y + 1) = d
  simp only [Int.sub_mul, Int.mul_add, Int.mul_sub]
  have e1 : dx * (dy * a) = dy * (dx * a) := by rw [← Int.mul_assoc, Int.mul_comm dx, Int.mul_assoc]
  have e2 : dx * (dy * b) = dy * (dx * b) := by rw [← Int.mul_assoc, Int.mul_comm dx, Int.mul_assoc]
  have e3 : dx * (dy * c) = dy * (dx * c) := by rw [← Int.mul_assoc, Int.mul_comm dx, Int.mul_assoc]
  have e4 : dx * (dy * d) = dy * (dx * d) := by rw [← Int.mul_assoc, Int.mul_comm dx, Int.mul_assoc]
  have m1 : dx * (8 * a) = 8 * (dx * a) := by rw [← Int.mul_assoc, Int.mul_comm dx, Int.mul_assoc]
  have m2 : dx * (8 * b) = 8 * (dx * b) := by rw [← Int.mul_assoc, Int.mul_comm dx, Int.mul_assoc]
  have m4 : dy * (8 * a) = 8 * (dy * a) := by rw [← Int.mul_assoc, Int.mul_comm dy, Int.mul_assoc]
  have m6 : dy * (8 * c) = 8 * (dy * c) := by rw [← Int.mul_assoc, Int.mul_comm dy, Int.mul_assoc]
  simp only [e1, e2, e3, e4, m1, m2, m4, m6]
  omega

section
variable {A : Int → Int → Int} {x y v d : Int} (hA : ∀ i j : Int, -2 ≤ i ∧ i ≤ 3 → -2 ≤ j ∧ j ≤ 3 → A (x + i) (y + j) = v + i * d) (hv : 0 ≤ v ∧ v ≤ 190) (hd : d = 2 ∨ d = 4 ∨ d = 6 ∨ d = 8)
include hA hv hd
theorem ramp_2 : lumV A 2 x y = v + d / 2 := by
  show hB A x y = v + d / 2
  have h := fun i hi => hA i 0 hi (by omega)
  simp only [Int.add_zero] at h
  unfold hB acr tap clip
  simp only []
  rw [h (-2) (by omega), h (-1) (by omega), h 1 (by omega), h 2 (by omega), h 3 (by omega), h 0 (by omega)]
  rcases hd with rfl | rfl | rfl | rfl <;> omega
omit hd in
theorem ramp_8 : lumV A 8 x y = v := by
  show hH A x y = v
  have h := fun j hj => hA 0 j (by omega) hj
  simp only [Int.add_zero, Int.zero_mul] at h
  unfold hH dwn tap clip
  simp only []
  rw [h (-2) (by omega), h (-1) (by omega), h 1 (by omega), h 2 (by omega), h 3 (by omega), h 0 (by omega)]
  omega
omit hv in
theorem ramp_c : chrV A 4 3 x y = v + d / 2 := by
  have g0 := hA 0 0 (by omega) (by omega)
  have g1 := hA 1 0 (by omega) (by omega)
  have g2 := hA 0 1 (by omega) (by omega)
  have g3 := hA 1 1 (by omega) (by omega)
  rw [Int.add_zero, Int.add_zero] at g0
  rw [Int.add_zero] at g1 g2
  unfold chrV
  rw [g0, g1, g2, g3]
  rcases hd with rfl | rfl | rfl | rfl <;> omega
end

end Go.Proofs.Ytoagihocibeidaa
