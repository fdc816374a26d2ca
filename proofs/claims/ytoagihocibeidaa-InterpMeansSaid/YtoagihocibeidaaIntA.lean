/- Samples between samples: the plain side. No function of the program. -/
import Derived.Test.YtoagihocibeidaaSlice
namespace Go.Proofs.Ytoagihocibeidaa
open Go.RowKit
set_option linter.unusedVariables false

/-- the nearest place in a row of n -/
def cl (v : Int) (n : Int) : Int := max 0 (min (n - 1) v)
/-- the place of a sample in a plane W wide, H high -/
def atI (W H x y : Int) : Nat := (cl y H * W + cl x W).toNat
/-- the sample at a place, the nearest beyond the border -/
def atS (s : Nat → Int) (W H x y : Int) : Int := s (atI W H x y)

theorem cl_bd (v n : Int) (hn : 1 ≤ n) : 0 ≤ cl v n ∧ cl v n ≤ n - 1 := by unfold cl; omega
theorem prod_le {a b A B : Int} (ha : 0 ≤ a) (hb : 0 ≤ b) (h1 : a ≤ A) (h2 : b ≤ B) : 0 ≤ a * b ∧ a * b ≤ A * B :=
  ⟨Int.mul_nonneg ha hb, Int.mul_le_mul h1 h2 hb (by omega)⟩
theorem atI_bd (W H x y : Int) (hW : 1 ≤ W ∧ W ≤ 128) (hH : 1 ≤ H ∧ H ≤ 128) : 0 ≤ cl y H * W + cl x W ∧ cl y H * W + cl x W < W * H ∧ W * H ≤ 16384 ∧ 0 ≤ cl y H * W ∧ cl y H * W ≤ 16384 := by
  have h1 := cl_bd x W hW.1
  have h2 := cl_bd y H hH.1
  have h3 := prod_le h2.1 (show 0 ≤ W by omega) h2.2 (Int.le_refl W)
  have h4 := prod_le (show 0 ≤ W by omega) (show 0 ≤ H by omega) hW.2 hH.2
  have h5 : (H - 1) * W = W * H - W := by rw [Int.sub_mul, Int.one_mul, Int.mul_comm]
  omega

/-- six neighbours summed -/
def tap (f : Int → Int) : Int := f (-2) - 5 * f (-1) + 20 * f 0 + 20 * f 1 - 5 * f 2 + f 3
def clip (x : Int) : Int := min (max x 0) 255

section
variable (A : Int → Int → Int)
def acr (x y : Int) : Int := tap fun i => A (x + i) y
def dwn (x y : Int) : Int := tap fun i => A x (y + i)
def hB (x y : Int) : Int := clip ((acr A x y + 16) / 32)
def hH (x y : Int) : Int := clip ((dwn A x y + 16) / 32)
def hJ (x y : Int) : Int := clip ((tap (fun i => acr A x (y + i)) + 512) / 1024)
/-- a sample by its kind: a letter's code -/
def kd (k : Nat) (x y : Int) : Int :=
  if k = 98 then hB A x y else if k = 104 then hH A x y else if k = 106 then hJ A x y else if k = 109 then hH A (x + 1) y
  else if k = 115 then hB A x (y + 1) else if k = 114 then A (x + 1) y else if k = 108 then A x (y + 1) else A x y
end
/-- the two kinds of a quarter place, by dx + 4 dy -/
def kA (d : Nat) : Nat := [71, 71, 98, 98, 71, 98, 98, 98, 104, 104, 106, 106, 104, 104, 106, 115].getD d 71
def kB (d : Nat) : Nat := [71, 98, 98, 114, 104, 104, 106, 109, 104, 106, 106, 109, 108, 115, 115, 109].getD d 71
/-- luma at the quarter place d of a place -/
def lumV (A : Int → Int → Int) (d : Nat) (x y : Int) : Int := if kB d = kA d then kd A (kA d) x y else (kd A (kA d) x y + kd A (kB d) x y + 1) / 2
/-- chroma at the eighth places dx, dy of a place -/
def chrV (A : Int → Int → Int) (dx dy : Int) (x y : Int) : Int := ((8 - dy) * ((8 - dx) * A x y + dx * A (x + 1) y) + dy * ((8 - dx) * A x (y + 1) + dx * A (x + 1) (y + 1)) + 32) / 64

theorem tap_bd (f : Int → Int) (lo hi : Int) (h : ∀ i, lo ≤ f i ∧ f i ≤ hi) : 42 * lo - 10 * hi ≤ tap f ∧ tap f ≤ 42 * hi - 10 * lo := by
  unfold tap
  have := h (-2); have := h (-1); have := h 0; have := h 1; have := h 2; have := h 3
  omega
section
variable {A : Int → Int → Int} (hA : ∀ x y, 0 ≤ A x y ∧ A x y ≤ 255)
include hA
theorem acr_bd (x y : Int) : -2550 ≤ acr A x y ∧ acr A x y ≤ 10710 := by
  have := tap_bd (fun i => A (x + i) y) 0 255 (fun i => hA _ _)
  unfold acr
  omega
theorem dwn_bd (x y : Int) : -2550 ≤ dwn A x y ∧ dwn A x y ≤ 10710 := by
  have := tap_bd (fun i => A x (y + i)) 0 255 (fun i => hA _ _)
  unfold dwn
  omega
theorem tt_bd (x y : Int) : -300000 ≤ tap (fun i => acr A x (y + i)) ∧ tap (fun i => acr A x (y + i)) ≤ 500000 := by
  have := tap_bd (fun i => acr A x (y + i)) (-2550) 10710 (fun i => acr_bd hA _ _)
  omega
omit hA in
theorem clip_bd (x : Int) : 0 ≤ clip x ∧ clip x ≤ 255 := by unfold clip; omega
theorem kd_bd (k : Nat) (x y : Int) : 0 ≤ kd A k x y ∧ kd A k x y ≤ 255 := by
  unfold kd hB hH hJ
  repeat' split
  all_goals first | exact clip_bd _ | exact hA _ _
theorem lum_bd (d : Nat) (x y : Int) : 0 ≤ lumV A d x y ∧ lumV A d x y ≤ 255 := by
  have h1 := kd_bd hA (kA d) x y
  have h2 := kd_bd hA (kB d) x y
  unfold lumV
  split <;> omega
end

end Go.Proofs.Ytoagihocibeidaa
