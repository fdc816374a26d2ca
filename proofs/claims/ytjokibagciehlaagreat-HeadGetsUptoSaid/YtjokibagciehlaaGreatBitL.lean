/- Bits that lie somewhere, read back. No function of the program. -/
import Derived.Test.YtjokibagciehlaaGreatBitG
namespace Go.Proofs.YtjokibagciehlaaGreat
open Go.RowKit
set_option linter.unusedVariables false

theorem Rd.go {w w' : World} {A : Option Addr} {n : Nat} {f : Nat → Value} (h : Rd w w.heap.size A n f) (hb : Below w.heap.size w w') : Rd w' w'.heap.size A n f := (h.below hb (Nat.le_refl _)).more hb.size

/-- at a stand the bits l -/
def Lies (f : Nat → Bool) (N a : Nat) (l : List Bool) : Prop := a + l.length ≤ N ∧ ∀ i, i < l.length → f (a + i) = l.getD i false
theorem Lies.left {f : Nat → Bool} {N a : Nat} {l k : List Bool} (h : Lies f N a (l ++ k)) : Lies f N a l := by
  obtain ⟨h1, h2⟩ := h
  rw [List.length_append] at h1 h2
  refine ⟨by omega, fun i hi => ?_⟩
  rw [h2 i (by omega), List.getD_eq_getElem?_getD, List.getElem?_append_left hi, ← List.getD_eq_getElem?_getD]
theorem Lies.right {f : Nat → Bool} {N a : Nat} {l k : List Bool} (h : Lies f N a (l ++ k)) : Lies f N (a + l.length) k := by
  obtain ⟨h1, h2⟩ := h
  rw [List.length_append] at h1 h2
  refine ⟨by omega, fun i hi => ?_⟩
  rw [Nat.add_assoc, h2 (l.length + i) (by omega), List.getD_eq_getElem?_getD, List.getElem?_append_right (by omega), ← List.getD_eq_getElem?_getD]
  congr 1
  omega
theorem Lies.pack (b : List Bool) (h : 8 ∣ b.length) : Lies (sbit (packS b)) (8 * (packS b).size) 0 b := by
  refine ⟨by rw [packS_size]; omega, fun i hi => by rw [Nat.zero_add, sbit_pack]⟩
theorem Lies.ue {f : Nat → Bool} {N a x : Nat} (h : Lies f N a (ueL x)) (hx : x ≤ 2147483646) : ueR f N a = ⟨x, 0, a + (ueL x).length⟩ := ueR_of f N a x hx h.1 h.2
theorem Lies.se {f : Nat → Bool} {N a : Nat} {x : Int} (h : Lies f N a (seL x)) (h0 : -1073741823 ≤ x) (h1 : x ≤ 1073741823) : seR f N a = ⟨x, 0, a + (seL x).length⟩ := seR_of f N a x ⟨h0, h1⟩ h.1 h.2
theorem Lies.te {f : Nat → Bool} {N a x most : Nat} (h : Lies f N a (teL x most)) (hx : x ≤ most) (hm : 1 ≤ most) (hb : x ≤ 2147483646) : teR f N a most = ⟨x, 0, a + (teL x most).length⟩ := teR_of f N a x most hx hm hb h.1 h.2
theorem Lies.bits {f : Nat → Bool} {N a x k : Nat} (h : Lies f N a (dig x k)) (hk : k ≤ 32) (hx : x < 2 ^ k) : bitsR f N a k = ⟨x, 0, a + (dig x k).length⟩ := by
  have h1 := h.1
  have h2 := h.2
  rw [dig_len] at h1 h2 ⊢
  exact bitsR_of f N a x k hk hx h1 h2

/-- a Trail at the end -/
theorem trail_facts (b : List Bool) : (packS (trL b)).size = b.length / 8 + 1 ∧ lastI (sbit (packS (trL b))) (8 * (packS (trL b)).size) = ((b.length : Nat) : Int) ∧ moreR (sbit (packS (trL b))) (8 * (packS (trL b)).size) b.length = false ∧ trailR (sbit (packS (trL b))) (8 * (packS (trL b)).size) b.length = (0, 8 * (packS (trL b)).size) ∧ (trL b).length = 8 * (packS (trL b)).size := by
  have hL := trL_len b
  have hsz := packS_size (trL b)
  have h8 : (packS (trL b)).size = b.length / 8 + 1 := by omega
  have hone : sbit (packS (trL b)) b.length = true := by
    rw [sbit_pack]
    unfold trL
    rw [List.getD_eq_getElem?_getD, List.getElem?_append_right (by omega), Nat.sub_self]
    rfl
  have hnought : ∀ i, b.length < i → sbit (packS (trL b)) i = false := by
    intro i hi
    rw [sbit_pack]
    unfold trL
    rw [List.getD_eq_getElem?_getD, List.getElem?_append_right (by omega)]
    obtain ⟨j, hj⟩ : ∃ j, i - b.length = j + 1 := ⟨i - b.length - 1, by omega⟩
    rw [hj, List.getElem?_cons_succ, List.getElem?_replicate]
    split <;> rfl
  have hlast : lastI (sbit (packS (trL b))) (8 * (packS (trL b)).size) = ((b.length : Nat) : Int) := by
    rw [lastI_at]
    exact ⟨by omega, hone, fun i h1 _ => hnought i h1⟩
  refine ⟨h8, hlast, ?_, ?_, by omega⟩
  · unfold moreR
    rw [hlast]
    simp
  · unfold trailR
    rw [if_pos ⟨hlast, by omega⟩]
theorem trL_dvd (b : List Bool) : 8 ∣ (trL b).length := by rw [trL_len]; omega
theorem Lies.trail (b : List Bool) : Lies (sbit (packS (trL b))) (8 * (packS (trL b)).size) 0 b := by
  have h := Lies.pack (trL b) (trL_dvd b)
  exact Lies.left (k := true :: List.replicate (7 - b.length % 8) false) h
end Go.Proofs.YtjokibagciehlaaGreat
