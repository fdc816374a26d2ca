/- Numbers that were read stand as their codes. No function of the program. -/
import Derived.Test.YtjokibagciehlaaGreatBitL
namespace Go.Proofs.YtjokibagciehlaaGreat
set_option linter.unusedVariables false

theorem val_bits (f : Nat → Bool) (a : Nat) : ∀ n i, i < n → (val f a n).testBit (n - 1 - i) = f (a + i)
  | 0, i, h => by omega
  | n + 1, i, h => by
    have ih := val_bits f a n i
    by_cases hi : i = n
    · subst hi
      rw [show i + 1 - 1 - i = 0 by omega]
      unfold val
      cases f (a + i) <;> simp [Nat.testBit_zero] <;> omega
    · have := ih (by omega)
      rw [show n + 1 - 1 - i = (n - 1 - i) + 1 by omega]
      unfold val
      rw [Nat.testBit_succ]
      rw [← this]
      congr 1
      have := Bool.toNat_lt (f (a + n))
      omega
theorem Lies.dig_val (f : Nat → Bool) (N a n : Nat) (h : a + n ≤ N) : Lies f N a (dig (val f a n) n) := by
  refine ⟨by rw [dig_len]; exact h, fun i hi => ?_⟩
  rw [dig_len] at hi
  rw [dig_get _ _ _ hi, val_bits f a n i hi]
theorem Lies.append {f : Nat → Bool} {N a : Nat} {l k : List Bool} (h : Lies f N a l) (g : Lies f N (a + l.length) k) : Lies f N a (l ++ k) := by
  refine ⟨by have := g.1; rw [List.length_append]; omega, fun i hi => ?_⟩
  rw [List.length_append] at hi
  by_cases hl : i < l.length
  · rw [h.2 i hl, List.getD_eq_getElem?_getD, List.getD_eq_getElem?_getD, List.getElem?_append_left hl]
  · have := g.2 (i - l.length) (by omega)
    rw [show a + i = a + l.length + (i - l.length) by omega, this, List.getD_eq_getElem?_getD, List.getD_eq_getElem?_getD, List.getElem?_append_right (by omega)]
theorem ueR_inv {f : Nat → Bool} {N a : Nat} (h : (ueR f N a).e = 0) : Lies f N a (ueL (ueR f N a).x.toNat) ∧ (ueR f N a).at_ = a + (ueL (ueR f N a).x.toNat).length ∧ 0 ≤ (ueR f N a).x ∧ (ueR f N a).x ≤ 2147483646 := by
  unfold ueR at h ⊢
  cases hs : scan f N a 31 0 with
  | inr e =>
    rw [hs] at h
    have := scan_inr hs
    simp only at h
    omega
  | inl k =>
    rw [hs] at h
    simp only at h ⊢
    have h1 := scan_inl hs
    by_cases hN : N < a + (2 * k + 1)
    · rw [if_pos hN] at h
      cases h
    · rw [if_neg hN] at h ⊢
      simp only
      have hv := ueR_val hs
      obtain ⟨v, hvv⟩ : ∃ v, v = val f a (2 * k + 1) := ⟨_, rfl⟩
      have hlt := val_lt f (a + k) (k + 1)
      rw [← hv, ← hvv] at hlt
      have hge : 2 ^ k ≤ v := by
        have hb := val_bits f (a + k) (k + 1) 0 (by omega)
        rw [← hv, ← hvv, Nat.add_zero (a + k), h1.2.2.2.1] at hb
        have := Nat.ge_two_pow_of_testBit hb
        simpa using this
      have hlg : lg v = k := by
        unfold lg
        have h2 : v ≠ 0 := by have := Nat.two_pow_pos k; omega
        rw [Nat.log2_eq_iff h2]
        exact ⟨hge, hlt⟩
      rw [← hvv]
      have hx : ((v : Int) - 1).toNat + 1 = v := by have := Nat.two_pow_pos k; omega
      have hu : ueL ((v : Int) - 1).toNat = dig v (2 * k + 1) := by
        unfold ueL
        rw [hx, hlg]
      have hk31 : k < 31 := by omega
      have hp31 : (2 : Nat) ^ (k + 1) ≤ 2 ^ 31 := Nat.pow_le_pow_right (by omega) (by omega)
      rw [hu, dig_len]
      refine ⟨?_, rfl, by have := Nat.two_pow_pos k; omega, by omega⟩
      rw [hvv]
      exact Lies.dig_val f N a _ (by omega)
theorem seR_inv {f : Nat → Bool} {N a : Nat} (h : (seR f N a).e = 0) : Lies f N a (seL (seR f N a).x) ∧ (seR f N a).at_ = a + (seL (seR f N a).x).length := by
  have hu := ueR_inv (f := f) (N := N) (a := a) h
  unfold seR at h ⊢
  simp only at h ⊢
  have hn : seN (sgn (ueR f N a).x) = (ueR f N a).x.toNat := by
    unfold seN sgn
    split <;> split <;> omega
  unfold seL
  rw [hn]
  exact ⟨hu.1, hu.2.1⟩
theorem bits1_inv {f : Nat → Bool} {N a : Nat} (h : (bitsR f N a 1).e = 0) : a + 1 ≤ N ∧ (bitsR f N a 1).at_ = a + 1 ∧ (bitsR f N a 1).x = if f a = true then 1 else 0 := by
  unfold bitsR at h ⊢
  rw [if_neg (by omega)] at h ⊢
  by_cases h2 : (N : Int) - a < 1
  · rw [if_pos h2] at h; cases h
  · rw [if_neg h2] at h ⊢
    refine ⟨by omega, rfl, ?_⟩
    show ((val f a 1 : Nat) : Int) = _
    unfold val val
    rw [Nat.add_zero]
    cases f a <;> rfl
theorem Lies.one {f : Nat → Bool} {N a : Nat} {x : Bool} (h : a + 1 ≤ N) (hx : f a = x) : Lies f N a [x] := by
  refine ⟨h, fun i hi => ?_⟩
  simp only [List.length_singleton] at hi
  obtain rfl : i = 0 := by omega
  simpa using hx
theorem Lies.nil {f : Nat → Bool} {N a : Nat} (h : a ≤ N) : Lies f N a [] := ⟨by simpa using h, fun i hi => by simp at hi⟩
end Go.Proofs.YtjokibagciehlaaGreat
