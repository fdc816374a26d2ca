/- Bits and their codes, plainly: digits, codes, bytes of bits; reading. No function of the program. -/
import Derived.Test.YtfignfohcalcfaaGreatDoorBase
namespace Go.Proofs.YtfignfohcalcfaaGreatDoor
set_option linter.unusedVariables false

theorem wr_in {x : Int} (h : -9223372036854775808 ≤ x ∧ x ≤ 9223372036854775807) : IntKind.i64.wrap x = x := by
  rw [IntKind.wrap_i64]
  omega
theorem u8_wrap (x : Int) : IntKind.u8.wrap x = x % 256 := by simp [IntKind.wrap, IntKind.signed, IntKind.bits]

/-- x in k binary digits, the greatest first -/
def dig (x k : Nat) : List Bool := (List.range k).map fun i => x.testBit (k - 1 - i)
theorem dig_len (x k : Nat) : (dig x k).length = k := by simp [dig]
theorem dig_get (x k i : Nat) (h : i < k) : (dig x k).getD i false = x.testBit (k - 1 - i) := by simp [dig, h]
theorem dig_zero (x : Nat) : dig x 0 = [] := rfl
theorem dig_succ (x k : Nat) : dig x (k + 1) = x.testBit k :: dig x k := by
  unfold dig
  rw [List.range_succ_eq_map]
  simp only [List.map_cons, List.map_map]
  congr 1
  apply List.map_congr_left
  intro i hi
  simp only [Function.comp]
  have := List.mem_range.1 hi
  congr 1
  omega
theorem dig_snoc (x k : Nat) : dig x (k + 1) = dig (x / 2) k ++ [decide (x % 2 = 1)] := by
  unfold dig
  rw [List.range_succ, List.map_append]
  congr 1
  · apply List.map_congr_left
    intro i hi
    have := List.mem_range.1 hi
    rw [show k + 1 - 1 - i = (k - 1 - i) + 1 by omega, Nat.testBit_succ]
  · simp [Nat.testBit_zero]
theorem dig_high (x k n : Nat) (h : x < 2 ^ k) : dig x (n + k) = List.replicate n false ++ dig x k := by
  induction n with
  | zero => simp
  | succ n ih =>
    rw [show n + 1 + k = (n + k) + 1 by omega, dig_succ, ih, List.replicate_succ]
    rw [Nat.testBit_lt_two_pow (Nat.lt_of_lt_of_le h (Nat.pow_le_pow_right (by omega) (by omega)))]
    rfl

/-- how many digits x has, less one -/
def lg (x : Nat) : Nat := x.log2
theorem lg_lt (x : Nat) : x < 2 ^ (lg x + 1) := Nat.lt_log2_self
theorem lg_half (x : Nat) (h : 2 ≤ x) : lg x = lg (x / 2) + 1 := by
  unfold lg
  rw [Nat.log2_def, if_pos h]
theorem lg_one (x : Nat) (h : x < 2) : lg x = 0 := by
  unfold lg
  rw [Nat.log2_def, if_neg (by omega)]
theorem lg_le (x k : Nat) (h : x < 2 ^ (k + 1)) : lg x ≤ k := by
  rcases Nat.eq_zero_or_pos x with rfl | hx
  · simp [lg_one]
  · unfold lg
    have : x.log2 < k + 1 := (Nat.log2_lt (by omega)).2 h
    omega
theorem lg_self (x : Nat) (h : 0 < x) : 2 ^ lg x ≤ x := Nat.log2_self_le (by omega)

/-- a number from 0 on -/
def ueL (x : Nat) : List Bool := dig (x + 1) (2 * lg (x + 1) + 1)
theorem ueL_len (x : Nat) : (ueL x).length = 2 * lg (x + 1) + 1 := dig_len _ _
theorem ueL_two (x : Nat) : ueL x = List.replicate (lg (x + 1)) false ++ dig (x + 1) (lg (x + 1) + 1) := by
  unfold ueL
  rw [show 2 * lg (x + 1) + 1 = lg (x + 1) + (lg (x + 1) + 1) by omega]
  exact dig_high _ _ _ (lg_lt _)
/-- one with a sign -/
def seN (x : Int) : Nat := if 0 < x then (2 * x - 1).toNat else (-2 * x).toNat
def seL (x : Int) : List Bool := ueL (seN x)
/-- one up to a greatest one -/
def teL (x most : Nat) : List Bool := if most = 1 then [decide (x = 0)] else ueL x
/-- the bits behind a Trail -/
def trL (b : List Bool) : List Bool := b ++ true :: List.replicate (7 - b.length % 8) false
theorem trL_len (b : List Bool) : (trL b).length = b.length / 8 * 8 + 8 := by simp [trL]; omega

def bv (b : Bool) (n : Nat) : Nat := if b = true then n else 0
/-- byte i of bits, noughts behind -/
def byteOf (b : List Bool) (i : Nat) : Nat :=
  bv (b.getD (8 * i) false) 128 + bv (b.getD (8 * i + 1) false) 64 + bv (b.getD (8 * i + 2) false) 32 + bv (b.getD (8 * i + 3) false) 16 + bv (b.getD (8 * i + 4) false) 8 + bv (b.getD (8 * i + 5) false) 4 + bv (b.getD (8 * i + 6) false) 2 + bv (b.getD (8 * i + 7) false) 1
theorem bv_le (b : Bool) (n : Nat) : bv b n ≤ n := by unfold bv; split <;> omega
theorem byteOf_lt (b : List Bool) (i : Nat) : byteOf b i < 256 := by
  unfold byteOf
  have := fun b => bv_le b 128
  have h1 := bv_le (b.getD (8 * i) false) 128
  have h2 := bv_le (b.getD (8 * i + 1) false) 64
  have h3 := bv_le (b.getD (8 * i + 2) false) 32
  have h4 := bv_le (b.getD (8 * i + 3) false) 16
  have h5 := bv_le (b.getD (8 * i + 4) false) 8
  have h6 := bv_le (b.getD (8 * i + 5) false) 4
  have h7 := bv_le (b.getD (8 * i + 6) false) 2
  have h8 := bv_le (b.getD (8 * i + 7) false) 1
  omega
theorem getD_snoc (b : List Bool) (x : Bool) (j : Nat) : (b ++ [x]).getD j false = if j = b.length then x else b.getD j false := by
  simp only [List.getD_eq_getElem?_getD]
  by_cases h : j < b.length
  · rw [if_neg (by omega), List.getElem?_append_left h]
  · rw [List.getElem?_append_right (by omega)]
    by_cases h2 : j = b.length
    · subst h2; simp
    · rw [if_neg h2, List.getElem?_eq_none (by simp; omega), List.getElem?_eq_none (by omega)]
theorem getD_past (b : List Bool) (j : Nat) (h : b.length ≤ j) : b.getD j false = false := by
  rw [List.getD_eq_getElem?_getD, List.getElem?_eq_none h]
  rfl
theorem byteOf_far (b : List Bool) (x : Bool) (i : Nat) (h : i ≠ b.length / 8) : byteOf (b ++ [x]) i = byteOf b i := by
  unfold byteOf
  simp only [getD_snoc]
  rw [if_neg (by omega), if_neg (by omega), if_neg (by omega), if_neg (by omega), if_neg (by omega), if_neg (by omega), if_neg (by omega), if_neg (by omega)]
theorem byteOf_past (b : List Bool) (i : Nat) (h : b.length ≤ 8 * i) : byteOf b i = 0 := by
  unfold byteOf
  rw [getD_past _ _ (by omega), getD_past _ _ (by omega), getD_past _ _ (by omega), getD_past _ _ (by omega), getD_past _ _ (by omega), getD_past _ _ (by omega), getD_past _ _ (by omega), getD_past _ _ (by omega)]
  rfl
theorem byteOf_push (b : List Bool) (x : Bool) : byteOf (b ++ [x]) (b.length / 8) = byteOf b (b.length / 8) ||| bv x (2 ^ (7 - b.length % 8)) := by
  obtain ⟨q, hq⟩ : ∃ q, q = b.length / 8 := ⟨_, rfl⟩
  have hr : b.length % 8 = 0 ∨ b.length % 8 = 1 ∨ b.length % 8 = 2 ∨ b.length % 8 = 3 ∨ b.length % 8 = 4 ∨ b.length % 8 = 5 ∨ b.length % 8 = 6 ∨ b.length % 8 = 7 := by omega
  rw [← hq]
  unfold byteOf
  simp only [getD_snoc]
  rcases hr with h | h | h | h | h | h | h | h
  · rw [h]
    rw [if_pos (show 8 * q = b.length by omega)]
    rw [if_neg (show ¬ 8 * q + 1 = b.length by omega)]
    rw [if_neg (show ¬ 8 * q + 2 = b.length by omega)]
    rw [if_neg (show ¬ 8 * q + 3 = b.length by omega)]
    rw [if_neg (show ¬ 8 * q + 4 = b.length by omega)]
    rw [if_neg (show ¬ 8 * q + 5 = b.length by omega)]
    rw [if_neg (show ¬ 8 * q + 6 = b.length by omega)]
    rw [if_neg (show ¬ 8 * q + 7 = b.length by omega)]
    rw [getD_past b (8 * q) (by omega)]
    rw [getD_past b (8 * q + 1) (by omega)]
    rw [getD_past b (8 * q + 2) (by omega)]
    rw [getD_past b (8 * q + 3) (by omega)]
    rw [getD_past b (8 * q + 4) (by omega)]
    rw [getD_past b (8 * q + 5) (by omega)]
    rw [getD_past b (8 * q + 6) (by omega)]
    rw [getD_past b (8 * q + 7) (by omega)]
    revert x 
    decide
  · rw [h]
    rw [if_neg (show ¬ 8 * q = b.length by omega)]
    rw [if_pos (show 8 * q + 1 = b.length by omega)]
    rw [if_neg (show ¬ 8 * q + 2 = b.length by omega)]
    rw [if_neg (show ¬ 8 * q + 3 = b.length by omega)]
    rw [if_neg (show ¬ 8 * q + 4 = b.length by omega)]
    rw [if_neg (show ¬ 8 * q + 5 = b.length by omega)]
    rw [if_neg (show ¬ 8 * q + 6 = b.length by omega)]
    rw [if_neg (show ¬ 8 * q + 7 = b.length by omega)]
    rw [getD_past b (8 * q + 1) (by omega)]
    rw [getD_past b (8 * q + 2) (by omega)]
    rw [getD_past b (8 * q + 3) (by omega)]
    rw [getD_past b (8 * q + 4) (by omega)]
    rw [getD_past b (8 * q + 5) (by omega)]
    rw [getD_past b (8 * q + 6) (by omega)]
    rw [getD_past b (8 * q + 7) (by omega)]
    generalize b.getD (8 * q) false = b0
    revert x b0
    decide
  · rw [h]
    rw [if_neg (show ¬ 8 * q = b.length by omega)]
    rw [if_neg (show ¬ 8 * q + 1 = b.length by omega)]
    rw [if_pos (show 8 * q + 2 = b.length by omega)]
    rw [if_neg (show ¬ 8 * q + 3 = b.length by omega)]
    rw [if_neg (show ¬ 8 * q + 4 = b.length by omega)]
    rw [if_neg (show ¬ 8 * q + 5 = b.length by omega)]
    rw [if_neg (show ¬ 8 * q + 6 = b.length by omega)]
    rw [if_neg (show ¬ 8 * q + 7 = b.length by omega)]
    rw [getD_past b (8 * q + 2) (by omega)]
    rw [getD_past b (8 * q + 3) (by omega)]
    rw [getD_past b (8 * q + 4) (by omega)]
    rw [getD_past b (8 * q + 5) (by omega)]
    rw [getD_past b (8 * q + 6) (by omega)]
    rw [getD_past b (8 * q + 7) (by omega)]
    generalize b.getD (8 * q) false = b0
    generalize b.getD (8 * q + 1) false = b1
    revert x b0 b1
    decide
  · rw [h]
    rw [if_neg (show ¬ 8 * q = b.length by omega)]
    rw [if_neg (show ¬ 8 * q + 1 = b.length by omega)]
    rw [if_neg (show ¬ 8 * q + 2 = b.length by omega)]
    rw [if_pos (show 8 * q + 3 = b.length by omega)]
    rw [if_neg (show ¬ 8 * q + 4 = b.length by omega)]
    rw [if_neg (show ¬ 8 * q + 5 = b.length by omega)]
    rw [if_neg (show ¬ 8 * q + 6 = b.length by omega)]
    rw [if_neg (show ¬ 8 * q + 7 = b.length by omega)]
    rw [getD_past b (8 * q + 3) (by omega)]
    rw [getD_past b (8 * q + 4) (by omega)]
    rw [getD_past b (8 * q + 5) (by omega)]
    rw [getD_past b (8 * q + 6) (by omega)]
    rw [getD_past b (8 * q + 7) (by omega)]
    generalize b.getD (8 * q) false = b0
    generalize b.getD (8 * q + 1) false = b1
    generalize b.getD (8 * q + 2) false = b2
    revert x b0 b1 b2
    decide
  · rw [h]
    rw [if_neg (show ¬ 8 * q = b.length by omega)]
    rw [if_neg (show ¬ 8 * q + 1 = b.length by omega)]
    rw [if_neg (show ¬ 8 * q + 2 = b.length by omega)]
    rw [if_neg (show ¬ 8 * q + 3 = b.length by omega)]
    rw [if_pos (show 8 * q + 4 = b.length by omega)]
    rw [if_neg (show ¬ 8 * q + 5 = b.length by omega)]
    rw [if_neg (show ¬ 8 * q + 6 = b.length by omega)]
    rw [if_neg (show ¬ 8 * q + 7 = b.length by omega)]
    rw [getD_past b (8 * q + 4) (by omega)]
    rw [getD_past b (8 * q + 5) (by omega)]
    rw [getD_past b (8 * q + 6) (by omega)]
    rw [getD_past b (8 * q + 7) (by omega)]
    generalize b.getD (8 * q) false = b0
    generalize b.getD (8 * q + 1) false = b1
    generalize b.getD (8 * q + 2) false = b2
    generalize b.getD (8 * q + 3) false = b3
    revert x b0 b1 b2 b3
    decide
  · rw [h]
    rw [if_neg (show ¬ 8 * q = b.length by omega)]
    rw [if_neg (show ¬ 8 * q + 1 = b.length by omega)]
    rw [if_neg (show ¬ 8 * q + 2 = b.length by omega)]
    rw [if_neg (show ¬ 8 * q + 3 = b.length by omega)]
    rw [if_neg (show ¬ 8 * q + 4 = b.length by omega)]
    rw [if_pos (show 8 * q + 5 = b.length by omega)]
    rw [if_neg (show ¬ 8 * q + 6 = b.length by omega)]
    rw [if_neg (show ¬ 8 * q + 7 = b.length by omega)]
    rw [getD_past b (8 * q + 5) (by omega)]
    rw [getD_past b (8 * q + 6) (by omega)]
    rw [getD_past b (8 * q + 7) (by omega)]
    generalize b.getD (8 * q) false = b0
    generalize b.getD (8 * q + 1) false = b1
    generalize b.getD (8 * q + 2) false = b2
    generalize b.getD (8 * q + 3) false = b3
    generalize b.getD (8 * q + 4) false = b4
    revert x b0 b1 b2 b3 b4
    decide
  · rw [h]
    rw [if_neg (show ¬ 8 * q = b.length by omega)]
    rw [if_neg (show ¬ 8 * q + 1 = b.length by omega)]
    rw [if_neg (show ¬ 8 * q + 2 = b.length by omega)]
    rw [if_neg (show ¬ 8 * q + 3 = b.length by omega)]
    rw [if_neg (show ¬ 8 * q + 4 = b.length by omega)]
    rw [if_neg (show ¬ 8 * q + 5 = b.length by omega)]
    rw [if_pos (show 8 * q + 6 = b.length by omega)]
    rw [if_neg (show ¬ 8 * q + 7 = b.length by omega)]
    rw [getD_past b (8 * q + 6) (by omega)]
    rw [getD_past b (8 * q + 7) (by omega)]
    generalize b.getD (8 * q) false = b0
    generalize b.getD (8 * q + 1) false = b1
    generalize b.getD (8 * q + 2) false = b2
    generalize b.getD (8 * q + 3) false = b3
    generalize b.getD (8 * q + 4) false = b4
    generalize b.getD (8 * q + 5) false = b5
    revert x b0 b1 b2 b3 b4 b5
    decide
  · rw [h]
    rw [if_neg (show ¬ 8 * q = b.length by omega)]
    rw [if_neg (show ¬ 8 * q + 1 = b.length by omega)]
    rw [if_neg (show ¬ 8 * q + 2 = b.length by omega)]
    rw [if_neg (show ¬ 8 * q + 3 = b.length by omega)]
    rw [if_neg (show ¬ 8 * q + 4 = b.length by omega)]
    rw [if_neg (show ¬ 8 * q + 5 = b.length by omega)]
    rw [if_neg (show ¬ 8 * q + 6 = b.length by omega)]
    rw [if_pos (show 8 * q + 7 = b.length by omega)]
    rw [getD_past b (8 * q + 7) (by omega)]
    generalize b.getD (8 * q) false = b0
    generalize b.getD (8 * q + 1) false = b1
    generalize b.getD (8 * q + 2) false = b2
    generalize b.getD (8 * q + 3) false = b3
    generalize b.getD (8 * q + 4) false = b4
    generalize b.getD (8 * q + 5) false = b5
    generalize b.getD (8 * q + 6) false = b6
    revert x b0 b1 b2 b3 b4 b5 b6
    decide
/-- n bits from a place on, as a number -/
def val (f : Nat → Bool) (a : Nat) : Nat → Nat
  | 0 => 0
  | n + 1 => 2 * val f a n + (f (a + n)).toNat
theorem val_lt (f : Nat → Bool) (a n : Nat) : val f a n < 2 ^ n := by
  induction n with
  | zero => simp [val]
  | succ n ih =>
    have := Bool.toNat_lt (f (a + n))
    rw [val, Nat.pow_succ]
    omega
theorem val_nought (f : Nat → Bool) (a k n : Nat) (h : ∀ i, i < k → f (a + i) = false) : val f a (k + n) = val f (a + k) n := by
  induction n with
  | zero =>
    show val f a k = 0
    induction k with
    | zero => rfl
    | succ k ih => rw [val, ih (fun i hi => h i (by omega)), h k (by omega)]; rfl
  | succ n ih =>
    show 2 * val f a (k + n) + (f (a + (k + n))).toNat = _
    rw [ih, val, Nat.add_assoc]
theorem val_dig (f : Nat → Bool) (a y n : Nat) (h : ∀ i, i < n → f (a + i) = y.testBit (n - 1 - i)) (hy : y < 2 ^ n) : val f a n = y := by
  induction n generalizing y with
  | zero => simp at hy; simp [val, hy]
  | succ n ih =>
    rw [val, ih (y / 2) (fun i hi => ?_) (by rw [Nat.pow_succ] at hy; omega), h n (by omega), Nat.add_sub_cancel, Nat.sub_self, Nat.testBit_zero]
    · by_cases h2 : y % 2 = 1
      · simp [h2]; omega
      · simp [h2]; omega
    · rw [h i (by omega), show n + 1 - 1 - i = (n - 1 - i) + 1 by omega, Nat.testBit_succ]
theorem val_congr (f g : Nat → Bool) (a b n : Nat) (h : ∀ i, i < n → f (a + i) = g (b + i)) : val f a n = val g b n := by
  induction n with
  | zero => rfl
  | succ n ih => rw [val, val, ih (fun i hi => h i (by omega)), h n (by omega)]

/-- how many noughts stand ahead of the next 1: at most 30 (else 101), before the end (else 100) -/
def scan (f : Nat → Bool) (N a : Nat) : Nat → Nat → Nat ⊕ Nat
  | 0, _ => .inr 101
  | u + 1, k => if N ≤ a + k then .inr 100 else if f (a + k) = true then .inl k else scan f N a u (k + 1)

/-- reading answers a number, an error and a place -/
structure Got where
  x : Int
  e : Nat
  at_ : Nat
def bitsR (f : Nat → Bool) (N a : Nat) (n : Int) : Got :=
  if n < 0 ∨ 32 < n then ⟨0, 101, a⟩ else if (N : Int) - a < n then ⟨0, 100, a⟩ else ⟨val f a n.toNat, 0, a + n.toNat⟩
def ueR (f : Nat → Bool) (N a : Nat) : Got :=
  match scan f N a 31 0 with
  | .inr e => ⟨0, e, a⟩
  | .inl k => if N < a + (2 * k + 1) then ⟨0, 100, a⟩ else ⟨(val f a (2 * k + 1) : Int) - 1, 0, a + (2 * k + 1)⟩
def sgn (x : Int) : Int := if x % 2 = 1 then (x + 1) / 2 else -(x / 2)
def seR (f : Nat → Bool) (N a : Nat) : Got := ⟨sgn (ueR f N a).x, (ueR f N a).e, (ueR f N a).at_⟩
def teR (f : Nat → Bool) (N a : Nat) (most : Int) : Got :=
  if most < 1 then ⟨0, 101, a⟩
  else if most = 1 then (if (bitsR f N a 1).e = 0 then ⟨1 - (bitsR f N a 1).x, 0, (bitsR f N a 1).at_⟩ else ⟨0, (bitsR f N a 1).e, a⟩)
  else if most < (ueR f N a).x then ⟨0, 101, a⟩ else ueR f N a

theorem scan_inl {f : Nat → Bool} {N a : Nat} : ∀ {u k m : Nat}, scan f N a u k = .inl m → k ≤ m ∧ m < k + u ∧ a + m < N ∧ f (a + m) = true ∧ ∀ i, k ≤ i → i < m → f (a + i) = false := by
  intro u
  induction u with
  | zero => intro k m h; simp [scan] at h
  | succ u ih =>
    intro k m h
    rw [scan] at h
    split at h
    · cases h
    · split at h
      · cases h
        exact ⟨Nat.le_refl _, by omega, by omega, by assumption, fun i h1 h2 => by omega⟩
      · obtain ⟨h1, h2, h3, h4, h5⟩ := ih h
        refine ⟨by omega, by omega, h3, h4, fun i hi1 hi2 => ?_⟩
        by_cases hik : i = k
        · subst hik
          simpa using (by assumption : ¬ f (a + i) = true)
        · exact h5 i (by omega) hi2
theorem scan_inr {f : Nat → Bool} {N a : Nat} : ∀ {u k e : Nat}, scan f N a u k = .inr e → e = 100 ∨ e = 101 := by
  intro u
  induction u with
  | zero => intro k e h; simp [scan] at h; omega
  | succ u ih =>
    intro k e h
    rw [scan] at h
    split at h
    · cases h; exact .inl rfl
    · split at h
      · cases h
      · exact ih h
theorem scan_hit (f : Nat → Bool) (N a : Nat) (m : Nat) (hm : f (a + m) = true) (hN : a + m < N) : ∀ (u k : Nat), k ≤ m → m < k + u → (∀ i, k ≤ i → i < m → f (a + i) = false) → scan f N a u k = .inl m := by
  intro u
  induction u with
  | zero => intro k h1 h2; omega
  | succ u ih =>
    intro k h1 h2 h3
    rw [scan, if_neg (by omega)]
    by_cases hk : k = m
    · subst hk; rw [if_pos hm]
    · rw [if_neg (by rw [h3 k (Nat.le_refl _) (by omega)]; simp)]
      exact ih (k + 1) (by omega) (by omega) (fun i hi1 hi2 => h3 i (by omega) hi2)
theorem ueR_bd (f : Nat → Bool) (N a : Nat) (h : a ≤ N) : 0 ≤ (ueR f N a).x ∧ (ueR f N a).x ≤ 2147483646 ∧ a ≤ (ueR f N a).at_ ∧ (ueR f N a).at_ ≤ N ∧ ((ueR f N a).e = 0 ∨ ((ueR f N a).x = 0 ∧ (ueR f N a).at_ = a ∧ ((ueR f N a).e = 100 ∨ (ueR f N a).e = 101))) := by
  unfold ueR
  split
  · rename_i e he
    have := scan_inr he
    exact ⟨by show (0 : Int) ≤ 0; omega, by show (0 : Int) ≤ _; omega, Nat.le_refl _, h, .inr ⟨rfl, rfl, this⟩⟩
  · rename_i k hk
    obtain ⟨-, h2, h3, h4, h5⟩ := scan_inl hk
    split
    · exact ⟨by show (0 : Int) ≤ 0; omega, by show (0 : Int) ≤ _; omega, Nat.le_refl _, h, .inr ⟨rfl, rfl, .inl rfl⟩⟩
    · have hv : val f a (2 * k + 1) = val f (a + k) (k + 1) := by
        rw [show 2 * k + 1 = k + (k + 1) by omega]
        exact val_nought f a k (k + 1) (fun i hi => h5 i (by omega) hi)
      have h1 := val_lt f (a + k) (k + 1)
      have h6 : (2 : Nat) ^ (k + 1) ≤ 2 ^ 31 := Nat.pow_le_pow_right (by omega) (by omega)
      have h7 : 1 ≤ val f (a + k) (k + 1) := by
        have : val f (a + k) (1 + k) ≥ 1 := by
          have : ∀ n, 1 ≤ val f (a + k) (1 + n) := by
            intro n
            induction n with
            | zero => simp [val, h4]
            | succ n ih => show 1 ≤ 2 * val f (a + k) (1 + n) + _; omega
          exact this k
        rwa [Nat.add_comm 1 k] at this
      rw [hv]
      exact ⟨by show (0 : Int) ≤ _ - 1; omega, by show _ - 1 ≤ (2147483646 : Int); omega, by show a ≤ a + _; omega, by show a + _ ≤ N; omega, .inl rfl⟩
theorem ueR_val {f : Nat → Bool} {N a k : Nat} (hs : scan f N a 31 0 = .inl k) : val f a (2 * k + 1) = val f (a + k) (k + 1) := by
  obtain ⟨-, -, -, -, h5⟩ := scan_inl hs
  rw [show 2 * k + 1 = k + (k + 1) by omega]
  exact val_nought f a k (k + 1) (fun i hi => h5 i (by omega) hi)

/-- a number that stands there is read -/
theorem ueR_of (f : Nat → Bool) (N a x : Nat) (hx : x ≤ 2147483646) (hN : a + (ueL x).length ≤ N) (h : ∀ i, i < (ueL x).length → f (a + i) = (ueL x).getD i false) : ueR f N a = ⟨x, 0, a + (ueL x).length⟩ := by
  have hl := ueL_len x
  rw [hl] at h hN ⊢
  obtain ⟨k, hk⟩ : ∃ k, k = lg (x + 1) := ⟨_, rfl⟩
  have hk30 : k ≤ 30 := by rw [hk]; exact lg_le _ _ (by omega)
  have hlo := lg_self (x + 1) (by omega)
  have hhi := lg_lt (x + 1)
  rw [← hk] at h hN hlo hhi ⊢
  have hb : ∀ i, i < 2 * k + 1 → f (a + i) = (x + 1).testBit (2 * k + 1 - 1 - i) := by
    intro i hi
    rw [h i hi]
    unfold ueL
    rw [← hk]
    exact dig_get _ _ _ hi
  have hs : scan f N a 31 0 = .inl k := by
    apply scan_hit
    · rw [hb k (by omega), show 2 * k + 1 - 1 - k = k by omega, Nat.testBit_eq_decide_div_mod_eq]
      have : (x + 1) / 2 ^ k = 1 := by
        apply Nat.div_eq_of_lt_le
        · omega
        · rw [Nat.pow_succ] at hhi; omega
      simp [this]
    · omega
    · omega
    · omega
    · intro i _ hi
      rw [hb i (by omega)]
      exact Nat.testBit_lt_two_pow (Nat.lt_of_lt_of_le hhi (Nat.pow_le_pow_right (by omega) (by omega)))
  have hv : val f a (2 * k + 1) = x + 1 := val_dig f a (x + 1) (2 * k + 1) hb (Nat.lt_of_lt_of_le hhi (Nat.pow_le_pow_right (by omega) (by omega)))
  unfold ueR
  rw [hs]
  simp only
  rw [if_neg (by omega), hv]
  simp
theorem sgn_seN (x : Int) : sgn (seN x) = x := by
  unfold sgn seN
  split <;> split <;> omega
theorem seN_le (x : Int) (h : -1073741823 ≤ x ∧ x ≤ 1073741823) : seN x ≤ 2147483646 := by unfold seN; split <;> omega
theorem seR_of (f : Nat → Bool) (N a : Nat) (x : Int) (hx : -1073741823 ≤ x ∧ x ≤ 1073741823) (hN : a + (seL x).length ≤ N) (h : ∀ i, i < (seL x).length → f (a + i) = (seL x).getD i false) : seR f N a = ⟨x, 0, a + (seL x).length⟩ := by
  unfold seR
  rw [ueR_of f N a (seN x) (seN_le x hx) hN h]
  simp only [sgn_seN]
  rfl
theorem teR_of (f : Nat → Bool) (N a x most : Nat) (hx : x ≤ most) (hm : 1 ≤ most) (hb : x ≤ 2147483646) (hN : a + (teL x most).length ≤ N) (h : ∀ i, i < (teL x most).length → f (a + i) = (teL x most).getD i false) : teR f N a most = ⟨x, 0, a + (teL x most).length⟩ := by
  unfold teR
  rw [if_neg (by omega)]
  by_cases h1 : most = 1
  · subst h1
    have hl : (teL x 1).length = 1 := rfl
    rw [hl] at hN h ⊢
    have h0 := h 0 (by omega)
    rw [if_pos (by omega)]
    have hbit : bitsR f N a 1 = ⟨(f a).toNat, 0, a + 1⟩ := by
      unfold bitsR
      rw [if_neg (by omega), if_neg (by omega)]
      simp [val]
    rw [hbit]
    simp only [if_true]
    have : f a = decide (x = 0) := by simpa [teL] using h0
    rw [this]
    by_cases hx0 : x = 0
    · subst hx0; simp
    · have : x = 1 := by omega
      subst this; simp
  · have ht : teL x most = ueL x := by unfold teL; rw [if_neg h1]
    rw [ht] at hN h ⊢
    rw [if_neg (by omega), ueR_of f N a x hb hN h, if_neg (by show ¬ ((most : Int) < x); omega)]
theorem bitsR_of (f : Nat → Bool) (N a x k : Nat) (hk : k ≤ 32) (hx : x < 2 ^ k) (hN : a + k ≤ N) (h : ∀ i, i < k → f (a + i) = (dig x k).getD i false) : bitsR f N a k = ⟨x, 0, a + k⟩ := by
  unfold bitsR
  rw [if_neg (by omega), if_neg (by omega)]
  rw [show ((k : Int)).toNat = k from rfl, val_dig f a x k (fun i hi => (h i hi).trans (dig_get x k i hi)) hx]

/-- the bit of bytes at a place -/
def bitOf (g : Nat → Nat) (a : Nat) : Bool := (g (a / 8)).testBit (7 - a % 8)
theorem bitOf_byteOf (b : List Bool) (a : Nat) : bitOf (byteOf b) a = b.getD a false := by
  unfold bitOf byteOf
  have hr : a % 8 = 0 ∨ a % 8 = 1 ∨ a % 8 = 2 ∨ a % 8 = 3 ∨ a % 8 = 4 ∨ a % 8 = 5 ∨ a % 8 = 6 ∨ a % 8 = 7 := by omega
  generalize hq : a / 8 = q
  rcases hr with h | h | h | h | h | h | h | h
  · rw [h, show a = 8 * q by omega]
    generalize b.getD (8 * q) false = b0
    generalize b.getD (8 * q + 1) false = b1
    generalize b.getD (8 * q + 2) false = b2
    generalize b.getD (8 * q + 3) false = b3
    generalize b.getD (8 * q + 4) false = b4
    generalize b.getD (8 * q + 5) false = b5
    generalize b.getD (8 * q + 6) false = b6
    generalize b.getD (8 * q + 7) false = b7
    revert b0 b1 b2 b3 b4 b5 b6 b7
    decide +kernel
  · rw [h, show a = 8 * q + 1 by omega]
    generalize b.getD (8 * q) false = b0
    generalize b.getD (8 * q + 1) false = b1
    generalize b.getD (8 * q + 2) false = b2
    generalize b.getD (8 * q + 3) false = b3
    generalize b.getD (8 * q + 4) false = b4
    generalize b.getD (8 * q + 5) false = b5
    generalize b.getD (8 * q + 6) false = b6
    generalize b.getD (8 * q + 7) false = b7
    revert b0 b1 b2 b3 b4 b5 b6 b7
    decide +kernel
  · rw [h, show a = 8 * q + 2 by omega]
    generalize b.getD (8 * q) false = b0
    generalize b.getD (8 * q + 1) false = b1
    generalize b.getD (8 * q + 2) false = b2
    generalize b.getD (8 * q + 3) false = b3
    generalize b.getD (8 * q + 4) false = b4
    generalize b.getD (8 * q + 5) false = b5
    generalize b.getD (8 * q + 6) false = b6
    generalize b.getD (8 * q + 7) false = b7
    revert b0 b1 b2 b3 b4 b5 b6 b7
    decide +kernel
  · rw [h, show a = 8 * q + 3 by omega]
    generalize b.getD (8 * q) false = b0
    generalize b.getD (8 * q + 1) false = b1
    generalize b.getD (8 * q + 2) false = b2
    generalize b.getD (8 * q + 3) false = b3
    generalize b.getD (8 * q + 4) false = b4
    generalize b.getD (8 * q + 5) false = b5
    generalize b.getD (8 * q + 6) false = b6
    generalize b.getD (8 * q + 7) false = b7
    revert b0 b1 b2 b3 b4 b5 b6 b7
    decide +kernel
  · rw [h, show a = 8 * q + 4 by omega]
    generalize b.getD (8 * q) false = b0
    generalize b.getD (8 * q + 1) false = b1
    generalize b.getD (8 * q + 2) false = b2
    generalize b.getD (8 * q + 3) false = b3
    generalize b.getD (8 * q + 4) false = b4
    generalize b.getD (8 * q + 5) false = b5
    generalize b.getD (8 * q + 6) false = b6
    generalize b.getD (8 * q + 7) false = b7
    revert b0 b1 b2 b3 b4 b5 b6 b7
    decide +kernel
  · rw [h, show a = 8 * q + 5 by omega]
    generalize b.getD (8 * q) false = b0
    generalize b.getD (8 * q + 1) false = b1
    generalize b.getD (8 * q + 2) false = b2
    generalize b.getD (8 * q + 3) false = b3
    generalize b.getD (8 * q + 4) false = b4
    generalize b.getD (8 * q + 5) false = b5
    generalize b.getD (8 * q + 6) false = b6
    generalize b.getD (8 * q + 7) false = b7
    revert b0 b1 b2 b3 b4 b5 b6 b7
    decide +kernel
  · rw [h, show a = 8 * q + 6 by omega]
    generalize b.getD (8 * q) false = b0
    generalize b.getD (8 * q + 1) false = b1
    generalize b.getD (8 * q + 2) false = b2
    generalize b.getD (8 * q + 3) false = b3
    generalize b.getD (8 * q + 4) false = b4
    generalize b.getD (8 * q + 5) false = b5
    generalize b.getD (8 * q + 6) false = b6
    generalize b.getD (8 * q + 7) false = b7
    revert b0 b1 b2 b3 b4 b5 b6 b7
    decide +kernel
  · rw [h, show a = 8 * q + 7 by omega]
    generalize b.getD (8 * q) false = b0
    generalize b.getD (8 * q + 1) false = b1
    generalize b.getD (8 * q + 2) false = b2
    generalize b.getD (8 * q + 3) false = b3
    generalize b.getD (8 * q + 4) false = b4
    generalize b.getD (8 * q + 5) false = b5
    generalize b.getD (8 * q + 6) false = b6
    generalize b.getD (8 * q + 7) false = b7
    revert b0 b1 b2 b3 b4 b5 b6 b7
    decide +kernel

/-- the last 1's place; -1: there is none -/
def lastI (f : Nat → Bool) : Nat → Int
  | 0 => -1
  | n + 1 => if f n = true then n else lastI f n
theorem lastI_bd (f : Nat → Bool) (N : Nat) : -1 ≤ lastI f N ∧ lastI f N < N := by
  induction N with
  | zero => simp [lastI]
  | succ n ih => rw [lastI]; split <;> omega
theorem lastI_at (f : Nat → Bool) (N : Nat) (a : Nat) : lastI f N = a ↔ a < N ∧ f a = true ∧ ∀ i, a < i → i < N → f i = false := by
  induction N with
  | zero => simp [lastI]
  | succ n ih =>
    rw [lastI]
    split
    · rename_i h
      constructor
      · intro q
        have : n = a := by omega
        subst this
        exact ⟨by omega, h, fun i h1 h2 => by omega⟩
      · rintro ⟨h1, h2, h3⟩
        by_cases hn : n = a
        · rw [hn]
        · have := h3 n (by omega) (by omega)
          rw [h] at this
          cases this
    · rename_i h
      rw [ih]
      constructor
      · rintro ⟨h1, h2, h3⟩
        refine ⟨by omega, h2, fun i hi1 hi2 => ?_⟩
        by_cases hn : i = n
        · subst hn; simpa using h
        · exact h3 i hi1 (by omega)
      · rintro ⟨h1, h2, h3⟩
        have : a ≠ n := fun q => h (q ▸ h2)
        exact ⟨by omega, h2, fun i hi1 hi2 => h3 i hi1 (by omega)⟩
theorem lastI_le (f : Nat → Bool) (N i : Nat) (hi : i < N) (h : f i = true) : (i : Int) ≤ lastI f N := by
  induction N with
  | zero => omega
  | succ n ih =>
    rw [lastI]
    split
    · omega
    · rename_i hn
      exact ih (by have : i ≠ n := fun q => hn (q ▸ h); omega)
theorem lastI_skip (f : Nat → Bool) (n m : Nat) (h : ∀ i, n ≤ i → i < n + m → f i = false) : lastI f (n + m) = lastI f n := by
  induction m with
  | zero => rfl
  | succ m ih =>
    show lastI f ((n + m) + 1) = _
    rw [lastI, if_neg (by rw [h (n + m) (by omega) (by omega)]; simp), ih (fun i h1 h2 => h i h1 (by omega))]
def moreR (f : Nat → Bool) (N a : Nat) : Bool := decide ((a : Int) < lastI f N)
def trailR (f : Nat → Bool) (N a : Nat) : Nat × Nat := if lastI f N = a ∧ N ≤ a + 8 then (0, N) else (101, a)

end Go.Proofs.YtfignfohcalcfaaGreatDoor
