/- Blocks of coefficients, plainly: what is read. No function of the program. -/
import Derived.Test.YtocooplmfkeepaaLevP
namespace Go.Proofs.Ytocooplmfkeepaa
set_option linter.unusedVariables false

def lcode (e : Nat) : Int := if e = 100 then 701 else 700
def getT (f : Nat → Bool) (N most a : Nat) : Except Int (Nat × Nat) :=
  if most = 0 then .ok (0, a) else if (teR f N a most).e = 0 then .ok ((teR f N a most).x.toNat, (teR f N a most).at_) else .error (lcode (teR f N a most).e)
def getO (f : Nat → Bool) (N : Nat) : Nat → List Int → Nat → Except Int (List Int × Nat)
  | 0, acc, a => .ok (acc, a)
  | o + 1, acc, a => if (bitsR f N a 1).e = 0 then getO f N o (acc ++ [1 - 2 * (bitsR f N a 1).x]) (bitsR f N a 1).at_ else .error (lcode (bitsR f N a 1).e)
/-- a level that was told one nearer -/
def far (nr : Bool) (c : Int) : Int := if nr = true then (if 0 < c then c + 1 else c - 1) else c
def getV (f : Nat → Bool) (N : Nat) (nr : Bool) (a : Nat) : Except Int (Int × Nat) :=
  if (seR f N a).e = 0 then (if (seR f N a).x = 0 then .error 700 else if far nr (seR f N a).x < -32767 ∨ 32767 < far nr (seR f N a).x then .error 702 else .ok (far nr (seR f N a).x, (seR f N a).at_)) else .error (lcode (seR f N a).e)
/-- go on where it went well -/
def onw {α β : Type} (r : Except Int (α × Nat)) (k : α → Nat → Except Int β) : Except Int β := match r with
  | .ok (x, b) => k x b
  | .error e => .error e
theorem onw_ok {α β : Type} {r : Except Int (α × Nat)} {k : α → Nat → Except Int β} {x : α} {b : Nat} (h : r = .ok (x, b)) : onw r k = k x b := by rw [h]; rfl
theorem onw_er {α β : Type} {r : Except Int (α × Nat)} {k : α → Nat → Except Int β} {c : Int} (h : r = .error c) : onw r k = .error c := by rw [h]; rfl
def getLs (f : Nat → Bool) (N : Nat) : Nat → Bool → List Int → Nat → Except Int (List Int × Nat)
  | 0, _, acc, a => .ok (acc, a)
  | n + 1, nr, acc, a => onw (getV f N nr a) fun c b => getLs f N n false (acc ++ [c]) b
def upd (z : Nat → Int) (p : Nat) (c : Int) : Nat → Int := fun j => if j = p then c else z j
def getRs (f : Nat → Bool) (N : Nat) : List Int → Nat → (Nat → Int) → Nat → Except Int ((Nat → Int) × Nat)
  | [], _, z, a => .ok (z, a)
  | c :: r, left, z, a => if r = [] then .ok (upd z left c, a) else onw (getT f N left a) fun x b => getRs f N r (left - x) (upd z (left + r.length) c) b
def getB4 (f : Nat → Bool) (N size t : Nat) (cs : List Int) (a : Nat) : Except Int ((Nat → Int) × Nat) := onw (getT f N (size - t) a) fun left b => getRs f N cs left (fun _ => 0) b
def getB3 (f : Nat → Bool) (N size t o : Nat) (cs : List Int) (a : Nat) : Except Int ((Nat → Int) × Nat) := onw (getLs f N (t - o) (decide (o < 3)) cs a) fun cs b => getB4 f N size t cs b
def getB2 (f : Nat → Bool) (N size t o : Nat) (a : Nat) : Except Int ((Nat → Int) × Nat) := onw (getO f N o [] a) fun cs b => getB3 f N size t o cs b
def getB1 (f : Nat → Bool) (N size t : Nat) (a : Nat) : Except Int ((Nat → Int) × Nat) := if t = 0 then .ok (fun _ => 0, a) else onw (getT f N (min 3 t) a) fun o b => getB2 f N size t o b
/-- a block of that size, read -/
def getB (f : Nat → Bool) (N size a : Nat) : Except Int ((Nat → Int) × Nat) := onw (getT f N size a) fun t b => getB1 f N size t b
theorem getO_succ (f : Nat → Bool) (N o : Nat) (acc : List Int) (a : Nat) : getO f N (o + 1) acc a = if (bitsR f N a 1).e = 0 then getO f N o (acc ++ [1 - 2 * (bitsR f N a 1).x]) (bitsR f N a 1).at_ else .error (lcode (bitsR f N a 1).e) := rfl
theorem getLs_succ (f : Nat → Bool) (N n : Nat) (nr : Bool) (acc : List Int) (a : Nat) : getLs f N (n + 1) nr acc a = onw (getV f N nr a) fun c b => getLs f N n false (acc ++ [c]) b := rfl
theorem getRs_cons (f : Nat → Bool) (N : Nat) (c : Int) (r : List Int) (left : Nat) (z : Nat → Int) (a : Nat) : getRs f N (c :: r) left z a = if r = [] then .ok (upd z left c, a) else onw (getT f N left a) fun x b => getRs f N r (left - x) (upd z (left + r.length) c) b := rfl

theorem bits1_bd (f : Nat → Bool) (N a : Nat) (h : a ≤ N) : a ≤ (bitsR f N a 1).at_ ∧ (bitsR f N a 1).at_ ≤ N ∧ 0 ≤ (bitsR f N a 1).x ∧ (bitsR f N a 1).x ≤ 1 ∧ ((bitsR f N a 1).e = 0 ∨ (bitsR f N a 1).e = 100 ∨ (bitsR f N a 1).e = 101) := by
  unfold bitsR
  rw [if_neg (by omega)]
  by_cases h2 : (N : Int) - a < 1
  · rw [if_pos h2]
    simp
    omega
  · rw [if_neg h2]
    have := val_lt f a 1
    simp
    omega
theorem teR_bd (f : Nat → Bool) (N a most : Nat) (h : a ≤ N) (hm : 1 ≤ most) : a ≤ (teR f N a most).at_ ∧ (teR f N a most).at_ ≤ N ∧ ((teR f N a most).e = 0 → 0 ≤ (teR f N a most).x ∧ (teR f N a most).x ≤ most) ∧ ((teR f N a most).e = 0 ∨ (teR f N a most).e = 100 ∨ (teR f N a most).e = 101) := by
  have hu := ueR_bd f N a h
  have hb := bits1_bd f N a h
  unfold teR
  rw [if_neg (by omega)]
  by_cases h1 : (most : Int) = 1
  · rw [if_pos h1]
    by_cases h2 : (bitsR f N a 1).e = 0
    · rw [if_pos h2]
      refine ⟨hb.1, hb.2.1, fun _ => ⟨?_, ?_⟩, .inl rfl⟩
      · show (0 : Int) ≤ 1 - _; omega
      · show 1 - (bitsR f N a 1).x ≤ _; omega
    · rw [if_neg h2]
      refine ⟨Nat.le_refl _, h, fun q => absurd q h2, .inr ?_⟩
      show (bitsR f N a 1).e = 100 ∨ (bitsR f N a 1).e = 101
      omega
  · rw [if_neg h1]
    by_cases h2 : (most : Int) < (ueR f N a).x
    · rw [if_pos h2]
      refine ⟨Nat.le_refl _, h, ?_, Or.inr (Or.inr rfl)⟩
      intro q
      exact absurd q (show ¬ (101 : Nat) = 0 by decide)
    · rw [if_neg h2]
      omega
theorem getT_ok {f : Nat → Bool} {N most a x b : Nat} (h : getT f N most a = .ok (x, b)) (ha : a ≤ N) : x ≤ most ∧ a ≤ b ∧ b ≤ N := by
  unfold getT at h
  by_cases h0 : most = 0
  · rw [if_pos h0] at h
    injection h with h
    injection h with h1 h2
    omega
  · rw [if_neg h0] at h
    have := teR_bd f N a most ha (by omega)
    split at h
    · rename_i he
      injection h with h
      injection h with h1 h2
      have h3 := this.2.2.1 he
      omega
    · cases h
theorem seR_bd (f : Nat → Bool) (N a : Nat) (h : a ≤ N) : a ≤ (seR f N a).at_ ∧ (seR f N a).at_ ≤ N ∧ -1073741824 ≤ (seR f N a).x ∧ (seR f N a).x ≤ 1073741824 ∧ ((seR f N a).e = 0 ∨ (seR f N a).e = 100 ∨ (seR f N a).e = 101) := by
  have hu := ueR_bd f N a h
  unfold seR sgn
  simp only
  split <;> omega
theorem getV_ok {f : Nat → Bool} {N a b : Nat} {nr : Bool} {c : Int} (h : getV f N nr a = .ok (c, b)) (ha : a ≤ N) : c ≠ 0 ∧ -32767 ≤ c ∧ c ≤ 32767 ∧ a ≤ b ∧ b ≤ N := by
  have hs := seR_bd f N a ha
  unfold getV at h
  split at h
  · split at h
    · cases h
    · rename_i h0
      split at h
      · cases h
      · rename_i h1
        injection h with h
        injection h with h2 h3
        unfold far at h1 h2
        split at h2
        · rename_i hn
          rw [if_pos hn] at h1
          split at h2
          · rename_i hp
            rw [if_pos hp] at h1
            omega
          · rename_i hp
            rw [if_neg hp] at h1
            omega
        · rename_i hn
          rw [if_neg hn] at h1
          omega
  · cases h
end Go.Proofs.Ytocooplmfkeepaa
