/- Blocks of coefficients, plainly: what is written. No function of the program. -/
import Derived.Test.YtocooplmfkeepaaBitL
namespace Go.Proofs.Ytocooplmfkeepaa
set_option linter.unusedVariables false

/-- the places below k that are not 0, the last first -/
def atL (z : Nat → Int) : Nat → List Nat
  | 0 => []
  | i + 1 => if z i = 0 then atL z i else i :: atL z i
theorem atL_lt (z : Nat → Int) : ∀ k, ∀ p ∈ atL z k, p < k ∧ z p ≠ 0
  | 0 => by simp [atL]
  | i + 1 => by
    intro p hp
    unfold atL at hp
    by_cases h : z i = 0
    · rw [if_pos h] at hp
      have := atL_lt z i p hp
      exact ⟨by omega, this.2⟩
    · rw [if_neg h] at hp
      rcases List.mem_cons.1 hp with rfl | hp
      · exact ⟨by omega, h⟩
      · have := atL_lt z i p hp
        exact ⟨by omega, this.2⟩
theorem atL_len (z : Nat → Int) : ∀ k, (atL z k).length ≤ k
  | 0 => by simp [atL]
  | i + 1 => by
    have := atL_len z i
    unfold atL
    split
    · omega
    · simp only [List.length_cons]; omega
/-- how far behind each other the places stand: behind place i there are as many places as still come -/
theorem atL_get (z : Nat → Int) : ∀ k i, i < (atL z k).length → (atL z k).length ≤ (atL z k).getD i 0 + i + 1 ∧ (atL z k).getD i 0 < k ∧ z ((atL z k).getD i 0) ≠ 0
  | 0, i, h => by simp [atL] at h
  | k + 1, i, h => by
    unfold atL at h ⊢
    by_cases hz : z k = 0
    · rw [if_pos hz] at h ⊢
      have := atL_get z k i h
      exact ⟨this.1, by omega, this.2.2⟩
    · rw [if_neg hz] at h ⊢
      have hl := atL_len z k
      rcases i with _ | i
      · simp only [List.length_cons, List.getD_cons_zero]
        exact ⟨by omega, by omega, hz⟩
      · simp only [List.length_cons, List.getD_cons_succ] at h ⊢
        have := atL_get z k i (by omega)
        exact ⟨by omega, by omega, this.2.2⟩
theorem atL_dec (z : Nat → Int) : ∀ k i, i + 1 < (atL z k).length → (atL z k).getD (i + 1) 0 < (atL z k).getD i 0
  | 0, i, h => by simp [atL] at h
  | k + 1, i, h => by
    unfold atL at h ⊢
    by_cases hz : z k = 0
    · rw [if_pos hz] at h ⊢
      exact atL_dec z k i h
    · rw [if_neg hz] at h ⊢
      simp only [List.length_cons] at h
      rcases i with _ | i
      · simp only [List.getD_cons_succ, List.getD_cons_zero]
        exact (atL_get z k 0 (by omega)).2.1
      · simp only [List.getD_cons_succ]
        exact atL_dec z k i (by omega)

def isOne (x : Int) : Bool := decide (x = 1 ∨ x = -1)
/-- how many of the first three are 1 or -1, up to one that is not -/
def onesN (z : Nat → Int) : Nat → List Nat → Nat
  | 0, _ => 0
  | _ + 1, [] => 0
  | n + 1, p :: r => if isOne (z p) = true then onesN z n r + 1 else 0
theorem onesN_le (z : Nat → Int) : ∀ n l, onesN z n l ≤ n ∧ onesN z n l ≤ l.length
  | 0, l => by simp [onesN]
  | n + 1, [] => by simp [onesN]
  | n + 1, p :: r => by
    have := onesN_le z n r
    unfold onesN
    simp only [List.length_cons]
    split <;> omega
theorem onesN_of (z : Nat → Int) : ∀ (n : Nat) (l : List Nat) (o : Nat), o ≤ n → o ≤ l.length → (∀ j, j < o → isOne (z (l.getD j 0)) = true) → (o = n ∨ o = l.length ∨ isOne (z (l.getD o 0)) = false) → onesN z n l = o
  | 0, l, o, h1, h2, h3, h4 => by simp [onesN]; omega
  | n + 1, [], o, h1, h2, h3, h4 => by simp at h2; simp [onesN]; omega
  | n + 1, p :: r, o, h1, h2, h3, h4 => by
    unfold onesN
    simp only [List.length_cons] at h2 h4
    rcases o with _ | o
    · simp only [List.getD_cons_zero] at h4
      rw [if_neg (by rcases h4 with h | h | h <;> simp_all)]
    · have h30 := h3 0 (by omega)
      simp only [List.getD_cons_zero] at h30
      rw [if_pos h30, onesN_of z n r o (by omega) (by omega) (fun j hj => by have := h3 (j + 1) (by omega); simpa using this) (by
        simp only [List.getD_cons_succ] at h4
        rcases h4 with h | h | h
        · exact .inl (by omega)
        · exact .inr (.inl (by omega))
        · exact .inr (.inr h))]
theorem onesN_get (z : Nat → Int) : ∀ (n : Nat) (l : List Nat), (∀ j, j < onesN z n l → isOne (z (l.getD j 0)) = true) ∧ (onesN z n l = n ∨ onesN z n l = l.length ∨ isOne (z (l.getD (onesN z n l) 0)) = false)
  | 0, l => by simp [onesN]
  | n + 1, [] => by simp [onesN]
  | n + 1, p :: r => by
    have ih := onesN_get z n r
    unfold onesN
    by_cases h : isOne (z p) = true
    · rw [if_pos h]
      refine ⟨fun j hj => ?_, ?_⟩
      · rcases j with _ | j
        · simpa using h
        · simp only [List.getD_cons_succ]
          exact ih.1 j (by omega)
      · simp only [List.length_cons, List.getD_cons_succ]
        rcases ih.2 with h | h | h
        · exact .inl (by omega)
        · exact .inr (.inl (by omega))
        · exact .inr (.inr h)
    · rw [if_neg h]
      exact ⟨fun j hj => absurd hj (by omega), .inr (.inr (by simpa using h))⟩

def near (c : Int) : Int := if 0 < c then c - 1 else c + 1
/-- how a level is told -/
def told (o i : Nat) (c : Int) : Int := if i = o ∧ o < 3 then near c else c
def oneL (o i : Nat) (c : Int) : List Bool := if i < o then [decide (c < 0)] else seL (told o i c)
def lvL (z : Nat → Int) (o : Nat) : Nat → List Nat → List Bool
  | _, [] => []
  | i, p :: r => oneL o i (z p) ++ lvL z o (i + 1) r
def teZ (x most : Nat) : List Bool := if most = 0 then [] else teL x most
def rnL : Nat → List Nat → List Bool
  | left, p :: q :: r => if 0 < left then teL (p - q - 1) left ++ rnL (left - (p - q - 1)) (q :: r) else []
  | _, _ => []
def lvLeft (l : List Nat) : Nat := l.getD 0 0 + 1 - l.length
def lvOnes (z : Nat → Int) (l : List Nat) : Nat := onesN z (min 3 l.length) l
/-- a block's bits -/
def lvPut (z : Nat → Int) (k : Nat) : List Bool :=
  teL (atL z k).length k ++ if (atL z k).length = 0 then [] else
    teL (lvOnes z (atL z k)) (min 3 (atL z k).length) ++ lvL z (lvOnes z (atL z k)) 0 (atL z k) ++ teZ (lvLeft (atL z k)) (k - (atL z k).length) ++ rnL (lvLeft (atL z k)) (atL z k)
def sizeOk (k : Nat) : Bool := k == 4 || k == 15 || k == 16
def lvOk (z : Nat → Int) (k : Nat) : Bool := (List.range k).all fun i => decide (-32767 ≤ z i ∧ z i ≤ 32767)
theorem lvOk_iff (z : Nat → Int) (k : Nat) : lvOk z k = true ↔ ∀ i, i < k → -32767 ≤ z i ∧ z i ≤ 32767 := by simp [lvOk]
/-- a block's answer -/
def lvE (z : Nat → Int) (k : Nat) : Int := if sizeOk k = true then (if lvOk z k = true then 0 else 702) else 700
def lvB (z : Nat → Int) (k : Nat) : List Bool := if sizeOk k = true ∧ lvOk z k = true then lvPut z k else []
theorem lvE_no {z : Nat → Int} {k : Nat} (h : ¬ sizeOk k = true) : lvE z k = 700 ∧ lvB z k = [] := by
  unfold lvE lvB
  rw [if_neg h, if_neg (fun q => h q.1)]
  exact ⟨rfl, rfl⟩
theorem lvE_far {z : Nat → Int} {k : Nat} (h : sizeOk k = true) (h2 : ¬ lvOk z k = true) : lvE z k = 702 ∧ lvB z k = [] := by
  unfold lvE lvB
  rw [if_pos h, if_neg h2, if_neg (fun q => h2 q.2)]
  exact ⟨rfl, rfl⟩
theorem lvE_yes {z : Nat → Int} {k : Nat} (h : sizeOk k = true) (h2 : lvOk z k = true) : lvE z k = 0 ∧ lvB z k = lvPut z k := by
  unfold lvE lvB
  rw [if_pos h, if_pos h2, if_pos ⟨h, h2⟩]
  exact ⟨rfl, rfl⟩
theorem sizeOk_le {k : Nat} (h : sizeOk k = true) : 4 ≤ k ∧ k ≤ 16 := by
  unfold sizeOk at h
  simp only [Bool.or_eq_true, beq_iff_eq] at h
  omega
theorem lvL_get (z : Nat → Int) (o : Nat) (l : List Nat) (i : Nat) (h : i < l.length) : ∀ j, lvL z o j (l.drop i) = oneL o j (z (l.getD i 0)) ++ lvL z o (j + 1) (l.drop (i + 1)) := by
  intro j
  rw [List.drop_eq_getElem_cons h, List.getD_eq_getElem?_getD, List.getElem?_eq_getElem h]
  rfl
theorem rnL_cons (left p q : Nat) (r : List Nat) : rnL left (p :: q :: r) = if 0 < left then teL (p - q - 1) left ++ rnL (left - (p - q - 1)) (q :: r) else [] := rfl
theorem rnL_get (l : List Nat) (i left : Nat) (h : i + 1 < l.length) (hl : 0 < left) : rnL left (l.drop i) = teL (l.getD i 0 - l.getD (i + 1) 0 - 1) left ++ rnL (left - (l.getD i 0 - l.getD (i + 1) 0 - 1)) (l.drop (i + 1)) := by
  rw [List.drop_eq_getElem_cons (show i < l.length by omega), List.drop_eq_getElem_cons h, List.getD_eq_getElem?_getD, List.getElem?_eq_getElem (by omega), List.getD_eq_getElem?_getD, List.getElem?_eq_getElem h]
  rw [rnL_cons, if_pos hl]
  rfl
theorem rnL_end (l : List Nat) (i left : Nat) (h : l.length ≤ i + 1 ∨ left = 0) : rnL left (l.drop i) = [] := by
  rcases h with h | h
  · have : (l.drop i).length ≤ 1 := by rw [List.length_drop]; omega
    match l.drop i, this with
    | [], _ => rfl
    | [_], _ => rfl
  · subst h
    match l.drop i with
    | [] => rfl
    | [_] => rfl
    | _ :: _ :: _ => rfl
theorem seL_le' {x : Int} (h0 : -1073741823 ≤ x) (h1 : x ≤ 1073741823) : (seL x).length ≤ 61 := seL_le h0 h1
theorem oneL_le (o i : Nat) (c : Int) (h : -32767 ≤ c ∧ c ≤ 32767) : (oneL o i c).length ≤ 61 := by
  unfold oneL
  split
  · simp
  · apply seL_le
    · unfold told near; split <;> (try split) <;> omega
    · unfold told near; split <;> (try split) <;> omega
end Go.Proofs.Ytocooplmfkeepaa
