/- Bytes escaped, plainly. No function of the program. -/
import Derived.Test.YtfignfohcalcfaaGreatDoorBase
namespace Go.Proofs.YtfignfohcalcfaaGreatDoor
set_option linter.unusedVariables false

def stepE (st : List Nat × Nat) (b : Nat) : List Nat × Nat := if st.2 = 2 ∧ b ≤ 3 then (st.1 ++ [3, b], if b = 0 then 1 else 0) else (st.1 ++ [b], if b = 0 then st.2 + 1 else 0)
def stepU (st : List Nat × Nat) (b : Nat) : List Nat × Nat := if b = 3 ∧ st.2 = 2 then (st.1, 0) else (st.1 ++ [b], if b = 0 then st.2 + 1 else 0)
def esc (l : List Nat) : List Nat := (l.foldl stepE ([], 0)).1
def une (l : List Nat) : List Nat := (l.foldl stepU ([], 0)).1
def escZ : Nat → List Nat → List Nat
  | _, [] => []
  | z, b :: t => if z = 2 ∧ b ≤ 3 then 3 :: b :: escZ (if b = 0 then 1 else 0) t else b :: escZ (if b = 0 then z + 1 else 0) t
def uneZ : Nat → List Nat → List Nat
  | _, [] => []
  | z, b :: t => if b = 3 ∧ z = 2 then uneZ 0 t else b :: uneZ (if b = 0 then z + 1 else 0) t
theorem esc_fold (l : List Nat) : ∀ E z, (l.foldl stepE (E, z)).1 = E ++ escZ z l := by
  induction l with
  | nil => intro E z; simp [escZ]
  | cons b t ih =>
    intro E z
    rw [List.foldl_cons, escZ]
    by_cases h : z = 2 ∧ b ≤ 3
    · have e : stepE (E, z) b = (E ++ [3, b], if b = 0 then 1 else 0) := if_pos h
      rw [e, ih, if_pos h]
      simp
    · have e : stepE (E, z) b = (E ++ [b], if b = 0 then z + 1 else 0) := if_neg h
      rw [e, ih, if_neg h]
      simp
theorem une_fold (l : List Nat) : ∀ E z, (l.foldl stepU (E, z)).1 = E ++ uneZ z l := by
  induction l with
  | nil => intro E z; simp [uneZ]
  | cons b t ih =>
    intro E z
    rw [List.foldl_cons, uneZ]
    by_cases h : b = 3 ∧ z = 2
    · have e : stepU (E, z) b = (E, 0) := if_pos h
      rw [e, ih, if_pos h]
    · have e : stepU (E, z) b = (E ++ [b], if b = 0 then z + 1 else 0) := if_neg h
      rw [e, ih, if_neg h]
      simp
theorem esc_eq (l : List Nat) : esc l = escZ 0 l := by unfold esc; rw [esc_fold]; simp
theorem une_eq (l : List Nat) : une l = uneZ 0 l := by unfold une; rw [une_fold]; simp
theorem une_esc' (l : List Nat) : ∀ z, z ≤ 2 → uneZ z (escZ z l) = l := by
  induction l with
  | nil => intro z _; simp [escZ, uneZ]
  | cons b t ih =>
    intro z hz
    rw [escZ]
    split
    · rename_i h
      obtain ⟨rfl, hb⟩ := h
      rw [uneZ, if_pos ⟨rfl, rfl⟩, uneZ, if_neg (by omega)]
      have := ih (if b = 0 then 1 else 0) (by split <;> omega)
      by_cases h0 : b = 0
      · simp [h0] at this ⊢; exact this
      · simp [h0] at this ⊢; exact this
    · rename_i h
      rw [uneZ, if_neg (by omega), ih _ (by split <;> omega)]
theorem une_esc (l : List Nat) : une (esc l) = l := by rw [une_eq, esc_eq]; exact une_esc' l 0 (by omega)
theorem esc_len' (l : List Nat) : ∀ z, z ≤ 2 → l.length ≤ (escZ z l).length ∧ 2 * (escZ z l).length ≤ 3 * l.length + z := by
  induction l with
  | nil => intro z _; simp [escZ]
  | cons b t ih =>
    intro z hz
    rw [escZ]
    split
    · rename_i h
      have := ih (if b = 0 then 1 else 0) (by split <;> omega)
      have h2 : (if b = 0 then 1 else 0) ≤ 1 := by split <;> omega
      simp only [List.length_cons]
      omega
    · rename_i h
      have := ih (if b = 0 then z + 1 else 0) (by split <;> omega)
      have h2 : (if b = 0 then z + 1 else 0) ≤ z + 1 := by split <;> omega
      simp only [List.length_cons]
      omega
theorem esc_len (l : List Nat) : l.length ≤ (esc l).length ∧ 2 * (esc l).length ≤ 3 * l.length := by
  rw [esc_eq]
  have := esc_len' l 0 (by omega)
  omega
theorem une_len (l : List Nat) : (une l).length ≤ l.length := by
  rw [une_eq]
  have : ∀ z, (uneZ z l).length ≤ l.length := by
    induction l with
    | nil => intro z; simp [uneZ]
    | cons b t ih =>
      intro z
      rw [uneZ]
      split
      · have := ih 0; simp only [List.length_cons]; omega
      · have := ih (if b = 0 then z + 1 else 0); simp only [List.length_cons]; omega
  exact this 0
theorem esc_bytes (l : List Nat) (h : ∀ b ∈ l, b < 256) : ∀ b ∈ esc l, b < 256 := by
  rw [esc_eq]
  have : ∀ z, ∀ b ∈ escZ z l, b < 256 := by
    induction l with
    | nil => intro z b hb; simp [escZ] at hb
    | cons x t ih =>
      intro z b hb
      have hx := h x (by simp)
      have ht := ih (fun b hb => h b (by simp [hb]))
      rw [escZ] at hb
      split at hb
      · rcases List.mem_cons.1 hb with rfl | hb
        · omega
        · rcases List.mem_cons.1 hb with rfl | hb
          · exact hx
          · exact ht _ b hb
      · rcases List.mem_cons.1 hb with rfl | hb
        · exact hx
        · exact ht _ b hb
  exact this 0
theorem une_bytes (l : List Nat) (h : ∀ b ∈ l, b < 256) : ∀ b ∈ une l, b < 256 := by
  rw [une_eq]
  have : ∀ z, ∀ b ∈ uneZ z l, b < 256 := by
    induction l with
    | nil => intro z b hb; simp [uneZ] at hb
    | cons x t ih =>
      intro z b hb
      have hx := h x (by simp)
      have ht := ih (fun b hb => h b (by simp [hb]))
      rw [uneZ] at hb
      split at hb
      · exact ht _ b hb
      · rcases List.mem_cons.1 hb with rfl | hb
        · exact hx
        · exact ht _ b hb
  exact this 0
/-- what is escaped holds no start: behind two noughts 3 or more -/
def NoStart : Nat → List Nat → Prop
  | _, [] => True
  | z, b :: t => (2 ≤ z → 3 ≤ b) ∧ NoStart (if b = 0 then z + 1 else 0) t
theorem esc_nostart (l : List Nat) : ∀ z, z ≤ 2 → NoStart z (escZ z l) := by
  induction l with
  | nil => intro z _; simp [escZ, NoStart]
  | cons b t ih =>
    intro z hz
    rw [escZ]
    split
    · rename_i h
      refine ⟨fun _ => by omega, ?_⟩
      show NoStart (if (3 : Nat) = 0 then z + 1 else 0) _
      rw [if_neg (by omega)]
      refine ⟨fun h => by omega, ?_⟩
      have := ih (if b = 0 then 1 else 0) (by split <;> omega)
      by_cases h0 : b = 0
      · simpa [h0] using this
      · simpa [h0] using this
    · rename_i h
      exact ⟨fun h2 => by omega, ih _ (by split <;> omega)⟩
theorem nostart_at : ∀ (l : List Nat) (z : Nat), NoStart z l → ∀ k, k + 2 < l.length → l.getD k 0 = 0 → l.getD (k + 1) 0 = 0 → 3 ≤ l.getD (k + 2) 0
  | [], z, h, k, hk, _, _ => by simp at hk
  | b :: t, z, h, 0, hk, h0, h1 => by
    match t, h, hk, h1 with
    | x :: y :: t, h, hk, h1 =>
      have hb : b = 0 := by simpa using h0
      have hx : x = 0 := by simpa using h1
      obtain ⟨_, _, h2⟩ := h
      rw [hb, hx] at h2
      simp only [if_true] at h2
      have := h2.1 (by omega)
      simpa using this
  | b :: t, z, h, k + 1, hk, h0, h1 => by
    have := nostart_at t _ h.2 k (by simp at hk; omega) (by simpa using h0) (by simpa using h1)
    simpa using this

end Go.Proofs.YtfignfohcalcfaaGreatDoor
