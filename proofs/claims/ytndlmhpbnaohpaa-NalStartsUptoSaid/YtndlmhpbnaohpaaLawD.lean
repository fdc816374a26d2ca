/- The statement NalStarts: the plain part. -/
import Derived.Test.YtndlmhpbnaohpaaNalK
namespace Go.Proofs.Ytndlmhpbnaohpaa
open Go.RowKit
set_option linter.unusedVariables false
set_option linter.unusedSimpArgs false

/-- the bytes of units and of the starts ahead of them -/
def sumL : List (List UInt8) → Nat
  | [] => 0
  | x :: r => 3 + x.length + sumL r
theorem sumL_append (a b : List (List UInt8)) : sumL (a ++ b) = sumL a + sumL b := by
  induction a with
  | nil => simp [sumL]
  | cons x r ih => simp only [List.cons_append, sumL, ih]; omega
theorem splF_sum (l : List UInt8) : ∀ cur, sumL (splF cur l) = 3 + cur.length + l.length := by
  induction hn : l.length using Nat.strongRecOn generalizing l with
  | _ n ih =>
    intro cur
    cases l with
    | nil =>
      rw [splF_nil]
      simp only [List.length_nil] at hn
      simp only [sumL]
      omega
    | cons b t =>
      by_cases h : st3.isPrefixOf (b :: t) = true
      · have h3 := List.IsPrefix.length_le (List.isPrefixOf_iff_prefix.1 h)
        simp only [st3, List.length_cons, List.length_nil] at h3 hn
        rw [splF_yes _ _ h]
        have := ih ((b :: t).drop 3).length (by simp only [List.length_drop, List.length_cons]; omega) _ rfl []
        simp only [List.length_cons, List.length_drop, List.length_nil] at this
        simp only [sumL]
        omega
      · rw [splF_no _ _ _ h]
        simp only [List.length_cons] at hn
        have := ih t.length (by omega) t rfl (cur ++ [b])
        simp only [List.length_append, List.length_cons, List.length_nil] at this
        omega
theorem splF_pos (l : List UInt8) : ∀ cur, 0 < (splF cur l).length := by
  induction l with
  | nil => intro cur; rw [splF_nil]; simp
  | cons b t ih =>
    intro cur
    by_cases h : st3.isPrefixOf (b :: t) = true
    · rw [splF_yes _ _ h]; simp
    · rw [splF_no _ _ _ h]; exact ih _
/-- does a text begin with a start? -/
theorem begins_at (s : ByteArray) (h : 3 ≤ s.size) : st3.isPrefixOf (tB s) = (((s[0]'(by omega)).toNat == 0) && ((s[1]'(by omega)).toNat == 0) && ((s[2]'(by omega)).toNat == 1)) := by
  obtain ⟨⟨l⟩⟩ := s
  match l, h with
  | a :: b :: c :: t, _ =>
    have e : ∀ x : UInt8, ∀ n : Nat, n < 256 → ((UInt8.ofNat n == x) = (x.toNat == n)) := fun x n hn => by
      rw [Bool.eq_iff_iff, beq_iff_eq, beq_iff_eq]
      constructor
      · rintro rfl
        simp
        omega
      · rintro rfl
        simp
    have e0 := e a 0 (by omega)
    have e1 := e b 0 (by omega)
    have e2 := e c 1 (by omega)
    show ((0 : UInt8) == a && ((0 : UInt8) == b && ((1 : UInt8) == c && true))) = ((a.toNat == 0) && (b.toNat == 0) && (c.toNat == 1))
    have f0 : ((0 : UInt8) == a) = (a.toNat == 0) := e0
    have f1 : ((0 : UInt8) == b) = (b.toNat == 0) := e1
    have f2 : ((1 : UInt8) == c) = (c.toNat == 1) := e2
    rw [f0, f1, f2, Bool.and_true, Bool.and_assoc]
end Go.Proofs.Ytndlmhpbnaohpaa
