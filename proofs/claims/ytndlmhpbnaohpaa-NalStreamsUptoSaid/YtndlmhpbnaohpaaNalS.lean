/- A stream cut at its starts, plainly. No function of the program. -/
import Derived.Test.YtndlmhpbnaohpaaBase
import Derived.Lib.IndexMore
namespace Go.Proofs.Ytndlmhpbnaohpaa
set_option linter.unusedVariables false

def st3 : List UInt8 := [0, 0, 1]
/-- what stands between the starts; cur: what is read of the unit under way -/
def splF (cur : List UInt8) : List UInt8 → List (List UInt8)
  | [] => [cur]
  | b :: l => if st3.isPrefixOf (b :: l) = true then cur :: splF [] (l.drop 2) else splF (cur ++ [b]) l
termination_by l => l.length
decreasing_by
  · simp only [List.length_drop, List.length_cons]; omega
  · simp
theorem splF_nil (cur : List UInt8) : splF cur [] = [cur] := by rw [splF]
theorem splF_yes (cur : List UInt8) (l : List UInt8) (h : st3.isPrefixOf l = true) : splF cur l = cur :: splF [] (l.drop 3) := by
  cases l with
  | nil => cases h
  | cons b t => rw [splF, if_pos h]; rfl
theorem splF_no (cur : List UInt8) (b : UInt8) (l : List UInt8) (h : ¬ st3.isPrefixOf (b :: l) = true) : splF cur (b :: l) = splF (cur ++ [b]) l := by rw [splF, if_neg h]
theorem splF_cut (l : List UInt8) : ∀ cur, splF cur l = if (Lib.cut l st3).2.2 = true then (cur ++ (Lib.cut l st3).1) :: splF [] (Lib.cut l st3).2.1 else [cur ++ (Lib.cut l st3).1] := by
  induction l with
  | nil =>
    intro cur
    have hc : Lib.cut [] st3 = ([], [], false) := by decide
    rw [splF_nil, hc]
    simp
  | cons b t ih =>
    intro cur
    by_cases h : st3.isPrefixOf (b :: t) = true
    · have hi : Lib.index (b :: t) st3 = 0 := by rw [Lib.index, if_pos h]
      rw [splF_yes _ _ h]
      unfold Lib.cut
      rw [hi]
      simp [st3]
    · rw [splF_no _ _ _ h, ih]
      have hg := Lib.index_ge t st3
      by_cases h2 : Lib.index t st3 = -1
      · have hi : Lib.index (b :: t) st3 = -1 := by rw [Lib.index, if_neg h, if_pos (by rw [h2]; rfl)]
        unfold Lib.cut
        rw [hi, h2]
        simp
      · obtain ⟨n, hn⟩ : ∃ n : Nat, Lib.index t st3 = n := ⟨(Lib.index t st3).toNat, by omega⟩
        have hi : Lib.index (b :: t) st3 = ((n + 1 : Nat) : Int) := by
          rw [Lib.index, if_neg h, if_neg (by rw [beq_iff_eq]; exact h2), hn]
          rfl
        have hc : Lib.cut t st3 = (t.take n, t.drop (n + 3), true) := by
          unfold Lib.cut
          rw [hn, if_pos (by omega)]
          rfl
        have hc2 : Lib.cut (b :: t) st3 = ((b :: t).take (n + 1), (b :: t).drop (n + 1 + 3), true) := by
          unfold Lib.cut
          rw [hi, if_pos (by omega)]
          rfl
        rw [hc, hc2]
        have e : n + 1 + 3 = (n + 3) + 1 := by omega
        simp [e]
/-- behind what Cut gives the next start stands -/
theorem cut_more {l : List UInt8} (h : (Lib.cut l st3).2.2 = true) : st3.isPrefixOf (l.drop (Lib.cut l st3).1.length) = true ∧ (Lib.cut l st3).2.1 = (l.drop (Lib.cut l st3).1.length).drop 3 := by
  induction l with
  | nil => cases h
  | cons b t ih =>
    by_cases hp : st3.isPrefixOf (b :: t) = true
    · have hi : Lib.index (b :: t) st3 = 0 := by rw [Lib.index, if_pos hp]
      have hc : Lib.cut (b :: t) st3 = ([], (b :: t).drop 3, true) := by
        unfold Lib.cut
        rw [hi]
        rfl
      rw [hc]
      exact ⟨hp, rfl⟩
    · have hg := Lib.index_ge t st3
      by_cases h2 : Lib.index t st3 = -1
      · have hi : Lib.index (b :: t) st3 = -1 := by rw [Lib.index, if_neg hp, if_pos (by rw [h2]; rfl)]
        unfold Lib.cut at h
        rw [hi] at h
        simp at h
      · obtain ⟨n, hn⟩ : ∃ n : Nat, Lib.index t st3 = n := ⟨(Lib.index t st3).toNat, by omega⟩
        have hi : Lib.index (b :: t) st3 = ((n + 1 : Nat) : Int) := by
          rw [Lib.index, if_neg hp, if_neg (by rw [beq_iff_eq]; exact h2), hn]
          rfl
        have hc : Lib.cut t st3 = (t.take n, t.drop (n + 3), true) := by
          unfold Lib.cut
          rw [hn, if_pos (by omega)]
          rfl
        have hc2 : Lib.cut (b :: t) st3 = ((b :: t).take (n + 1), (b :: t).drop (n + 1 + 3), true) := by
          unfold Lib.cut
          rw [hi, if_pos (by omega)]
          rfl
        have := ih (by rw [hc])
        rw [hc] at this
        rw [hc2]
        simp only [List.take_succ_cons, List.length_cons, List.drop_succ_cons] at this ⊢
        refine ⟨this.1, ?_⟩
        exact this.2
theorem cut_first_len (l : List UInt8) : (Lib.cut l st3).1.length ≤ l.length := by
  unfold Lib.cut
  split
  · simp only [List.length_take]; omega
  · simp
theorem splF_len (l : List UInt8) : ∀ cur, (splF cur l).length ≤ l.length + 1 := by
  induction hn : l.length using Nat.strongRecOn generalizing l with
  | _ n ih =>
    intro cur
    cases l with
    | nil => rw [splF_nil]; simp
    | cons b t =>
      by_cases h : st3.isPrefixOf (b :: t) = true
      · rw [splF_yes _ _ h]
        simp only [List.length_cons] at hn
        have := ih ((b :: t).drop 3).length (by simp only [List.length_drop, List.length_cons]; omega) _ rfl []
        simp only [List.length_cons, List.length_drop] at this ⊢
        omega
      · rw [splF_no _ _ _ h]
        simp only [List.length_cons] at hn
        have := ih t.length (by omega) t rfl (cur ++ [b])
        omega
end Go.Proofs.Ytndlmhpbnaohpaa
