/- How many values a reading holds: what the second form's bound gives. -/
import Derived.Test.YtocooplmfkeepaaRows
namespace Go.Proofs.Ytocooplmfkeepaa

theorem bulk_one {H : Type} (d : DataW H) : 1 ≤ Rows.uptoBulk d := by
  cases d with
  | lit l => cases l <;> simp [Rows.uptoBulk]
  | _ => simp [Rows.uptoBulk]
theorem bulk_len {H : Type} (l : List (DataW H)) : l.length ≤ Rows.uptoBulkAll l := by
  induction l with
  | nil => simp [Rows.uptoBulkAll]
  | cons d l ih =>
    have := bulk_one d
    simp only [Rows.uptoBulkAll, List.length_cons]
    omega
theorem bulk_part {H : Type} {d : DataW H} {l : List (DataW H)} (h : d ∈ l) : Rows.uptoBulk d ≤ Rows.uptoBulkAll l := by
  induction l with
  | nil => cases h
  | cons x l ih =>
    simp only [Rows.uptoBulkAll]
    rcases List.mem_cons.1 h with rfl | h
    · omega
    · have := ih h
      omega
theorem bulk_map {H : Type} (f : Nat → DataW H) (g : Nat → Nat) (n : Nat) (h : ∀ i, i < n → g i ≤ Rows.uptoBulk (f i)) : ((List.range n).map g).sum ≤ Rows.uptoBulkAll ((List.range n).map f) := by
  have key : ∀ l : List Nat, (∀ i ∈ l, g i ≤ Rows.uptoBulk (f i)) → (l.map g).sum ≤ Rows.uptoBulkAll (l.map f) := by
    intro l
    induction l with
    | nil => intro _; simp [Rows.uptoBulkAll]
    | cons x l ih =>
      intro hl
      have h1 := hl x (by simp)
      have h2 := ih (fun i hi => hl i (by simp [hi]))
      simp only [List.map_cons, List.sum_cons, Rows.uptoBulkAll]
      omega
  exact key _ fun i hi => h i (List.mem_range.1 hi)
end Go.Proofs.Ytocooplmfkeepaa
