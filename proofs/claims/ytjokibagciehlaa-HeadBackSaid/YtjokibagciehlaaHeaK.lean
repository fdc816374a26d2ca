/- Rows that a caller hands in, as a header's lists. -/
import Derived.Test.YtjokibagciehlaaHeaZ
import Derived.Test.YtjokibagciehlaaStructs
namespace Go.Proofs.Ytjokibagciehlaa
open Go.RowKit
set_option linter.unusedVariables false
theorem rows_rw {α : Type} {w : World} {A : Option Addr} {n c C : Nat} {V : Nat → Nat → Value} {f : α → Nat → Value} (hC : 0 < C) (R : RowsOf w A n c C V) (g : Nat → α)
    (e : ∀ k, k < n → ∀ j, j < C → V k j = f (g k) j) : RwAt w w.heap.size A C f ((List.range n).map g) := fun hn => by
  obtain ⟨ad, rfl, hb, hc⟩ := R.1 (by simpa using hn)
  refine ⟨ad, rfl, hb, fun k hk => ?_⟩
  have hk' : k < n := by simpa using hk
  rw [List.getElem_map, List.getElem_range]
  refine ⟨by rw [← e k hk' 0 hC]; exact hc k hk' 0 hC, fun j h0 hj => ?_⟩
  rw [← e k hk' j hj, ← hc k hk' j hj]
  have hp : ad.add (k * C + j) = ⟨(ad.add (k * C)).block, (ad.add (k * C)).off + j, none⟩ := by
    unfold Addr.add
    rw [if_neg (by omega)]
    by_cases h : k * C = 0
    · rw [if_pos h, h, Nat.zero_add]
    · rw [if_neg h]
      simp [Nat.add_assoc]
  rw [hp]
end Go.Proofs.Ytjokibagciehlaa
