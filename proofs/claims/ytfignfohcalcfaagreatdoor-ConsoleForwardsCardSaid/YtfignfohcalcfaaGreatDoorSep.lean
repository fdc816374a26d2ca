/- Two rows of the call's own that lie apart. No function of the program. -/
import Derived.Test.YtfignfohcalcfaaGreatDoorTouch
import Derived.Maps.AppendAt
namespace Go.Proofs.YtfignfohcalcfaaGreatDoor
open Go.RowKit
set_option linter.unusedVariables false

def Sep (v u : Value) : Prop := ∀ k, v.ownBlock = some k → u.ownBlock ≠ some k
section
variable {w w' : World} {base base' : Nat} {e e' : TypeId} {size size' : Nat} {v v' u : Value} {n m : Nat} {xs ys : List Value}
theorem Sep.symm (h : Sep v u) : Sep u v := fun k hu hv => h k hv hu
theorem Sep.nil (u : Value) : Sep (.slice none 0 0) u := fun k h => by simp [Value.ownBlock] at h
theorem Sep.step {N : Nat} (hu : w.ownsRow base e size u n xs) (hs : Sep v u) (hat : v'.ownBlock = v.ownBlock ∨ v'.ownBlock = some N) (hN : w.heap.size ≤ N) : Sep v' u := fun k hk q => by
  rcases hat with h | h
  · exact hs k (h ▸ hk) q
  · have := (hu.lt k q).2
    rw [hk] at h
    have : k = N := by injection h
    omega
theorem Sep.kept (hu : w.ownsRow base e size u n xs) (hg : w.grownBy w' v.ownBlock) (hs : Sep v u) : w'.ownsRow base e size u n xs :=
  hu.kept hg (by
    rcases hv : v.ownBlock with _ | k
    · rcases hu' : u.ownBlock with _ | j
      · exact .inl rfl
      · exact .inr (by simp)
    · exact .inr (hs k hv))
theorem Sep.of_base (hv : w.ownsRow base e size v n xs) (hu : w.ownsRow base' e' size' u m ys) (hb : w'.heap.size ≤ base') (hl : ∀ k, v.ownBlock = some k → k < w'.heap.size) : Sep v u := fun k hk q => by
  have := (hu.lt k q).1
  have := hl k hk
  omega
end

end Go.Proofs.YtfignfohcalcfaaGreatDoor
