/- Many cells set at once. No function of the program. -/
import Derived.Test.YtfignfohcalcfaaGreatDoorTouch
import Derived.Deep.MidRow
namespace Go.Proofs.YtfignfohcalcfaaGreatDoor
open Go.RowKit
set_option linter.unusedVariables false

theorem cell_lt {w : World} {p : Addr} {v : Value} (h : w.cell? p = some v) : p.block < w.heap.size := by
  rcases Nat.lt_or_ge p.block w.heap.size with h' | h'
  · exact h'
  · unfold World.cell? at h
    rw [Array.getElem?_eq_none h'] at h
    cases h
theorem touch_setCells {S : Nat → Prop} (b : Nat) (hb : S b) : ∀ (vs : List Value) (o : Nat) {a w : World}, Touch S a w → Touch S a (w.setCells b o vs)
  | [], o, a, w, h => h
  | v :: r, o, a, w, h => touch_setCells b hb r (o + 1) (h.setCell (p := ⟨b, o, none⟩) (fun _ => hb) v)
theorem size_setCells (b : Nat) : ∀ (vs : List Value) (o : Nat) (w : World), (w.setCells b o vs).heap.size = w.heap.size
  | [], o, w => rfl
  | v :: r, o, w => (size_setCells b r (o + 1) _).trans (by simp [World.setCell])
theorem bk_setCells {b : Nat} {T : TypeId} : ∀ (vs : List Value) (o : Nat) {cs : Array Value} {w : World}, Bk w b T cs → o + vs.length ≤ cs.size →
    ∃ cs', Bk (w.setCells b o vs) b T cs' ∧ cs'.size = cs.size ∧ (∀ j, j < vs.length → cs'[o + j]? = vs[j]?) ∧ ∀ i, i < o ∨ o + vs.length ≤ i → cs'[i]? = cs[i]?
  | [], o, cs, w, h, hl => ⟨cs, h, rfl, fun j hj => absurd hj (Nat.not_lt_zero _), fun _ _ => rfl⟩
  | v :: r, o, cs, w, h, hl => by
    simp only [List.length_cons] at hl
    obtain ⟨cs', h1, h2, h3, h4⟩ := bk_setCells r (o + 1) (h.set_ o v) (by rw [Array.size_setIfInBounds]; omega)
    refine ⟨cs', h1, by simpa using h2, fun j hj => ?_, fun i hi => ?_⟩
    · cases j with
      | zero => rw [Nat.add_zero, h4 o (Or.inl (by omega))]; rw [Array.getElem?_setIfInBounds, if_pos rfl, if_pos (by omega)]; rfl
      | succ j => simp only [List.length_cons] at hj; rw [show o + (j + 1) = o + 1 + j by omega, h3 j (by omega)]; rfl
    · simp only [List.length_cons] at hi
      rw [h4 i (by omega), Array.getElem?_setIfInBounds_ne (by omega)]
theorem there_bk {w : World} {b o n : Nat} {T : TypeId} {cs : Array Value} (h : Bk w b T cs) (hn : o + n ≤ cs.size) : w.there b o n := fun j hj =>
  ⟨by rw [h.cell (o + j)]; simp; omega, h.frozen (o + j)⟩
end Go.Proofs.YtfignfohcalcfaaGreatDoor
