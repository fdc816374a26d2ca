/- Slices that read as a function of the place: lemmas, no function of the program. -/
import Derived.Test.YtfignfohcalcfaaGreatDoorBase
import Derived.Laws.OwnMore
import Derived.Deep.AppendLies
namespace Go.Proofs.YtfignfohcalcfaaGreatDoor
open Go.RowKit
set_option linter.unusedVariables false

/-- Behind the slice's address A lie n cells: place k holds f k; the block lies below B. -/
def Rd (w : World) (B : Nat) (A : Option Addr) (n : Nat) (f : Nat → Value) : Prop :=
  0 < n → ∃ ad, A = some ad ∧ ad.block < B ∧ ∀ k, k < n → w.cell? (ad.add k) = some (f k)
/-- The same of ints. -/
def Ri (w : World) (B : Nat) (A : Option Addr) (n : Nat) (z : Nat → Int) : Prop := Rd w B A n fun k => .int .i64 (z k)

theorem block_add (a : Addr) (n : Nat) : (a.add n).block = a.block := by
  unfold Addr.add
  split <;> rfl
theorem add_new (g k : Nat) : (⟨g, 0, none⟩ : Addr).add k = ⟨g, k, none⟩ := by
  unfold Addr.add
  split
  · subst_vars; rfl
  · simp

section
variable {w w' : World} {B B' n m : Nat} {A : Option Addr} {f : Nat → Value} {z : Nat → Int}
theorem Rd.at_ {k : Nat} (h : Rd w B A n f) (hk : k < n) : ∃ ad, A = some ad ∧ ad.block < B ∧ w.cell? (ad.add k) = some (f k) := by
  obtain ⟨ad, e, hb, hc⟩ := h (by omega)
  exact ⟨ad, e, hb, hc k hk⟩
theorem Rd.keep (h : Rd w B A n f) (hk : ∀ p : Addr, p.block < B → w'.cell? p = w.cell? p) : Rd w' B A n f := fun hn => by
  obtain ⟨ad, e, hb, hc⟩ := h hn
  exact ⟨ad, e, hb, fun k hkn => (hk _ (by rw [block_add]; exact hb)).trans (hc k hkn)⟩
theorem Rd.below (h : Rd w B A n f) (hb : Below B' w w') (hB : B ≤ B') : Rd w' B A n f := h.keep fun _ hp => hb.cell (Nat.lt_of_lt_of_le hp hB)
theorem Rd.more (h : Rd w B A n f) (hB : B ≤ B') : Rd w B' A n f := fun hn => by
  obtain ⟨ad, e, hb, hc⟩ := h hn
  exact ⟨ad, e, Nat.lt_of_lt_of_le hb hB, hc⟩
theorem Rd.less (h : Rd w B A n f) (hm : m ≤ n) : Rd w B A m f := fun hn => by
  obtain ⟨ad, e, hb, hc⟩ := h (by omega)
  exact ⟨ad, e, hb, fun k hk => hc k (by omega)⟩
theorem Rd.congr {g : Nat → Value} (h : Rd w B A n f) (hg : ∀ k, k < n → f k = g k) : Rd w B A n g := fun hn => by
  obtain ⟨ad, e, hb, hc⟩ := h hn
  exact ⟨ad, e, hb, fun k hk => (hc k hk).trans (by rw [hg k hk])⟩
theorem Rd.drew (h : Rd w B A n f) : Rd w.drew B A n f := h
theorem Rd.drewN (h : Rd w B A n f) (j : Nat) : Rd (w.drewN j) B A n f := h
theorem Rd.alloc (h : Rd w B A n f) (hB : B ≤ w.heap.size) (o : Obj) : Rd (w.alloc o) B A n f := h.keep fun p hp => World.cell?_alloc_lt w o p (by omega)
theorem Rd.zero (w : World) (B : Nat) (A : Option Addr) (f : Nat → Value) : Rd w B A 0 f := fun h => absurd h (by omega)
theorem Rd.of_own {base : Nat} {e : TypeId} {v : Value} {xs : List Value} (h : w.ownsRow base e 1 v n xs) :
    ∃ A c, v = .slice A n c ∧ n ≤ c ∧ c ≤ maxLen ∧ Rd w w.heap.size A n (fun k => xs.getD k undef) := by
  rcases h.2 with ⟨rfl, rfl⟩ | ⟨g, cap, cur, rfl, hbg, hh, hnc, hcm, _, _⟩
  · exact ⟨none, 0, rfl, Nat.le_refl _, Nat.zero_le _, Rd.zero _ _ _ _⟩
  · refine ⟨_, _, rfl, hnc, hcm, fun _ => ⟨⟨g, 0, none⟩, rfl, ?_, fun k hk => ?_⟩⟩
    · show g < w.heap.size
      rcases Nat.lt_or_ge g w.heap.size with h1 | h1
      · exact h1
      · rw [Array.getElem?_eq_none h1] at hh; cases hh
    · have hl : k < xs.length := by have := h.1; omega
      rw [add_new, h.cellAt k (by omega)]
      show xs[k]? = some (xs.getD k undef)
      rw [List.getD_eq_getElem?_getD, List.getElem?_eq_getElem hl]
      rfl
theorem Ri.of_own {base : Nat} {e : TypeId} {v : Value} (h : w.ownsRow base e 1 v n ((List.range n).map fun k => .int .i64 (z k))) :
    ∃ A c, v = .slice A n c ∧ n ≤ c ∧ c ≤ maxLen ∧ Ri w w.heap.size A n z := by
  obtain ⟨A, c, hv, hc, hm, hr⟩ := Rd.of_own h
  exact ⟨A, c, hv, hc, hm, hr.congr fun k hk => by simp [List.getD_eq_getElem?_getD, hk]⟩
end

theorem range_snoc {α : Type} (f : Nat → α) (k : Nat) : (List.range (k + 1)).map f = (List.range k).map f ++ [f k] := by rw [List.range_succ]; simp

end Go.Proofs.YtfignfohcalcfaaGreatDoor
