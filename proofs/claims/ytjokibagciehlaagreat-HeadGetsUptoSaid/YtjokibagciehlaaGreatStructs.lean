/- An argument that is a slice of structs, opened cell by cell. No function of the program. -/
import Derived.Test.YtjokibagciehlaaGreatSlice
import Derived.ProofKit
import Derived.SizedLaws
import Derived.Deep.Slices
namespace Go.Proofs.YtjokibagciehlaaGreat
open Go.RowKit Go.ChangeShapes Go.WideShapes Go.Deep
set_option linter.unusedVariables false

/-- A slice of structs of C cells that came in: cell j of row k is V k j. -/
def RowsOf (w : World) (A : Option Addr) (n c C : Nat) (V : Nat → Nat → Value) : Prop :=
  (0 < n → ∃ ad, A = some ad ∧ ad.block < w.heap.size ∧ ∀ k, k < n → ∀ j, j < C → w.cell? (ad.add (k * C + j)) = some (V k j)) ∧ (A = none → n = 0 ∧ c = 0) ∧ n ≤ c

theorem open_structs {H : Type} {enc : TypeId × Value → H} {P : Program} {w : World} {t e : TypeId} {fs : Array Field} {fuel C : Nat} {A : Option Addr} {n c : Nat} {d : DataW H} {p : List MemPlace}
    (ht : P.underlying t = some (.slice e)) (he : P.underlying e = some (.struct fs)) (hC : P.cellsOf e = C) (hpos : 0 < C) (h : DataW.trod enc P w 0 (fun _ => true) true fuel t [.slice A n c] = some (d, p)) :
    ∃ V : Nat → Nat → Value, RowsOf w A n c C V ∧ (∀ k, k < c → ∀ (j : Nat) (f : Field), fs[j]? = some f → ∃ fu y, DataW.trod enc P w 0 (fun _ => true) true fu f.type ((((List.range C).map (V k)).drop f.offset).take (P.cellsOf f.type)) = some y) ∧
      (c = 0 ∨ ∃ el sp : List (DataW H), d = .slice el sp ∧ el.length + sp.length = c) := by
  rcases open_slice ht h with ⟨hcs, _⟩ | ⟨a, len, cap, m, fu, D, Pl, hcs, _, hl, hm, hmm, hx, hi⟩
  · simp only [List.cons.injEq, Value.slice.injEq, and_true] at hcs
    obtain ⟨rfl, rfl, rfl⟩ := hcs
    exact ⟨fun _ _ => undef, ⟨fun h => absurd h (by omega), fun _ => ⟨rfl, rfl⟩, Nat.le_refl _⟩, fun k hk => absurd hk (by omega), .inl rfl⟩
  · simp only [List.cons.injEq, Value.slice.injEq, and_true] at hcs
    obtain ⟨rfl, rfl, rfl⟩ := hcs
    obtain rfl : m = c := by simpa using hmm
    rw [hC] at hi
    obtain ⟨V, hV⟩ := choose_lt (α := Nat → Value) (p := fun k v => (∀ j, j < C → w.cell? (a.add (k * C + j)) = some (v j)) ∧ DataW.trod enc P w 0 (fun _ => true) true fu e ((List.range C).map v) = some (D k, Pl k)) (fun k hk => by
      obtain ⟨cs', h1, h2⟩ := hi k hk
      obtain ⟨_, hlen, hat⟩ := World.cells?_some h1
      refine ⟨fun j => cs'.getD j undef, fun j hj => ?_, ?_⟩
      · rw [← add_add a (k * C) j, hat j hj]
        show _ = some (cs'.getD j undef)
        rw [List.getD_eq_getElem?_getD, List.getElem?_eq_getElem (by omega)]
        rfl
      · have : (List.range C).map (fun j => cs'.getD j undef) = cs' := by
          apply List.ext_getElem
          · simp [hlen]
          · intro i h3 h4
            simp [List.getD_eq_getElem?_getD, h4]
        rw [this]
        exact h2)
    refine ⟨V, ⟨fun hn => ⟨a, rfl, ?_, fun k hk => (hV k (by omega)).1⟩, (fun q => by cases q), hl⟩, fun k hk j f hj => ?_, .inr ?_⟩
    · have := World.block_lt_of_cell? w _ ((hV 0 (by omega)).1 0 hpos)
      rwa [block_add] at this
    · obtain ⟨xs, n', _, _, _, hxl, hf⟩ := DataW.trod_struct he (hV k hk).2
      refine ⟨n', _, (hf j f hj).trans (List.getElem?_eq_getElem ?_)⟩
      rw [hxl]
      exact (Array.getElem?_eq_some_iff.1 hj).1
    · simp only [Prod.mk.injEq] at hx
      exact ⟨_, _, hx.1, by simp; omega⟩

theorem add_off (a : Addr) (n j : Nat) (hj : 0 < j) : a.add (n + j) = ⟨(a.add n).block, (a.add n).off + j, none⟩ := by
  rw [← add_add]
  generalize a.add n = b
  unfold Addr.add
  rw [if_neg (by omega)]
theorem choose_ints {k : IntKind} {c : Nat} {V : Nat → Value} (hz : (Lit.int k 0).wf = true) (h : ∀ i, i < c → ∃ x, V i = .int k x ∧ (Lit.int k x).wf = true) : ∃ z : Nat → Int, (∀ i, i < c → V i = .int k (z i)) ∧ ∀ i, (Lit.int k (z i)).wf = true := by
  refine ⟨fun i => match V i with | .int _ x => if i < c then x else 0 | _ => 0, fun i hi => ?_, fun i => ?_⟩
  · obtain ⟨x, hx, _⟩ := h i hi
    simp [hx, hi]
  · by_cases hi : i < c
    · obtain ⟨x, hx, hw⟩ := h i hi
      simpa [hx, hi] using hw
    · simp only [hi, if_false]
      cases V i <;> simpa using hz
theorem choose_strings {c : Nat} {V : Nat → Value} {B : Nat} (h : ∀ i, i < c → ∃ x : ByteArray, V i = .string x ∧ x.size ≤ B) : ∃ z : Nat → ByteArray, (∀ i, i < c → V i = .string (z i)) ∧ ∀ i, (z i).size ≤ B := by
  refine ⟨fun i => match V i with | .string x => if i < c then x else ByteArray.empty | _ => ByteArray.empty, fun i hi => ?_, fun i => ?_⟩
  · obtain ⟨x, hx, _⟩ := h i hi
    simp [hx, hi]
  · by_cases hi : i < c
    · obtain ⟨x, hx, hw⟩ := h i hi
      simpa [hx, hi] using hw
    · simp only [hi, if_false]
      cases V i <;> simp
end Go.Proofs.YtjokibagciehlaaGreat
