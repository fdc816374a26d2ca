/- An argument that is a slice of ints, opened. -/
import Derived.Test.YtfignfohcalcfaaGreatDoorSlice
import Derived.ProofKit
import Derived.SizedLaws
namespace Go.Proofs.YtfignfohcalcfaaGreatDoor
open Go.RowKit Go.ChangeShapes Go.WideShapes
set_option linter.unusedVariables false

/-- A slice of ints that came in: z its elements; its room within the form's reach. -/
def IntsArg (w : World) (A : Option Addr) (n c : Nat) (z : Nat → Int) : Prop :=
  Ri w w.heap.size A n z ∧ (A = none → n = 0 ∧ c = 0) ∧ n ≤ c ∧ c * 8 ≤ 140737488351232 ∧ ∀ k, (Lit.int .i64 (z k)).wf = true

theorem open_row {H : Type} {enc : TypeId × Value → H} {P : Program} {w : World} {t e : TypeId} {fuel : Nat} {A : Option Addr} {n c : Nat} {d : DataW H} {p : List MemPlace}
    (ht : P.underlying t = some (.slice e)) (he : P.underlying e = some (.int .i64)) (hc : P.cellsOf e = 1) (h : DataW.trod enc P w 0 (fun _ => true) true fuel t [.slice A n c] = some (d, p)) :
    ∃ z : Nat → Int, Ri w w.heap.size A n z ∧ (A = none → n = 0 ∧ c = 0) ∧ n ≤ c ∧ (∀ k, (Lit.int .i64 (z k)).wf = true) ∧ (c = 0 ∨ ∃ el sp : List (DataW H), d = .slice el sp ∧ el.length + sp.length = c) := by
  rcases open_ints ht he hc h with ⟨hcs, _⟩ | ⟨a, len, cap, zs, hcs, _, hl, hm, hz, hx, hcell, hwz⟩
  · simp only [List.cons.injEq, Value.slice.injEq, and_true] at hcs
    obtain ⟨rfl, rfl, rfl⟩ := hcs
    exact ⟨fun _ => 0, Rd.zero _ _ _ _, fun _ => ⟨rfl, rfl⟩, Nat.le_refl _, fun _ => (by decide : (Lit.int .i64 0).wf = true), .inl rfl⟩
  · simp only [List.cons.injEq, Value.slice.injEq, and_true] at hcs
    obtain ⟨rfl, rfl, rfl⟩ := hcs
    have hzl : zs.length = c := by simpa using hz
    refine ⟨fun k => zs.getD k 0, fun hn => ⟨a, rfl, ?_, fun k hk => hcell k (by omega)⟩, (fun h => by cases h), hl, fun k => ?_, .inr ?_⟩
    · have := World.block_lt_of_cell? w _ (hcell 0 (by omega))
      rwa [block_add] at this
    · by_cases hk : k < zs.length
      · show (Lit.int .i64 (zs.getD k 0)).wf = true
        rw [List.getD_eq_getElem?_getD, List.getElem?_eq_getElem hk]
        exact hwz _ (List.getElem_mem hk)
      · show (Lit.int .i64 (zs.getD k 0)).wf = true
        rw [List.getD_eq_getElem?_getD, List.getElem?_eq_none (by omega)]
        decide
    · simp only [Prod.mk.injEq] at hx
      exact ⟨_, _, hx.1, by simp [lits]; omega⟩

/-- the same for a field: its value's make is not yet known -/
theorem open_row1 {H : Type} {enc : TypeId × Value → H} {P : Program} {w : World} {t e : TypeId} {fuel : Nat} {v : Value} {y : DataW H × List MemPlace}
    (ht : P.underlying t = some (.slice e)) (he : P.underlying e = some (.int .i64)) (hc : P.cellsOf e = 1) (h : DataW.trod enc P w 0 (fun _ => true) true fuel t [v] = some y) :
    ∃ (A : Option Addr) (n c : Nat) (z : Nat → Int), v = .slice A n c ∧ Ri w w.heap.size A n z ∧ (A = none → n = 0 ∧ c = 0) ∧ n ≤ c ∧ (∀ k, (Lit.int .i64 (z k)).wf = true) ∧ (c = 0 ∨ ∃ el sp : List (DataW H), y.1 = .slice el sp ∧ el.length + sp.length = c) := by
  obtain ⟨d, p⟩ := y
  rcases open_ints ht he hc h with ⟨hcs, _⟩ | ⟨a, len, cap, zs, hcs, _⟩
  · simp only [List.cons.injEq, and_true] at hcs
    subst hcs
    obtain ⟨z, r⟩ := open_row ht he hc h
    exact ⟨_, _, _, z, rfl, r⟩
  · simp only [List.cons.injEq, and_true] at hcs
    subst hcs
    obtain ⟨z, r⟩ := open_row ht he hc h
    exact ⟨_, _, _, z, rfl, r⟩
/-- the reach of a struct's parts -/
theorem sized_part {H : Type} {P : Program} {ts : List TypeId} {ds : List (DataW H)} (h : (DataW.weightsEach P ts ds).all (· ≤ reachBytes) = true) {j : Nat} {t : TypeId} {fs : Array Field} {parts : List (DataW H)} (ht : ts[j]? = some t) (hd : ds[j]? = some (.agg parts)) (hu : P.underlying t = some (.struct fs)) :
    (DataW.weightsEach P (fs.toList.map (·.type)) parts).all (· ≤ reachBytes) = true := by
  rw [List.all_eq_true]
  intro x hx
  exact List.all_eq_true.1 h x (DataW.weights_mem_each ht hd x (by simp only [DataW.weights, hu]; exact hx))

end Go.Proofs.YtfignfohcalcfaaGreatDoor
