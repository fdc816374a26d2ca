/- An argument that is a slice of bytes, opened. -/
import Derived.Test.YtoagihocibeidaaSlice
import Derived.ProofKit
import Derived.SizedLaws
namespace Go.Proofs.Ytoagihocibeidaa
open Go.RowKit Go.ChangeShapes Go.WideShapes
set_option linter.unusedVariables false

/-- A slice of bytes that came in: z its elements; its room within the form's reach. -/
def BytesArg (w : World) (A : Option Addr) (n c : Nat) (z : Nat → Int) : Prop :=
  (Rd w w.heap.size A n fun k => .int .u8 (z k)) ∧ (A = none → n = 0 ∧ c = 0) ∧ n ≤ c ∧ c ≤ 140737488351232 ∧ ∀ k, 0 ≤ z k ∧ z k ≤ 255

theorem u8_wf {x : Int} (h : (Lit.int .u8 x).wf = true) : 0 ≤ x ∧ x ≤ 255 := by
  simp [Lit.wf, IntKind.min, IntKind.max, IntKind.signed, IntKind.bits] at h
  omega
theorem i64_wf {x : Int} (h : (Lit.int .i64 x).wf = true) : -9223372036854775808 ≤ x ∧ x ≤ 9223372036854775807 := by
  simp [Lit.wf, IntKind.min, IntKind.max, IntKind.signed, IntKind.bits] at h
  omega

theorem open_rowb {H : Type} {enc : TypeId × Value → H} {P : Program} {w : World} {t e : TypeId} {fuel : Nat} {A : Option Addr} {n c : Nat} {d : DataW H} {p : List MemPlace}
    (ht : P.underlying t = some (.slice e)) (he : P.underlying e = some (.int .u8)) (hc : P.cellsOf e = 1) (h : DataW.trod enc P w 0 (fun _ => true) true fuel t [.slice A n c] = some (d, p)) :
    ∃ z : Nat → Int, (Rd w w.heap.size A n fun k => .int .u8 (z k)) ∧ (A = none → n = 0 ∧ c = 0) ∧ n ≤ c ∧ (∀ k, 0 ≤ z k ∧ z k ≤ 255) ∧ (c = 0 ∨ ∃ el sp : List (DataW H), d = .slice el sp ∧ el.length + sp.length = c) := by
  rcases open_ints ht he hc h with ⟨hcs, _⟩ | ⟨a, len, cap, zs, hcs, _, hl, hm, hz, hx, hcell, hwz⟩
  · simp only [List.cons.injEq, Value.slice.injEq, and_true] at hcs
    obtain ⟨rfl, rfl, rfl⟩ := hcs
    exact ⟨fun _ => 0, Rd.zero _ _ _ _, fun _ => ⟨rfl, rfl⟩, Nat.le_refl _, fun _ => (by decide : (0 : Int) ≤ 0 ∧ (0 : Int) ≤ 255), .inl rfl⟩
  · simp only [List.cons.injEq, Value.slice.injEq, and_true] at hcs
    obtain ⟨rfl, rfl, rfl⟩ := hcs
    have hzl : zs.length = c := by simpa using hz
    refine ⟨fun k => zs.getD k 0, fun hn => ⟨a, rfl, ?_, fun k hk => hcell k (by omega)⟩, (fun h => by cases h), hl, fun k => ?_, .inr ?_⟩
    · have := World.block_lt_of_cell? w _ (hcell 0 (by omega))
      rwa [block_add] at this
    · show 0 ≤ zs.getD k 0 ∧ zs.getD k 0 ≤ 255
      by_cases hk : k < zs.length
      · rw [List.getD_eq_getElem?_getD, List.getElem?_eq_getElem hk]
        exact u8_wf (hwz _ (List.getElem_mem hk))
      · rw [List.getD_eq_getElem?_getD, List.getElem?_eq_none (by omega)]
        simp
    · simp only [Prod.mk.injEq] at hx
      exact ⟨_, _, hx.1, by simp [lits]; omega⟩

end Go.Proofs.Ytoagihocibeidaa
