/- How many values a reading holds: what the second form's bound gives. -/
import Derived.Test.YtegfglpaabddlaaRows
import Derived.Test.YtegfglpaabddlaaStructs
namespace Go.Proofs.Ytegfglpaabddlaa

theorem bulk_one {H : Type} (d : DataW H) : 1 ≤ Rows.uptoBulk d := by
  cases d with
  | lit l => cases l <;> simp [Rows.uptoBulk]
  | _ => simp [Rows.uptoBulk]
theorem bulk_len {H : Type} (l : List (DataW H)) : l.length ≤ Rows.uptoBulkAll l := by
  induction l with
  | nil => simp [Rows.uptoBulkAll]
  | cons d l ih =>
    have := bulk_one d
    simp only [Rows.uptoBulkAll, List.length_cons]
    omega
theorem bulk_part {H : Type} {d : DataW H} {l : List (DataW H)} (h : d ∈ l) : Rows.uptoBulk d ≤ Rows.uptoBulkAll l := by
  induction l with
  | nil => cases h
  | cons x l ih =>
    simp only [Rows.uptoBulkAll]
    rcases List.mem_cons.1 h with rfl | h
    · omega
    · have := ih h
      omega
theorem bulk_map {H : Type} (f : Nat → DataW H) (g : Nat → Nat) (n : Nat) (h : ∀ i, i < n → g i ≤ Rows.uptoBulk (f i)) : ((List.range n).map g).sum ≤ Rows.uptoBulkAll ((List.range n).map f) := by
  have key : ∀ l : List Nat, (∀ i ∈ l, g i ≤ Rows.uptoBulk (f i)) → (l.map g).sum ≤ Rows.uptoBulkAll (l.map f) := by
    intro l
    induction l with
    | nil => intro _; simp [Rows.uptoBulkAll]
    | cons x l ih =>
      intro hl
      have h1 := hl x (by simp)
      have h2 := ih (fun i hi => hl i (by simp [hi]))
      simp only [List.map_cons, List.sum_cons, Rows.uptoBulkAll]
      omega
  exact key _ fun i hi => h i (List.mem_range.1 hi)
open Go.RowKit Go.ChangeShapes Go.WideShapes Go.Deep
/-- open_structs, and what the rows' readings hold -/
theorem open_structs_up {H : Type} {enc : TypeId × Value → H} {P : Program} {w : World} {t e : TypeId} {fs : Array Field} {fuel C : Nat} {A : Option Addr} {n c : Nat} {d : DataW H} {p : List MemPlace}
    (ht : P.underlying t = some (.slice e)) (he : P.underlying e = some (.struct fs)) (hC : P.cellsOf e = C) (hpos : 0 < C) (h : DataW.trod enc P w 0 (fun _ => true) true fuel t [.slice A n c] = some (d, p)) :
    ∃ (V : Nat → Nat → Value) (D : Nat → DataW H), RowsOf w A n c C V ∧ (∀ k, k < c → ∀ (j : Nat) (f : Field), fs[j]? = some f → ∃ fu y, DataW.trod enc P w 0 (fun _ => true) true fu f.type ((((List.range C).map (V k)).drop f.offset).take (P.cellsOf f.type)) = some y ∧ Rows.uptoBulk y.1 < Rows.uptoBulk (D k)) ∧
      (c = 0 ∨ ∃ sp : List (DataW H), d = .slice ((List.range n).map D) sp ∧ n + sp.length = c) := by
  rcases open_slice ht h with ⟨hcs, _⟩ | ⟨a, len, cap, m, fu, D, Pl, hcs, _, hl, hm, hmm, hx, hi⟩
  · simp only [List.cons.injEq, Value.slice.injEq, and_true] at hcs
    obtain ⟨rfl, rfl, rfl⟩ := hcs
    exact ⟨fun _ _ => undef, fun _ => .nil, ⟨fun h => absurd h (by omega), fun _ => ⟨rfl, rfl⟩, Nat.le_refl _⟩, fun k hk => absurd hk (by omega), .inl rfl⟩
  · simp only [List.cons.injEq, Value.slice.injEq, and_true] at hcs
    obtain ⟨rfl, rfl, rfl⟩ := hcs
    obtain rfl : m = c := by simpa using hmm
    rw [hC] at hi
    obtain ⟨V, hV⟩ := choose_lt (α := Nat → Value) (p := fun k v => (∀ j, j < C → w.cell? (a.add (k * C + j)) = some (v j)) ∧ DataW.trod enc P w 0 (fun _ => true) true fu e ((List.range C).map v) = some (D k, Pl k)) (fun k hk => by
      obtain ⟨cs', h1, h2⟩ := hi k hk
      obtain ⟨_, hlen, hat⟩ := World.cells?_some h1
      refine ⟨fun j => cs'.getD j undef, fun j hj => ?_, ?_⟩
      · rw [← add_add a (k * C) j, hat j hj]
        show _ = some (cs'.getD j undef)
        rw [List.getD_eq_getElem?_getD, List.getElem?_eq_getElem (by omega)]
        rfl
      · have : (List.range C).map (fun j => cs'.getD j undef) = cs' := by
          apply List.ext_getElem
          · simp [hlen]
          · intro i h3 h4
            simp [List.getD_eq_getElem?_getD, h4]
        rw [this]
        exact h2)
    refine ⟨V, D, ⟨fun hn => ⟨a, rfl, ?_, fun k hk => (hV k (by omega)).1⟩, (fun q => by cases q), hl⟩, fun k hk j f hj => ?_, .inr ?_⟩
    · have := World.block_lt_of_cell? w _ ((hV 0 (by omega)).1 0 hpos)
      rwa [block_add] at this
    · obtain ⟨xs, n', _, dx, _, hxl, hf⟩ := DataW.trod_struct he (hV k hk).2
      have hjx : j < xs.length := by rw [hxl]; exact (Array.getElem?_eq_some_iff.1 hj).1
      refine ⟨n', xs[j], (hf j f hj).trans (List.getElem?_eq_getElem hjx), ?_⟩
      have hd : D k = .agg (xs.map (·.1)) := congrArg Prod.fst dx
      have hm : (xs[j]).1 ∈ xs.map (·.1) := List.mem_map_of_mem (List.getElem_mem hjx)
      have := bulk_part hm
      rw [hd]
      simp only [Rows.uptoBulk]
      omega
    · simp only [Prod.mk.injEq] at hx
      exact ⟨_, hx.1, by simp; omega⟩
end Go.Proofs.Ytegfglpaabddlaa
