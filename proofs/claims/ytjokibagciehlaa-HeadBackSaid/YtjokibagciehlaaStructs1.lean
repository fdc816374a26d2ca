/- A slice of structs that lies in a cell of a struct: opened. No function of the program. -/
import Derived.Test.YtjokibagciehlaaStructs
import Derived.OpenShut
namespace Go.Proofs.Ytjokibagciehlaa
open Go.RowKit Go.ChangeShapes Go.WideShapes Go.Deep
set_option linter.unusedVariables false
theorem open_structs1 {H : Type} {enc : TypeId × Value → H} {P : Program} {w : World} {t e : TypeId} {fs : Array Field} {fuel C : Nat} {c0 : Value} {d : DataW H} {p : List MemPlace}
    (ht : P.underlying t = some (.slice e)) (he : P.underlying e = some (.struct fs)) (hC : P.cellsOf e = C) (hpos : 0 < C) (h : DataW.trod enc P w 0 (fun _ => true) true fuel t [c0] = some (d, p)) :
    ∃ (A : Option Addr) (n c : Nat) (V : Nat → Nat → Value), c0 = .slice A n c ∧ RowsOf w A n c C V ∧ (∀ k, k < c → ∀ (j : Nat) (f : Field), fs[j]? = some f → ∃ fu y, DataW.trod enc P w 0 (fun _ => true) true fu f.type ((((List.range C).map (V k)).drop f.offset).take (P.cellsOf f.type)) = some y) ∧
      (c = 0 ∨ ∃ el sp : List (DataW H), d = .slice el sp ∧ el.length + sp.length = c) := by
  have hsl : ∃ A n c, c0 = .slice A n c := by
    rcases open_slice ht h with ⟨hcs, _⟩ | ⟨a, len, cap, m, fu, D, Pl, hcs, _⟩
    · exact ⟨_, _, _, (List.cons.inj hcs).1⟩
    · exact ⟨_, _, _, (List.cons.inj hcs).1⟩
  obtain ⟨A, n, c, rfl⟩ := hsl
  obtain ⟨V, r⟩ := open_structs ht he hC hpos h
  exact ⟨A, n, c, V, rfl, r⟩
/-- an array of three one-cell elements, opened -/
theorem trod_array3 {H : Type} {enc : TypeId × Value → H} {P : Program} {w : World} {t e : TypeId} {fuel : Nat} {c0 c1 c2 : Value} {y : DataW H × List MemPlace}
    (ht : P.underlying t = some (.array 3 e)) (hc : P.cellsOf e = 1) (h : DataW.trod enc P w 0 (fun _ => true) true fuel t [c0, c1, c2] = some y) :
    ∃ (y0 y1 y2 : DataW H × List MemPlace) (nn : Nat), True ∧ DataW.trod enc P w 0 (fun _ => true) true nn e [c0] = some y0 ∧ DataW.trod enc P w 0 (fun _ => true) true nn e [c1] = some y1 ∧ DataW.trod enc P w 0 (fun _ => true) true nn e [c2] = some y2 := by
  obtain ⟨xs, n, _, _, _, xl, hf⟩ := DataW.trod_array ht h
  rw [hc] at hf
  exact ⟨xs[0]'(by rw [xl]; decide), xs[1]'(by rw [xl]; decide), xs[2]'(by rw [xl]; decide), n, trivial, (hf 0 (by decide)).trans (List.getElem?_eq_getElem _), (hf 1 (by decide)).trans (List.getElem?_eq_getElem _), (hf 2 (by decide)).trans (List.getElem?_eq_getElem _)⟩
/-- a slice that lies in an argument's cell leads into memory that is there, be it empty -/
theorem slice_lt {P : Program} {w : World} {base : Nat} {t u e : TypeId} {fs : Array Field} {cs : Array Value} {ts : List TypeId} {i : Nat} {a : Addr} {n c : Nat} (h : Value.okWide P w .any base t (.agg cs)) (ht : P.underlying t = some (.struct fs)) (hts : P.cellTypes P.depth t = some ts)
    (hi : cs[i]? = some (.slice (some a) n c)) (hu : ts[i % ts.length]? = some u) (hs : P.underlying u = some (.slice e)) : a.block < w.heap.size := by
  simp only [Value.okWide, ht] at h
  obtain ⟨cs', e', _, ts', h1, _, h2⟩ := h
  injection e' with e'
  subst e'
  rw [hts] at h1
  injection h1 with h1
  subst h1
  obtain ⟨u', hu', hc⟩ := h2 i _ hi
  rw [hu] at hu'
  injection hu' with hu'
  subst hu'
  simp only [Cell.okWide, hs, Cell.ok] at hc
  obtain ⟨_, _, _, _, row, cells, hsh, _⟩ := hc
  rcases Nat.lt_or_ge a.block w.heap.size with hl | hl
  · exact hl
  · unfold World.shape? at hsh
    rw [Array.getElem?_eq_none hl] at hsh
    cases hsh
end Go.Proofs.Ytjokibagciehlaa
