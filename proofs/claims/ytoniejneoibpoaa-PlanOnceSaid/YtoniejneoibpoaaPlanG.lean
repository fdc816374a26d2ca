/- Plan: a configuration that may be. -/
import Derived.Test.YtoniejneoibpoaaPlanF
namespace Go.Proofs.Ytoniejneoibpoaa
open Go.RowKit
set_option linter.unusedVariables false
set_option linter.unusedSimpArgs false
attribute [local go_sem] ite_max ite_min

def cellOf (w : World) (v : Value) : Value := match v with | .pointer (some a) => (w.cell? a).getD undef | _ => undef

/-- Plan's memory in its middle: the configuration, the row so far, the group's first frame. -/
def PS (w0 wr : World) (gc gout gf : Nat) (cs : Array Value) (v : Value) (L : List Pic) (f : Nat) : Prop :=
  Bk wr gc 24 cs ∧ Bk wr gout 25 #[v] ∧ Bk wr gf 3 #[.int .i64 f] ∧ wr.ownsRow w0.heap.size 37 5 v L.length (cellsOf L) ∧ Below w0.heap.size w0 wr ∧ w0.heap.size ≤ gout

theorem PS.more {w0 w w' : World} {gc gout gf : Nat} {cs : Array Value} {v : Value} {L : List Pic} {f : Nat} {p : Pic} {e : Ending} (h : PS w0 w gc gout gf cs v L f) (hm : More w gout w0.heap.size v L p e w') :
    ∃ v', e = .returned (.tuple #[]) ∧ PS w0 w' gc gout gf cs v' (L ++ [p]) f := by
  obtain ⟨h1, h2, h3, h4, h5, h6⟩ := h
  obtain ⟨v', rfl, k1, k2, k3⟩ := hm
  have n1 := h1.ne_ h2 (by decide)
  have n2 := h3.ne_ h2 (by decide)
  have n3 := h1.ne_own h4 (by decide)
  have n4 := h3.ne_own h4 (by decide)
  refine ⟨v', rfl, h1.touch k3 ?_, k1, h3.touch k3 ?_, k2, Below.touch h5 k3 ?_ (Nat.le_refl _), h6⟩
  · rintro (q | q)
    · exact n1 q
    · exact n3 q
  · rintro (q | q)
    · exact n2 q
    · exact n4 q
  · rintro i hi (rfl | q)
    · omega
    · have := (h4.lt i q).1
      omega
theorem PS.next {w0 w : World} {gc gout gf : Nat} {cs : Array Value} {v : Value} {L : List Pic} {f : Nat} (f' : Nat) (h : PS w0 w gc gout gf cs v L f) :
    PS w0 (w.alloc (.cells #[.int .i64 f'] 3)) gc gout w.heap.size cs v L f' := by
  obtain ⟨h1, h2, h3, h4, h5, h6⟩ := h
  exact ⟨h1.alloc _, h2.alloc _, Bk.new _ _ _, h4.alloc _, h5.alloc h5.size _, h6⟩
theorem PS.size {w0 w : World} {gc gout gf : Nat} {cs : Array Value} {v : Value} {L : List Pic} {f : Nat} (h : PS w0 w gc gout gf cs v L f) : w0.heap.size ≤ w.heap.size := h.2.2.2.2.1.size

section
variable (gc g gf base : Nat) (v : Value) (L : List Pic) (f : Nat) (w w0 : World) (cs : Array Value)
theorem clo_I (h : PS w0 w gc g gf cs v L f) (hL : L.length ≤ 1000) (hfa : f ≤ 1000) :
    Calls Try.prog 28 #[.int .i64 0, .int .i64 2, .bool true, .pointer (some ⟨g, 0, none⟩), .pointer (some ⟨gf, 0, none⟩)] w (More w g w0.heap.size v L (picI f)) :=
  clo_any g gf w0.heap.size v L f 0 2 true w h.2.1 h.2.2.1 h.2.2.2.1 hL hfa (by omega) h.size
theorem clo_P (j : Nat) (h : PS w0 w gc g gf cs v L f) (hL : L.length ≤ 1000) (hfa : f ≤ 1000) (hj : 1 ≤ j ∧ j ≤ 1000) :
    Calls Try.prog 28 #[.int .i64 j, .int .i64 0, .bool true, .pointer (some ⟨g, 0, none⟩), .pointer (some ⟨gf, 0, none⟩)] w (More w g w0.heap.size v L (picP f j)) := by
  have := clo_any g gf w0.heap.size v L f j 0 true w h.2.1 h.2.2.1 h.2.2.2.1 hL hfa (by omega) h.size
  rw [show decide (j = 0) = false from decide_eq_false (by omega)] at this
  exact this
theorem clo_B (j : Nat) (h : PS w0 w gc g gf cs v L f) (hL : L.length ≤ 1000) (hfa : f ≤ 1000) (hj : 1 ≤ j ∧ j ≤ 1000) :
    Calls Try.prog 28 #[.int .i64 j, .int .i64 1, .bool false, .pointer (some ⟨g, 0, none⟩), .pointer (some ⟨gf, 0, none⟩)] w (More w g w0.heap.size v L (picB f j)) := by
  have := clo_any g gf w0.heap.size v L f j 1 false w h.2.1 h.2.2.1 h.2.2.2.1 hL hfa (by omega) h.size
  rw [show decide (j = 0) = false from decide_eq_false (by omega)] at this
  exact this
end

/-- what the walk reads -/
theorem PS.cells {w0 w : World} {gc gout gf : Nat} {wide high refs qp bs period : Int} {cabac : Bool} {slices : Int} {pcm deblock : Bool} {poc bits : Int} {v : Value} {L : List Pic} {f : Nat} (h : PS w0 w gc gout gf (cfgV wide high refs qp bs period cabac slices pcm deblock poc bits) v L f) :
    w.cell? ⟨gf, 0, none⟩ = some (.int .i64 f) ∧ w.cell? ⟨gc, 4, none⟩ = some (.int .i64 bs) ∧ w.cell? ⟨gc, 5, none⟩ = some (.int .i64 period) ∧ w.cell? ⟨gout, 0, none⟩ = some v :=
  ⟨h.2.2.1.cell 0, h.1.cell 4, h.1.cell 5, h.2.1.cell 0⟩
theorem PS.meas {w0 w : World} {gc gout gf : Nat} {cs : Array Value} {v : Value} {L : List Pic} {f : Nat} (h : PS w0 w gc gout gf cs v L f) : intOf (cellOf w (.pointer (some ⟨gf, 0, none⟩))) = f := by
  show intOf ((w.cell? ⟨gf, 0, none⟩).getD undef) = f
  rw [h.2.2.1.cell 0]
  rfl
theorem len_of {L R T : List Pic} {k : Nat} (h : L ++ R = T) (hT : T.length ≤ k) : L.length ≤ k := by
  rw [← h, List.length_append] at hT
  omega

end Go.Proofs.Ytoniejneoibpoaa
