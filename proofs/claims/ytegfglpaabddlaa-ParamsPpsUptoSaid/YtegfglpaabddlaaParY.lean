/- SameSps; sizes; awake. -/
import Derived.Test.YtegfglpaabddlaaParX
import Derived.Test.YtegfglpaabddlaaParL
import Derived.Test.YtegfglpaabddlaaParK
import Derived.Test.YtegfglpaabddlaaParM
namespace Go.Proofs.Ytegfglpaabddlaa
open Go.RowKit
set_option linter.unusedVariables false
set_option linter.unusedSimpArgs false

set_option maxRecDepth 100000 in
set_option maxHeartbeats 3200000 in
theorem samesps_yes (p : Sp) (A C : Option Addr) (c d : Nat) (w : World) (h1 : SpAt w w.heap.size p A) (h2 : SpAt w w.heap.size p C) (hn : p.cy.length ≤ 1152921504606846976) :
    Calls Try.prog 19 #[.agg (spV p A c), .agg (spV p C d)] w fun e w' => e = .returned (.bool true) ∧ Below w.heap.size w w' := by
  obtain ⟨wide, high, fb, pt, pb, nr, cy, refs, delay⟩ := p
  have hb := ((Below.refl w.heap.size w).alloc (Nat.le_refl _) (.cells (spV ⟨wide, high, fb, pt, pb, nr, cy, refs, delay⟩ A c) 24)).alloc (by simp) (.cells (spV ⟨wide, high, fb, pt, pb, nr, cy, refs, delay⟩ C d) 24)
  have H1 := Lib.hid (Rd.go h1 hb)
  have H2 := Lib.hid (Rd.go h2 hb)
  have HB := Lib.hid hb
  have k1 := (Bk.new w 24 (spV ⟨wide, high, fb, pt, pb, nr, cy, refs, delay⟩ A c)).alloc (.cells (spV ⟨wide, high, fb, pt, pb, nr, cy, refs, delay⟩ C d) 24)
  have k2 := Bk.new (w.alloc (.cells (spV ⟨wide, high, fb, pt, pb, nr, cy, refs, delay⟩ A c) 24)) 24 (spV ⟨wide, high, fb, pt, pb, nr, cy, refs, delay⟩ C d)
  rw [World.size_alloc] at k2
  have K1 := Lib.hid k1
  have K2 := Lib.hid k2
  clear h1 h2 hb k1 k2
  simp only [spV] at *
  go_enter Try.func19, Try.ntmps19
  go_wp2_with fail
  refine (same_yes A C cy.length c d _ _ _ H1.out H2.out hn (fun k hk => rfl)).mono ?_
  rintro e w1 ⟨rfl, hb1⟩
  have HB1 := Lib.hid (HB.out.trans (hb1.mono HB.out.size))
  have k1 := K1.out.go hb1
  have k2 := K2.out.go hb1
  have c17 := k1.cell 7
  have c18 := k1.cell 8
  have c27 := k2.cell 7
  have c28 := k2.cell 8
  simp at c17 c18 c27 c28
  clear hb1 k1 k2 K1 K2 HB H1 H2
  go_wp2_with fail
  go_ret
  exact ⟨rfl, HB1.out⟩

/-- sizes -/
theorem cyL_le : ∀ (l : List Int), (∀ x ∈ l, -1073741823 ≤ x ∧ x ≤ 1073741823) → (cyL l).length ≤ 61 * l.length
  | [], _ => by simp [cyL]
  | x :: l, h => by
    have h1 := cyL_le l (fun y hy => h y (by simp [hy]))
    have h2 := seL_le (h x (by simp)).1 (h x (by simp)).2
    have e : cyL (x :: l) = seL x ++ cyL l := by simp [cyL]
    rw [e, List.length_append, List.length_cons]
    omega
theorem spL_le {s : Sp} (ok : SpOk s) : (spL s).length ≤ 1000 := by
  obtain ⟨a1, a2, a3, a4, a5, a6, a7, a8, _, _, a11, a12, _⟩ := ok
  have h1 := ueL_le (x := (s.wide - 1).toNat) (by omega)
  have h2 := ueL_le (x := (s.high - 1).toNat) (by omega)
  have h3 := ueL_le (x := (s.fb - 4).toNat) (by omega)
  have h4 := ueL_le (x := s.pt.toNat) (by omega)
  have h5 := ueL_le (x := s.refs.toNat) (by omega)
  have h6 := ueL_le (x := s.delay.toNat) (by omega)
  have h7 : (mid s).length ≤ 366 := by
    have i1 := ueL_le (x := (s.pb - 4).toNat) (by omega)
    have i2 := seL_le (x := s.nr) (by omega) (by omega)
    have i3 := ueL_le (x := s.cy.length) (by omega)
    have i4 := cyL_le s.cy (fun x hx => by have := a8 x hx; omega)
    unfold mid
    split
    · omega
    · split
      · simp only [List.length_append]; omega
      · simp
  unfold spL
  simp only [List.length_append]
  omega
theorem ppL_le {p : Pp} (ok : PpOk p) : (ppL p).length ≤ 1000 := by
  obtain ⟨a1, a2, a3, a4, a5⟩ := ok
  have h1 := ueL_le (x := p.qp.toNat) (by omega)
  have h2 := seL_le (x := p.cqp) (by omega) (by omega)
  have h3 := ueL_le (x := (p.a0 - 1).toNat) (by omega)
  have h4 := ueL_le (x := (p.a1 - 1).toNat) (by omega)
  have h5 : (dig p.bipred.toNat 2).length = 2 := dig_len _ _
  unfold ppL
  simp only [List.length_append, List.length_cons, List.length_nil]
  omega
theorem putSp_size (s : Sp) : (putSpS s).size ≤ 1000 := by
  unfold putSpS
  split
  · rename_i h
    have := spL_le ((maySp_iff s).1 h)
    rw [(trail_facts (spL s)).1]
    omega
  · decide
theorem putPp_size (p : Pp) : (putPpS p).size ≤ 1000 := by
  unfold putPpS
  split
  · rename_i h
    have := ppL_le ((mayPp_iff p).1 h)
    rw [(trail_facts (ppL p)).1]
    omega
  · decide
/-- there and back -/
theorem sp_again {s : Sp} (h : putSpE s = 0) : SpOk s ∧ getSp (sbit (putSpS s)) (8 * (putSpS s).size) = (s, 0) := by
  unfold putSpE at h
  by_cases q : maySp s = true
  · have ok := (maySp_iff s).1 q
    refine ⟨ok, ?_⟩
    unfold putSpS
    rw [if_pos q]
    exact sp_back s ok
  · rw [if_neg q] at h; cases h
theorem pp_again {p : Pp} (h : putPpE p = 0) : PpOk p ∧ getPp (sbit (putPpS p)) (8 * (putPpS p).size) = (p, 0) := by
  unfold putPpE at h
  by_cases q : mayPp p = true
  · have ok := (mayPp_iff p).1 q
    refine ⟨ok, ?_⟩
    unfold putPpS
    rw [if_pos q]
    exact pp_back p ok
  · rw [if_neg q] at h; cases h

def awS : Sp := ⟨1, 2, 4, 0, 4, 0, [], 1, 0⟩
def awP : Pp := ⟨false, false, 0, 30, 0, false, false, 1, 1⟩
theorem aw_s : putSpE awS = 0 ∧ maySp awS = true := by decide +kernel
theorem aw_p : putPpE awP = 0 ∧ mayPp awP = true := by decide +kernel
theorem aw_none : (getSp (sbit ByteArray.empty) (8 * ByteArray.empty.size)).2 = 300 := by decide +kernel
theorem getsp_is {s : ByteArray} {p : Sp} {e : Int} (hs : s.size ≤ 140737488351232) (h : getSp (sbit s) (8 * s.size) = (p, e)) (w : World) :
    Calls Try.prog 13 #[.string s] w fun r w' => ∃ A c, r = .returned (.tuple #[.agg (spV p A c), .int .i64 e]) ∧ SpAt w' w'.heap.size p A ∧ w'.ownsRow w.heap.size 3 1 (.slice A p.cy.length c) p.cy.length (cyV p.cy) ∧ Below w.heap.size w w' := by
  refine (getsp_any s w hs).mono ?_
  rintro r w' ⟨v, rfl, ho, hb⟩
  rw [h] at ho ⊢
  obtain ⟨A, c, rfl, _, _, _⟩ := own_slice ho
  exact ⟨A, c, rfl, SpAt.of_own ho, ho, hb⟩
theorem getpp_is {s : ByteArray} {p : Pp} {e : Int} (hs : s.size ≤ 140737488351232) (h : getPp (sbit s) (8 * s.size) = (p, e)) (w : World) :
    Calls Try.prog 24 #[.string s] w fun r w' => r = .returned (.tuple #[.agg (ppV p), .int .i64 e]) ∧ Below w.heap.size w w' := by
  refine (getpp_any s w hs).mono ?_
  rintro r w' ⟨rfl, hb⟩
  rw [h]
  exact ⟨rfl, hb⟩
theorem SpAt.nil (w : World) (B : Nat) (p : Sp) (h : p.cy = []) (A : Option Addr) : SpAt w B p A := by
  unfold SpAt
  rw [h]
  exact Rd.zero _ _ _ _
end Go.Proofs.Ytegfglpaabddlaa
