/- SameSps; sizes; awake. awake of the parameters' statements. Printed by gen-awake.py. -/
import Derived.Test.YtegfglpaabddlaaParTX
import Derived.Test.YtegfglpaabddlaaParL
import Derived.Test.YtegfglpaabddlaaParK
import Derived.Test.YtegfglpaabddlaaParM
namespace Go.Proofs.Ytegfglpaabddlaa
open Go.RowKit
set_option linter.unusedVariables false
set_option linter.unusedSimpArgs false

set_option maxRecDepth 100000 in
set_option maxHeartbeats 3200000 in
theorem samesps_yes (p : Sp) (A C : Option Addr) (c d : Nat) (w : World) (h1 : SpAt w w.heap.size p A) (h2 : SpAt w w.heap.size p C) (hn : p.cy.length ≤ 1152921504606846976) :
    Calls Try.prog 19 #[.agg (spV p A c), .agg (spV p C d)] w fun e w' => e = .returned (.bool true) ∧ Below w.heap.size w w' := by
  obtain ⟨wide, high, fb, pt, pb, nr, cy, refs, delay⟩ := p
  have hb := ((Below.refl w.heap.size w).alloc (Nat.le_refl _) (.cells (spV ⟨wide, high, fb, pt, pb, nr, cy, refs, delay⟩ A c) 24)).alloc (by simp) (.cells (spV ⟨wide, high, fb, pt, pb, nr, cy, refs, delay⟩ C d) 24)
  have H1 := Lib.hid (Rd.go h1 hb)
  have H2 := Lib.hid (Rd.go h2 hb)
  have HB := Lib.hid hb
  have k1 := (Bk.new w 24 (spV ⟨wide, high, fb, pt, pb, nr, cy, refs, delay⟩ A c)).alloc (.cells (spV ⟨wide, high, fb, pt, pb, nr, cy, refs, delay⟩ C d) 24)
  have k2 := Bk.new (w.alloc (.cells (spV ⟨wide, high, fb, pt, pb, nr, cy, refs, delay⟩ A c) 24)) 24 (spV ⟨wide, high, fb, pt, pb, nr, cy, refs, delay⟩ C d)
  rw [World.size_alloc] at k2
  have K1 := Lib.hid k1
  have K2 := Lib.hid k2
  clear h1 h2 hb k1 k2
  simp only [spV] at *
  go_enter Try.func19, Try.ntmps19
  go_wp2_with fail
  refine (same_yes A C cy.length c d _ _ _ H1.out H2.out hn (fun k hk => rfl)).mono ?_
  rintro e w1 ⟨rfl, hb1⟩
  have HB1 := Lib.hid (HB.out.trans (hb1.mono HB.out.size))
  have k1 := K1.out.go hb1
  have k2 := K2.out.go hb1
  have c17 := k1.cell 7
  have c18 := k1.cell 8
  have c27 := k2.cell 7
  have c28 := k2.cell 8
  simp at c17 c18 c27 c28
  clear hb1 k1 k2 K1 K2 HB H1 H2
  go_wp2_with fail
  go_ret
  exact ⟨rfl, HB1.out⟩

/-- sizes -/
theorem cyL_le : ∀ (l : List Int), (∀ x ∈ l, -1073741823 ≤ x ∧ x ≤ 1073741823) → (cyL l).length ≤ 61 * l.length
  | [], _ => by simp [cyL]
  | x :: l, h => by
    have h1 := cyL_le l (fun y hy => h y (by simp [hy]))
    have h2 := seL_le (h x (by simp)).1 (h x (by simp)).2
    have e : cyL (x :: l) = seL x ++ cyL l := by simp [cyL]
    rw [e, List.length_append, List.length_cons]
    omega
theorem spL_le {s : Sp} (ok : SpOk s) : (spL s).length ≤ 1000 := by
  obtain ⟨a1, a2, a3, a4, a5, a6, a7, a8, _, _, a11, a12, _⟩ := ok
  have h1 := ueL_le (x := (s.wide - 1).toNat) (by omega)
  have h2 := ueL_le (x := (s.high - 1).toNat) (by omega)
  have h3 := ueL_le (x := (s.fb - 4).toNat) (by omega)
  have h4 := ueL_le (x := s.pt.toNat) (by omega)
  have h5 := ueL_le (x := s.refs.toNat) (by omega)
  have h6 := ueL_le (x := s.delay.toNat) (by omega)
  have h7 : (mid s).length ≤ 366 := by
    have i1 := ueL_le (x := (s.pb - 4).toNat) (by omega)
    have i2 := seL_le (x := s.nr) (by omega) (by omega)
    have i3 := ueL_le (x := s.cy.length) (by omega)
    have i4 := cyL_le s.cy (fun x hx => by have := a8 x hx; omega)
    unfold mid
    split
    · omega
    · split
      · simp only [List.length_append]; omega
      · simp
  unfold spL
  simp only [List.length_append]
  omega
theorem ppL_le {p : Pp} (ok : PpOk p) : (ppL p).length ≤ 1000 := by
  obtain ⟨a1, a2, a3, a4, a5⟩ := ok
  have h1 := ueL_le (x := p.qp.toNat) (by omega)
  have h2 := seL_le (x := p.cqp) (by omega) (by omega)
  have h3 := ueL_le (x := (p.a0 - 1).toNat) (by omega)
  have h4 := ueL_le (x := (p.a1 - 1).toNat) (by omega)
  have h5 : (dig p.bipred.toNat 2).length = 2 := dig_len _ _
  unfold ppL
  simp only [List.length_append, List.length_cons, List.length_nil]
  omega
theorem putSp_size (s : Sp) : (putSpS s).size ≤ 1000 := by
  unfold putSpS
  split
  · rename_i h
    have := spL_le ((maySp_iff s).1 h)
    rw [(trail_facts (spL s)).1]
    omega
  · decide
theorem putPp_size (p : Pp) : (putPpS p).size ≤ 1000 := by
  unfold putPpS
  split
  · rename_i h
    have := ppL_le ((mayPp_iff p).1 h)
    rw [(trail_facts (ppL p)).1]
    omega
  · decide
/-- there and back -/
theorem sp_again {s : Sp} (h : putSpE s = 0) : SpOk s ∧ getSp (sbit (putSpS s)) (8 * (putSpS s).size) = (s, 0) := by
  unfold putSpE at h
  by_cases q : maySp s = true
  · have ok := (maySp_iff s).1 q
    refine ⟨ok, ?_⟩
    unfold putSpS
    rw [if_pos q]
    exact sp_back s ok
  · rw [if_neg q] at h; cases h
theorem pp_again {p : Pp} (h : putPpE p = 0) : PpOk p ∧ getPp (sbit (putPpS p)) (8 * (putPpS p).size) = (p, 0) := by
  unfold putPpE at h
  by_cases q : mayPp p = true
  · have ok := (mayPp_iff p).1 q
    refine ⟨ok, ?_⟩
    unfold putPpS
    rw [if_pos q]
    exact pp_back p ok
  · rw [if_neg q] at h; cases h

def awS : Sp := ⟨1, 2, 4, 0, 4, 0, [], 1, 0⟩
def awP : Pp := ⟨false, false, 0, 30, 0, false, false, 1, 1⟩
theorem aw_s : putSpE awS = 0 ∧ maySp awS = true := by decide +kernel
theorem aw_p : putPpE awP = 0 ∧ mayPp awP = true := by decide +kernel
theorem aw_none : (getSp (sbit ByteArray.empty) (8 * ByteArray.empty.size)).2 = 300 := by decide +kernel
theorem getsp_is {s : ByteArray} {p : Sp} {e : Int} (hs : s.size ≤ 140737488351232) (h : getSp (sbit s) (8 * s.size) = (p, e)) (w : World) :
    Calls Try.prog 13 #[.string s] w fun r w' => ∃ A c, r = .returned (.tuple #[.agg (spV p A c), .int .i64 e]) ∧ SpAt w' w'.heap.size p A ∧ w'.ownsRow w.heap.size 3 1 (.slice A p.cy.length c) p.cy.length (cyV p.cy) ∧ Below w.heap.size w w' := by
  refine (getsp_any s w hs).mono ?_
  rintro r w' ⟨v, rfl, ho, hb⟩
  rw [h] at ho ⊢
  obtain ⟨A, c, rfl, _, _, _⟩ := own_slice ho
  exact ⟨A, c, rfl, SpAt.of_own ho, ho, hb⟩
theorem getpp_is {s : ByteArray} {p : Pp} {e : Int} (hs : s.size ≤ 140737488351232) (h : getPp (sbit s) (8 * s.size) = (p, e)) (w : World) :
    Calls Try.prog 24 #[.string s] w fun r w' => r = .returned (.tuple #[.agg (ppV p), .int .i64 e]) ∧ Below w.heap.size w w' := by
  refine (getpp_any s w hs).mono ?_
  rintro r w' ⟨rfl, hb⟩
  rw [h]
  exact ⟨rfl, hb⟩
theorem SpAt.nil (w : World) (B : Nat) (p : Sp) (h : p.cy = []) (A : Option Addr) : SpAt w B p A := by
  unfold SpAt
  rw [h]
  exact Rd.zero _ _ _ _
end Go.Proofs.Ytegfglpaabddlaa

namespace Go.Proofs.Ytegfglpaabddlaa
open Go.RowKit
set_option linter.unusedVariables false
set_option linter.unusedSimpArgs false

set_option maxRecDepth 100000 in
set_option maxHeartbeats 6400000 in
theorem awake_any (w : World) : Calls Try.prog 21 #[] w fun e w' => e = .returned (.bool true) ∧ Below w.heap.size w w' := by
  obtain ⟨T, hT⟩ : ∃ T, T = putSpS awS := ⟨_, rfl⟩
  obtain ⟨U, hU⟩ : ∃ U, U = putPpS awP := ⟨_, rfl⟩
  have h1 : ∀ w, Calls Try.prog 11 #[.agg (spV awS none 0)] w fun e w' => e = .returned (.tuple #[.string T, .int .i64 0]) ∧ Below w.heap.size w w' := fun w => by
    have := putsp_any awS none 0 w (SpAt.nil _ _ _ rfl _) (by decide)
    rw [aw_s.1, ← hT] at this
    exact this
  have h2 : ∀ w, Calls Try.prog 22 #[.agg (ppV awP)] w fun e w' => e = .returned (.tuple #[.string U, .int .i64 0]) ∧ Below w.heap.size w w' := fun w => by
    have := putpp_any awP w
    rw [aw_p.1, ← hU] at this
    exact this
  have h3 := getsp_is (s := T) (p := awS) (e := 0) (by rw [hT]; have := putSp_size awS; omega) (by rw [hT]; exact (sp_again aw_s.1).2)
  have h4 := getpp_is (s := U) (p := awP) (e := 0) (by rw [hU]; have := putPp_size awP; omega) (by rw [hU]; exact (pp_again aw_p.1).2)
  have h5 := getsp_is (s := ByteArray.empty) (p := (getSp (sbit ByteArray.empty) (8 * ByteArray.empty.size)).1) (e := 300) (by decide) (by rw [← aw_none])
  generalize (getSp (sbit ByteArray.empty) (8 * ByteArray.empty.size)).1 = Z at h5
  obtain ⟨z0, z1, z2, z3, z4, z5, cyz, z7, z8⟩ := Z
  have h6 : ∀ w, Calls Try.prog 15 #[.agg (spV awS none 0)] w fun e w' => e = .returned (.bool true) ∧ Below w.heap.size w w' := fun w => by
    have := maysp_any awS none 0 w (SpAt.nil _ _ _ rfl _) (by decide)
    rw [aw_s.2] at this
    exact this
  have h7 : ∀ w, Calls Try.prog 26 #[.agg (ppV awP)] w fun e w' => e = .returned (.bool true) ∧ Below w.heap.size w w' := fun w => by
    have := maypp_any awP w
    rw [aw_p.2] at this
    exact this
  have h8 : ∀ (A C : Option Addr) (c d : Nat) (w : World), Calls Try.prog 19 #[.agg (spV awS A c), .agg (spV awS C d)] w fun e w' => e = .returned (.bool true) ∧ Below w.heap.size w w' :=
    fun A C c d w => samesps_yes awS A C c d w (SpAt.nil _ _ _ rfl _) (SpAt.nil _ _ _ rfl _) (by decide)
  simp only [spV, ppV, awS, awP, List.length_nil] at h1 h2 h3 h4 h5 h6 h7 h8
  have H1 := Lib.hid h1
  have H2 := Lib.hid h2
  have H3 := Lib.hid h3
  have H4 := Lib.hid h4
  have H5 := Lib.hid h5
  have H6 := Lib.hid h6
  have H7 := Lib.hid h7
  have H8 := Lib.hid h8
  clear h1 h2 h3 h4 h5 h6 h7 h8 hT hU
  go_enter Try.func21, Try.ntmps21
  go_wp2_with fail
  have bb := Below.refl w.heap.size w
  have bb := bb.alloc (by have := bb.size; first | omega | (simp at this ⊢; omega) | simp) (.cells #[.int .i64 1, .int .i64 2, .int .i64 4, .int .i64 0, .int .i64 4, .int .i64 0, .slice none 0 0, .int .i64 1, .int .i64 0] 24)
  have HB := Lib.hid bb
  clear bb
  have kk := Bk.new w 24 #[.int .i64 1, .int .i64 2, .int .i64 4, .int .i64 0, .int .i64 4, .int .i64 0, .slice none 0 0, .int .i64 1, .int .i64 0]
  have K1 := Lib.hid kk
  clear kk
  refine (H1.out _).mono ?_
  rintro e w1 ⟨rfl, hb⟩
  replace K1 := Lib.hid (K1.out.go hb)
  replace HB := Lib.hid (HB.out.trans (hb.mono HB.out.size))
  clear hb
  go_wp2_with fail
  refine (H3.out _).mono ?_
  rintro e w2 ⟨A, c, rfl, _, _, hb⟩
  replace K1 := Lib.hid (K1.out.go hb)
  replace HB := Lib.hid (HB.out.trans (hb.mono HB.out.size))
  clear hb
  go_wp2_with fail
  have kk := K1.out
  have kk := kk.alloc (.cells #[.int .i64 1, .int .i64 2, .int .i64 4, .int .i64 0, .int .i64 4, .int .i64 0, .slice A 0 c, .int .i64 1, .int .i64 0] 24)
  have kk := kk.alloc (.cells #[.bool false, .bool false, .int .i64 0, .int .i64 30, .int .i64 0, .bool false, .bool false, .int .i64 1, .int .i64 1] 43)
  replace K1 := Lib.hid kk
  clear kk
  have bb := HB.out
  have bb := bb.alloc (by have := bb.size; first | omega | (simp at this ⊢; omega) | simp) (.cells #[.int .i64 1, .int .i64 2, .int .i64 4, .int .i64 0, .int .i64 4, .int .i64 0, .slice A 0 c, .int .i64 1, .int .i64 0] 24)
  have bb := bb.alloc (by have := bb.size; first | omega | (simp at this ⊢; omega) | simp) (.cells #[.bool false, .bool false, .int .i64 0, .int .i64 30, .int .i64 0, .bool false, .bool false, .int .i64 1, .int .i64 1] 43)
  replace HB := Lib.hid bb
  clear bb
  have kk := Bk.new w2 24 #[.int .i64 1, .int .i64 2, .int .i64 4, .int .i64 0, .int .i64 4, .int .i64 0, .slice A 0 c, .int .i64 1, .int .i64 0]
  have kk := kk.alloc (.cells #[.bool false, .bool false, .int .i64 0, .int .i64 30, .int .i64 0, .bool false, .bool false, .int .i64 1, .int .i64 1] 43)
  have K4 := Lib.hid kk
  clear kk
  have kk := Bk.new (w2.alloc (.cells #[.int .i64 1, .int .i64 2, .int .i64 4, .int .i64 0, .int .i64 4, .int .i64 0, .slice A 0 c, .int .i64 1, .int .i64 0] 24)) 43 #[.bool false, .bool false, .int .i64 0, .int .i64 30, .int .i64 0, .bool false, .bool false, .int .i64 1, .int .i64 1]
  have K6 := Lib.hid kk
  clear kk
  refine (H2.out _).mono ?_
  rintro e w3 ⟨rfl, hb⟩
  replace K1 := Lib.hid (K1.out.go hb)
  replace K4 := Lib.hid (K4.out.go hb)
  replace K6 := Lib.hid (K6.out.go hb)
  replace HB := Lib.hid (HB.out.trans (hb.mono HB.out.size))
  clear hb
  go_wp2_with fail
  refine (H4.out _).mono ?_
  rintro e w4 ⟨rfl, hb⟩
  replace K1 := Lib.hid (K1.out.go hb)
  replace K4 := Lib.hid (K4.out.go hb)
  replace K6 := Lib.hid (K6.out.go hb)
  replace HB := Lib.hid (HB.out.trans (hb.mono HB.out.size))
  clear hb
  go_wp2_with fail
  have kk := K1.out
  have kk := kk.alloc (.cells #[.bool false, .bool false, .int .i64 0, .int .i64 30, .int .i64 0, .bool false, .bool false, .int .i64 1, .int .i64 1] 43)
  replace K1 := Lib.hid kk
  clear kk
  have kk := K4.out
  have kk := kk.alloc (.cells #[.bool false, .bool false, .int .i64 0, .int .i64 30, .int .i64 0, .bool false, .bool false, .int .i64 1, .int .i64 1] 43)
  replace K4 := Lib.hid kk
  clear kk
  have kk := K6.out
  have kk := kk.alloc (.cells #[.bool false, .bool false, .int .i64 0, .int .i64 30, .int .i64 0, .bool false, .bool false, .int .i64 1, .int .i64 1] 43)
  replace K6 := Lib.hid kk
  clear kk
  have bb := HB.out
  have bb := bb.alloc (by have := bb.size; first | omega | (simp at this ⊢; omega) | simp) (.cells #[.bool false, .bool false, .int .i64 0, .int .i64 30, .int .i64 0, .bool false, .bool false, .int .i64 1, .int .i64 1] 43)
  replace HB := Lib.hid bb
  clear bb
  have kk := Bk.new w4 43 #[.bool false, .bool false, .int .i64 0, .int .i64 30, .int .i64 0, .bool false, .bool false, .int .i64 1, .int .i64 1]
  have K9 := Lib.hid kk
  clear kk
  refine (H5.out _).mono ?_
  rintro e w5 ⟨Az, cz, rfl, _, _, hb⟩
  replace K1 := Lib.hid (K1.out.go hb)
  replace K4 := Lib.hid (K4.out.go hb)
  replace K6 := Lib.hid (K6.out.go hb)
  replace K9 := Lib.hid (K9.out.go hb)
  replace HB := Lib.hid (HB.out.trans (hb.mono HB.out.size))
  clear hb
  have c0 := K1.out.cell 0
  have c1 := K1.out.cell 1
  have c2 := K1.out.cell 2
  have c3 := K1.out.cell 3
  have c4 := K1.out.cell 4
  have c5 := K1.out.cell 5
  have c6 := K1.out.cell 6
  have c7 := K1.out.cell 7
  have c8 := K1.out.cell 8
  simp at c0 c1 c2 c3 c4 c5 c6 c7 c8
  have hlt := K1.out.lt
  have kk := K1.out
  have kk := kk.alloc (.cells #[.int .i64 z0, .int .i64 z1, .int .i64 z2, .int .i64 z3, .int .i64 z4, .int .i64 z5, .slice Az cyz.length cz, .int .i64 z7, .int .i64 z8] 24)
  replace K1 := Lib.hid kk
  clear kk
  have kk := K4.out
  have kk := kk.alloc (.cells #[.int .i64 z0, .int .i64 z1, .int .i64 z2, .int .i64 z3, .int .i64 z4, .int .i64 z5, .slice Az cyz.length cz, .int .i64 z7, .int .i64 z8] 24)
  replace K4 := Lib.hid kk
  clear kk
  have kk := K6.out
  have kk := kk.alloc (.cells #[.int .i64 z0, .int .i64 z1, .int .i64 z2, .int .i64 z3, .int .i64 z4, .int .i64 z5, .slice Az cyz.length cz, .int .i64 z7, .int .i64 z8] 24)
  replace K6 := Lib.hid kk
  clear kk
  have kk := K9.out
  have kk := kk.alloc (.cells #[.int .i64 z0, .int .i64 z1, .int .i64 z2, .int .i64 z3, .int .i64 z4, .int .i64 z5, .slice Az cyz.length cz, .int .i64 z7, .int .i64 z8] 24)
  replace K9 := Lib.hid kk
  clear kk
  have bb := HB.out
  have bb := bb.alloc (by have := bb.size; first | omega | (simp at this ⊢; omega) | simp) (.cells #[.int .i64 z0, .int .i64 z1, .int .i64 z2, .int .i64 z3, .int .i64 z4, .int .i64 z5, .slice Az cyz.length cz, .int .i64 z7, .int .i64 z8] 24)
  replace HB := Lib.hid bb
  clear bb
  have kk := Bk.new w5 24 #[.int .i64 z0, .int .i64 z1, .int .i64 z2, .int .i64 z3, .int .i64 z4, .int .i64 z5, .slice Az cyz.length cz, .int .i64 z7, .int .i64 z8]
  have K11 := Lib.hid kk
  clear kk
  have d0 := K1.out.cell 0
  have d1 := K1.out.cell 1
  have d2 := K1.out.cell 2
  have d3 := K1.out.cell 3
  have d4 := K1.out.cell 4
  have d5 := K1.out.cell 5
  have d6 := K1.out.cell 6
  have d7 := K1.out.cell 7
  have d8 := K1.out.cell 8
  simp at d0 d1 d2 d3 d4 d5 d6 d7 d8
  go_wp2_with fail
  clear c0 c1 c2 c3 c4 c5 c6 c7 c8 d0 d1 d2 d3 d4 d5 d6 d7 d8
  clear hlt
  refine (H6.out _).mono ?_
  rintro e w6 ⟨rfl, hb⟩
  replace K1 := Lib.hid (K1.out.go hb)
  replace K4 := Lib.hid (K4.out.go hb)
  replace K6 := Lib.hid (K6.out.go hb)
  replace K9 := Lib.hid (K9.out.go hb)
  replace K11 := Lib.hid (K11.out.go hb)
  replace HB := Lib.hid (HB.out.trans (hb.mono HB.out.size))
  clear hb
  have c0 := K1.out.cell 0
  have c1 := K1.out.cell 1
  have c2 := K1.out.cell 2
  have c3 := K1.out.cell 3
  have c4 := K1.out.cell 4
  have c5 := K1.out.cell 5
  have c6 := K1.out.cell 6
  have c7 := K1.out.cell 7
  have c8 := K1.out.cell 8
  simp at c0 c1 c2 c3 c4 c5 c6 c7 c8
  have d0 := K4.out.cell 0
  have d1 := K4.out.cell 1
  have d2 := K4.out.cell 2
  have d3 := K4.out.cell 3
  have d4 := K4.out.cell 4
  have d5 := K4.out.cell 5
  have d6 := K4.out.cell 6
  have d7 := K4.out.cell 7
  have d8 := K4.out.cell 8
  simp at d0 d1 d2 d3 d4 d5 d6 d7 d8
  go_wp2_with (go_at_call 17; refine (num_any _ _).mono ?_; rintro e w' ⟨rfl, rfl⟩)
  clear c0 c1 c2 c3 c4 c5 c6 c7 c8 d0 d1 d2 d3 d4 d5 d6 d7 d8
  refine (H8.out _ _ _ _ _).mono ?_
  rintro e w7 ⟨rfl, hb⟩
  replace K1 := Lib.hid (K1.out.go hb)
  replace K4 := Lib.hid (K4.out.go hb)
  replace K6 := Lib.hid (K6.out.go hb)
  replace K9 := Lib.hid (K9.out.go hb)
  replace K11 := Lib.hid (K11.out.go hb)
  replace HB := Lib.hid (HB.out.trans (hb.mono HB.out.size))
  clear hb
  have c0 := K6.out.cell 0
  have c1 := K6.out.cell 1
  have c2 := K6.out.cell 2
  have c3 := K6.out.cell 3
  have c4 := K6.out.cell 4
  have c5 := K6.out.cell 5
  have c6 := K6.out.cell 6
  have c7 := K6.out.cell 7
  have c8 := K6.out.cell 8
  simp at c0 c1 c2 c3 c4 c5 c6 c7 c8
  go_wp2_with (go_at_call 17; refine (num_any _ _).mono ?_; rintro e w' ⟨rfl, rfl⟩)
  clear c0 c1 c2 c3 c4 c5 c6 c7 c8
  refine (H7.out _).mono ?_
  rintro e w8 ⟨rfl, hb⟩
  replace K1 := Lib.hid (K1.out.go hb)
  replace K4 := Lib.hid (K4.out.go hb)
  replace K6 := Lib.hid (K6.out.go hb)
  replace K9 := Lib.hid (K9.out.go hb)
  replace K11 := Lib.hid (K11.out.go hb)
  replace HB := Lib.hid (HB.out.trans (hb.mono HB.out.size))
  clear hb
  have c0 := K6.out.cell 0
  have c1 := K6.out.cell 1
  have c2 := K6.out.cell 2
  have c3 := K6.out.cell 3
  have c4 := K6.out.cell 4
  have c5 := K6.out.cell 5
  have c6 := K6.out.cell 6
  have c7 := K6.out.cell 7
  have c8 := K6.out.cell 8
  simp at c0 c1 c2 c3 c4 c5 c6 c7 c8
  have d0 := K9.out.cell 0
  have d1 := K9.out.cell 1
  have d2 := K9.out.cell 2
  have d3 := K9.out.cell 3
  have d4 := K9.out.cell 4
  have d5 := K9.out.cell 5
  have d6 := K9.out.cell 6
  have d7 := K9.out.cell 7
  have d8 := K9.out.cell 8
  simp at d0 d1 d2 d3 d4 d5 d6 d7 d8
  go_wp2_with (go_at_call 17; refine (num_any _ _).mono ?_; rintro e w' ⟨rfl, rfl⟩)
  go_ret
  exact ⟨rfl, HB.out⟩
end Go.Proofs.Ytegfglpaabddlaa
