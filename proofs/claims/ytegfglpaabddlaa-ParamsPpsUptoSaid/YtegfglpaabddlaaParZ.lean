/- awake of the parameters' statements. Printed by gen-awake.py. -/
import Derived.Test.YtegfglpaabddlaaParY
namespace Go.Proofs.Ytegfglpaabddlaa
open Go.RowKit
set_option linter.unusedVariables false
set_option linter.unusedSimpArgs false

set_option maxRecDepth 100000 in
set_option maxHeartbeats 6400000 in
theorem awake_any (w : World) : Calls Try.prog 21 #[] w fun e w' => e = .returned (.bool true) ∧ Below w.heap.size w w' := by
  obtain ⟨T, hT⟩ : ∃ T, T = putSpS awS := ⟨_, rfl⟩
  obtain ⟨U, hU⟩ : ∃ U, U = putPpS awP := ⟨_, rfl⟩
  have h1 : ∀ w, Calls Try.prog 11 #[.agg (spV awS none 0)] w fun e w' => e = .returned (.tuple #[.string T, .int .i64 0]) ∧ Below w.heap.size w w' := fun w => by
    have := putsp_any awS none 0 w (SpAt.nil _ _ _ rfl _) (by decide)
    rw [aw_s.1, ← hT] at this
    exact this
  have h2 : ∀ w, Calls Try.prog 22 #[.agg (ppV awP)] w fun e w' => e = .returned (.tuple #[.string U, .int .i64 0]) ∧ Below w.heap.size w w' := fun w => by
    have := putpp_any awP w
    rw [aw_p.1, ← hU] at this
    exact this
  have h3 := getsp_is (s := T) (p := awS) (e := 0) (by rw [hT]; have := putSp_size awS; omega) (by rw [hT]; exact (sp_again aw_s.1).2)
  have h4 := getpp_is (s := U) (p := awP) (e := 0) (by rw [hU]; have := putPp_size awP; omega) (by rw [hU]; exact (pp_again aw_p.1).2)
  have h5 := getsp_is (s := ByteArray.empty) (p := (getSp (sbit ByteArray.empty) (8 * ByteArray.empty.size)).1) (e := 300) (by decide) (by rw [← aw_none])
  generalize (getSp (sbit ByteArray.empty) (8 * ByteArray.empty.size)).1 = Z at h5
  obtain ⟨z0, z1, z2, z3, z4, z5, cyz, z7, z8⟩ := Z
  have h6 : ∀ w, Calls Try.prog 15 #[.agg (spV awS none 0)] w fun e w' => e = .returned (.bool true) ∧ Below w.heap.size w w' := fun w => by
    have := maysp_any awS none 0 w (SpAt.nil _ _ _ rfl _) (by decide)
    rw [aw_s.2] at this
    exact this
  have h7 : ∀ w, Calls Try.prog 26 #[.agg (ppV awP)] w fun e w' => e = .returned (.bool true) ∧ Below w.heap.size w w' := fun w => by
    have := maypp_any awP w
    rw [aw_p.2] at this
    exact this
  have h8 : ∀ (A C : Option Addr) (c d : Nat) (w : World), Calls Try.prog 19 #[.agg (spV awS A c), .agg (spV awS C d)] w fun e w' => e = .returned (.bool true) ∧ Below w.heap.size w w' :=
    fun A C c d w => samesps_yes awS A C c d w (SpAt.nil _ _ _ rfl _) (SpAt.nil _ _ _ rfl _) (by decide)
  simp only [spV, ppV, awS, awP, List.length_nil] at h1 h2 h3 h4 h5 h6 h7 h8
  have H1 := Lib.hid h1
  have H2 := Lib.hid h2
  have H3 := Lib.hid h3
  have H4 := Lib.hid h4
  have H5 := Lib.hid h5
  have H6 := Lib.hid h6
  have H7 := Lib.hid h7
  have H8 := Lib.hid h8
  clear h1 h2 h3 h4 h5 h6 h7 h8 hT hU
  go_enter Try.func21, Try.ntmps21
  go_wp2_with fail
  have bb := Below.refl w.heap.size w
  have bb := bb.alloc (by have := bb.size; first | omega | (simp at this ⊢; omega) | simp) (.cells #[.int .i64 1, .int .i64 2, .int .i64 4, .int .i64 0, .int .i64 4, .int .i64 0, .slice none 0 0, .int .i64 1, .int .i64 0] 24)
  have HB := Lib.hid bb
  clear bb
  have kk := Bk.new w 24 #[.int .i64 1, .int .i64 2, .int .i64 4, .int .i64 0, .int .i64 4, .int .i64 0, .slice none 0 0, .int .i64 1, .int .i64 0]
  have K1 := Lib.hid kk
  clear kk
  refine (H1.out _).mono ?_
  rintro e w1 ⟨rfl, hb⟩
  replace K1 := Lib.hid (K1.out.go hb)
  replace HB := Lib.hid (HB.out.trans (hb.mono HB.out.size))
  clear hb
  go_wp2_with fail
  refine (H3.out _).mono ?_
  rintro e w2 ⟨A, c, rfl, _, _, hb⟩
  replace K1 := Lib.hid (K1.out.go hb)
  replace HB := Lib.hid (HB.out.trans (hb.mono HB.out.size))
  clear hb
  go_wp2_with fail
  have kk := K1.out
  have kk := kk.alloc (.cells #[.int .i64 1, .int .i64 2, .int .i64 4, .int .i64 0, .int .i64 4, .int .i64 0, .slice A 0 c, .int .i64 1, .int .i64 0] 24)
  have kk := kk.alloc (.cells #[.bool false, .bool false, .int .i64 0, .int .i64 30, .int .i64 0, .bool false, .bool false, .int .i64 1, .int .i64 1] 43)
  replace K1 := Lib.hid kk
  clear kk
  have bb := HB.out
  have bb := bb.alloc (by have := bb.size; first | omega | (simp at this ⊢; omega) | simp) (.cells #[.int .i64 1, .int .i64 2, .int .i64 4, .int .i64 0, .int .i64 4, .int .i64 0, .slice A 0 c, .int .i64 1, .int .i64 0] 24)
  have bb := bb.alloc (by have := bb.size; first | omega | (simp at this ⊢; omega) | simp) (.cells #[.bool false, .bool false, .int .i64 0, .int .i64 30, .int .i64 0, .bool false, .bool false, .int .i64 1, .int .i64 1] 43)
  replace HB := Lib.hid bb
  clear bb
  have kk := Bk.new w2 24 #[.int .i64 1, .int .i64 2, .int .i64 4, .int .i64 0, .int .i64 4, .int .i64 0, .slice A 0 c, .int .i64 1, .int .i64 0]
  have kk := kk.alloc (.cells #[.bool false, .bool false, .int .i64 0, .int .i64 30, .int .i64 0, .bool false, .bool false, .int .i64 1, .int .i64 1] 43)
  have K4 := Lib.hid kk
  clear kk
  have kk := Bk.new (w2.alloc (.cells #[.int .i64 1, .int .i64 2, .int .i64 4, .int .i64 0, .int .i64 4, .int .i64 0, .slice A 0 c, .int .i64 1, .int .i64 0] 24)) 43 #[.bool false, .bool false, .int .i64 0, .int .i64 30, .int .i64 0, .bool false, .bool false, .int .i64 1, .int .i64 1]
  have K6 := Lib.hid kk
  clear kk
  refine (H2.out _).mono ?_
  rintro e w3 ⟨rfl, hb⟩
  replace K1 := Lib.hid (K1.out.go hb)
  replace K4 := Lib.hid (K4.out.go hb)
  replace K6 := Lib.hid (K6.out.go hb)
  replace HB := Lib.hid (HB.out.trans (hb.mono HB.out.size))
  clear hb
  go_wp2_with fail
  refine (H4.out _).mono ?_
  rintro e w4 ⟨rfl, hb⟩
  replace K1 := Lib.hid (K1.out.go hb)
  replace K4 := Lib.hid (K4.out.go hb)
  replace K6 := Lib.hid (K6.out.go hb)
  replace HB := Lib.hid (HB.out.trans (hb.mono HB.out.size))
  clear hb
  go_wp2_with fail
  have kk := K1.out
  have kk := kk.alloc (.cells #[.bool false, .bool false, .int .i64 0, .int .i64 30, .int .i64 0, .bool false, .bool false, .int .i64 1, .int .i64 1] 43)
  replace K1 := Lib.hid kk
  clear kk
  have kk := K4.out
  have kk := kk.alloc (.cells #[.bool false, .bool false, .int .i64 0, .int .i64 30, .int .i64 0, .bool false, .bool false, .int .i64 1, .int .i64 1] 43)
  replace K4 := Lib.hid kk
  clear kk
  have kk := K6.out
  have kk := kk.alloc (.cells #[.bool false, .bool false, .int .i64 0, .int .i64 30, .int .i64 0, .bool false, .bool false, .int .i64 1, .int .i64 1] 43)
  replace K6 := Lib.hid kk
  clear kk
  have bb := HB.out
  have bb := bb.alloc (by have := bb.size; first | omega | (simp at this ⊢; omega) | simp) (.cells #[.bool false, .bool false, .int .i64 0, .int .i64 30, .int .i64 0, .bool false, .bool false, .int .i64 1, .int .i64 1] 43)
  replace HB := Lib.hid bb
  clear bb
  have kk := Bk.new w4 43 #[.bool false, .bool false, .int .i64 0, .int .i64 30, .int .i64 0, .bool false, .bool false, .int .i64 1, .int .i64 1]
  have K9 := Lib.hid kk
  clear kk
  refine (H5.out _).mono ?_
  rintro e w5 ⟨Az, cz, rfl, _, _, hb⟩
  replace K1 := Lib.hid (K1.out.go hb)
  replace K4 := Lib.hid (K4.out.go hb)
  replace K6 := Lib.hid (K6.out.go hb)
  replace K9 := Lib.hid (K9.out.go hb)
  replace HB := Lib.hid (HB.out.trans (hb.mono HB.out.size))
  clear hb
  have c0 := K1.out.cell 0
  have c1 := K1.out.cell 1
  have c2 := K1.out.cell 2
  have c3 := K1.out.cell 3
  have c4 := K1.out.cell 4
  have c5 := K1.out.cell 5
  have c6 := K1.out.cell 6
  have c7 := K1.out.cell 7
  have c8 := K1.out.cell 8
  simp at c0 c1 c2 c3 c4 c5 c6 c7 c8
  have hlt := K1.out.lt
  have kk := K1.out
  have kk := kk.alloc (.cells #[.int .i64 z0, .int .i64 z1, .int .i64 z2, .int .i64 z3, .int .i64 z4, .int .i64 z5, .slice Az cyz.length cz, .int .i64 z7, .int .i64 z8] 24)
  replace K1 := Lib.hid kk
  clear kk
  have kk := K4.out
  have kk := kk.alloc (.cells #[.int .i64 z0, .int .i64 z1, .int .i64 z2, .int .i64 z3, .int .i64 z4, .int .i64 z5, .slice Az cyz.length cz, .int .i64 z7, .int .i64 z8] 24)
  replace K4 := Lib.hid kk
  clear kk
  have kk := K6.out
  have kk := kk.alloc (.cells #[.int .i64 z0, .int .i64 z1, .int .i64 z2, .int .i64 z3, .int .i64 z4, .int .i64 z5, .slice Az cyz.length cz, .int .i64 z7, .int .i64 z8] 24)
  replace K6 := Lib.hid kk
  clear kk
  have kk := K9.out
  have kk := kk.alloc (.cells #[.int .i64 z0, .int .i64 z1, .int .i64 z2, .int .i64 z3, .int .i64 z4, .int .i64 z5, .slice Az cyz.length cz, .int .i64 z7, .int .i64 z8] 24)
  replace K9 := Lib.hid kk
  clear kk
  have bb := HB.out
  have bb := bb.alloc (by have := bb.size; first | omega | (simp at this ⊢; omega) | simp) (.cells #[.int .i64 z0, .int .i64 z1, .int .i64 z2, .int .i64 z3, .int .i64 z4, .int .i64 z5, .slice Az cyz.length cz, .int .i64 z7, .int .i64 z8] 24)
  replace HB := Lib.hid bb
  clear bb
  have kk := Bk.new w5 24 #[.int .i64 z0, .int .i64 z1, .int .i64 z2, .int .i64 z3, .int .i64 z4, .int .i64 z5, .slice Az cyz.length cz, .int .i64 z7, .int .i64 z8]
  have K11 := Lib.hid kk
  clear kk
  have d0 := K1.out.cell 0
  have d1 := K1.out.cell 1
  have d2 := K1.out.cell 2
  have d3 := K1.out.cell 3
  have d4 := K1.out.cell 4
  have d5 := K1.out.cell 5
  have d6 := K1.out.cell 6
  have d7 := K1.out.cell 7
  have d8 := K1.out.cell 8
  simp at d0 d1 d2 d3 d4 d5 d6 d7 d8
  go_wp2_with fail
  clear c0 c1 c2 c3 c4 c5 c6 c7 c8 d0 d1 d2 d3 d4 d5 d6 d7 d8
  clear hlt
  refine (H6.out _).mono ?_
  rintro e w6 ⟨rfl, hb⟩
  replace K1 := Lib.hid (K1.out.go hb)
  replace K4 := Lib.hid (K4.out.go hb)
  replace K6 := Lib.hid (K6.out.go hb)
  replace K9 := Lib.hid (K9.out.go hb)
  replace K11 := Lib.hid (K11.out.go hb)
  replace HB := Lib.hid (HB.out.trans (hb.mono HB.out.size))
  clear hb
  have c0 := K1.out.cell 0
  have c1 := K1.out.cell 1
  have c2 := K1.out.cell 2
  have c3 := K1.out.cell 3
  have c4 := K1.out.cell 4
  have c5 := K1.out.cell 5
  have c6 := K1.out.cell 6
  have c7 := K1.out.cell 7
  have c8 := K1.out.cell 8
  simp at c0 c1 c2 c3 c4 c5 c6 c7 c8
  have d0 := K4.out.cell 0
  have d1 := K4.out.cell 1
  have d2 := K4.out.cell 2
  have d3 := K4.out.cell 3
  have d4 := K4.out.cell 4
  have d5 := K4.out.cell 5
  have d6 := K4.out.cell 6
  have d7 := K4.out.cell 7
  have d8 := K4.out.cell 8
  simp at d0 d1 d2 d3 d4 d5 d6 d7 d8
  go_wp2_with (go_at_call 17; refine (num_any _ _).mono ?_; rintro e w' ⟨rfl, rfl⟩)
  clear c0 c1 c2 c3 c4 c5 c6 c7 c8 d0 d1 d2 d3 d4 d5 d6 d7 d8
  refine (H8.out _ _ _ _ _).mono ?_
  rintro e w7 ⟨rfl, hb⟩
  replace K1 := Lib.hid (K1.out.go hb)
  replace K4 := Lib.hid (K4.out.go hb)
  replace K6 := Lib.hid (K6.out.go hb)
  replace K9 := Lib.hid (K9.out.go hb)
  replace K11 := Lib.hid (K11.out.go hb)
  replace HB := Lib.hid (HB.out.trans (hb.mono HB.out.size))
  clear hb
  have c0 := K6.out.cell 0
  have c1 := K6.out.cell 1
  have c2 := K6.out.cell 2
  have c3 := K6.out.cell 3
  have c4 := K6.out.cell 4
  have c5 := K6.out.cell 5
  have c6 := K6.out.cell 6
  have c7 := K6.out.cell 7
  have c8 := K6.out.cell 8
  simp at c0 c1 c2 c3 c4 c5 c6 c7 c8
  go_wp2_with (go_at_call 17; refine (num_any _ _).mono ?_; rintro e w' ⟨rfl, rfl⟩)
  clear c0 c1 c2 c3 c4 c5 c6 c7 c8
  refine (H7.out _).mono ?_
  rintro e w8 ⟨rfl, hb⟩
  replace K1 := Lib.hid (K1.out.go hb)
  replace K4 := Lib.hid (K4.out.go hb)
  replace K6 := Lib.hid (K6.out.go hb)
  replace K9 := Lib.hid (K9.out.go hb)
  replace K11 := Lib.hid (K11.out.go hb)
  replace HB := Lib.hid (HB.out.trans (hb.mono HB.out.size))
  clear hb
  have c0 := K6.out.cell 0
  have c1 := K6.out.cell 1
  have c2 := K6.out.cell 2
  have c3 := K6.out.cell 3
  have c4 := K6.out.cell 4
  have c5 := K6.out.cell 5
  have c6 := K6.out.cell 6
  have c7 := K6.out.cell 7
  have c8 := K6.out.cell 8
  simp at c0 c1 c2 c3 c4 c5 c6 c7 c8
  have d0 := K9.out.cell 0
  have d1 := K9.out.cell 1
  have d2 := K9.out.cell 2
  have d3 := K9.out.cell 3
  have d4 := K9.out.cell 4
  have d5 := K9.out.cell 5
  have d6 := K9.out.cell 6
  have d7 := K9.out.cell 7
  have d8 := K9.out.cell 8
  simp at d0 d1 d2 d3 d4 d5 d6 d7 d8
  go_wp2_with (go_at_call 17; refine (num_any _ _).mono ?_; rintro e w' ⟨rfl, rfl⟩)
  go_ret
  exact ⟨rfl, HB.out⟩
end Go.Proofs.Ytegfglpaabddlaa
