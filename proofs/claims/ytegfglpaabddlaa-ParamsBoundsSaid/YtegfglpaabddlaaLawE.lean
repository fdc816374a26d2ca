/- ParamsBounds. Printed by gen-bounds.py. -/
import Derived.Test.YtegfglpaabddlaaLawD
namespace Go.Proofs.Ytegfglpaabddlaa
open Go.RowKit
set_option linter.unusedVariables false
set_option linter.unusedSimpArgs false


set_option maxRecDepth 100000 in
set_option maxHeartbeats 6400000 in
theorem bounds_00 (a0 a1 x : Int) (w : World) (hk : (IntKind.u64.wrap a0).tmod 6 = 0) (hx : a1.tmod 12 = x) (b1 : -12 < x ∧ x < 12) (hf : x < 1) :
    Calls Try.prog 6 #[.int .i64 a0, .int .i64 a1] w fun e w' => e = .returned (.bool true) ∧ Below w.heap.size w w' := by
  have no : ¬ SpOk ⟨x, 2, 5, 0, 5, 0, [], 3, 1⟩ := fun q => by
    obtain ⟨q1, q2, q3, q4, _, _, _, _, _, _, q5, q6, _⟩ := q
    simp at q1 q2 q3 q4 q5 q6
    omega
  have hm : maySp ⟨x, 2, 5, 0, 5, 0, [], 3, 1⟩ = false := maySp_no _ no
  have h1 := fun w => putsp_no (p := ⟨x, 2, 5, 0, 5, 0, [], 3, 1⟩) (fun h => by rw [maySp_of h] at hm; cases hm) none 0 w (SpAt.nil _ _ _ rfl _) (by simp)
  have h3 := fun w => maysp_is hm none 0 w (SpAt.nil _ _ _ rfl _) (by simp)
  simp only [spV, List.length_nil] at h1 h3
  have X1 := Lib.hid h1
  have X3 := Lib.hid h3
  clear h1 h3 hm no
  have HB := Lib.hid (Below.refl w.heap.size w)
  go_enter Try.func6, Try.ntmps6
  go_wp2_with fail
  refine (awake_any _).mono ?_
  rintro e w1 ⟨rfl, hb⟩
  replace HB := Lib.hid (HB.out.trans (hb.mono HB.out.size))
  clear hb
  replace HB := Lib.hid (HB.out.alloc HB.out.size (.cells #[.int .i64 x, .int .i64 2, .int .i64 5, .int .i64 0, .int .i64 5, .int .i64 0, .slice none 0 0, .int .i64 3, .int .i64 1] 24))
  have Ks := Lib.hid (Bk.new w1 24 #[.int .i64 x, .int .i64 2, .int .i64 5, .int .i64 0, .int .i64 5, .int .i64 0, .slice none 0 0, .int .i64 3, .int .i64 1])
  go_wp2_with fail
  refine (X1.out _).mono ?_
  rintro e w2 ⟨rfl, hb⟩
  replace Ks := Lib.hid (Ks.out.go hb)
  replace HB := Lib.hid (HB.out.trans (hb.mono HB.out.size))
  clear hb
  clear hk hx
  have cs_0 := Ks.out.cell 0
  have cs_1 := Ks.out.cell 1
  have cs_2 := Ks.out.cell 2
  have cs_3 := Ks.out.cell 3
  have cs_4 := Ks.out.cell 4
  have cs_5 := Ks.out.cell 5
  have cs_6 := Ks.out.cell 6
  have cs_7 := Ks.out.cell 7
  have cs_8 := Ks.out.cell 8
  simp at cs_0 cs_1 cs_2 cs_3 cs_4 cs_5 cs_6 cs_7 cs_8
  go_wp2_with (go_at_call 17; refine (num_any _ _).mono ?_; rintro e w' ⟨rfl, rfl⟩)
  clear cs_0 cs_1 cs_2 cs_3 cs_4 cs_5 cs_6 cs_7 cs_8
  refine (X3.out _).mono ?_
  rintro e w3 ⟨rfl, hb⟩
  replace Ks := Lib.hid (Ks.out.go hb)
  replace HB := Lib.hid (HB.out.trans (hb.mono HB.out.size))
  clear hb
  go_wp2_with (go_at_call 17; refine (num_any _ _).mono ?_; rintro e w' ⟨rfl, rfl⟩)
  go_ret
  exact ⟨rfl, HB.out⟩
set_option maxRecDepth 100000 in
set_option maxHeartbeats 6400000 in
theorem bounds_01 (a0 a1 x : Int) (w : World) (hk : (IntKind.u64.wrap a0).tmod 6 = 0) (hx : a1.tmod 12 = x) (b1 : -12 < x ∧ x < 12) (hf : 8 < x) :
    Calls Try.prog 6 #[.int .i64 a0, .int .i64 a1] w fun e w' => e = .returned (.bool true) ∧ Below w.heap.size w w' := by
  have no : ¬ SpOk ⟨x, 2, 5, 0, 5, 0, [], 3, 1⟩ := fun q => by
    obtain ⟨q1, q2, q3, q4, _, _, _, _, _, _, q5, q6, _⟩ := q
    simp at q1 q2 q3 q4 q5 q6
    omega
  have hm : maySp ⟨x, 2, 5, 0, 5, 0, [], 3, 1⟩ = false := maySp_no _ no
  have h1 := fun w => putsp_no (p := ⟨x, 2, 5, 0, 5, 0, [], 3, 1⟩) (fun h => by rw [maySp_of h] at hm; cases hm) none 0 w (SpAt.nil _ _ _ rfl _) (by simp)
  have h3 := fun w => maysp_is hm none 0 w (SpAt.nil _ _ _ rfl _) (by simp)
  simp only [spV, List.length_nil] at h1 h3
  have X1 := Lib.hid h1
  have X3 := Lib.hid h3
  clear h1 h3 hm no
  have HB := Lib.hid (Below.refl w.heap.size w)
  go_enter Try.func6, Try.ntmps6
  go_wp2_with fail
  refine (awake_any _).mono ?_
  rintro e w1 ⟨rfl, hb⟩
  replace HB := Lib.hid (HB.out.trans (hb.mono HB.out.size))
  clear hb
  replace HB := Lib.hid (HB.out.alloc HB.out.size (.cells #[.int .i64 x, .int .i64 2, .int .i64 5, .int .i64 0, .int .i64 5, .int .i64 0, .slice none 0 0, .int .i64 3, .int .i64 1] 24))
  have Ks := Lib.hid (Bk.new w1 24 #[.int .i64 x, .int .i64 2, .int .i64 5, .int .i64 0, .int .i64 5, .int .i64 0, .slice none 0 0, .int .i64 3, .int .i64 1])
  go_wp2_with fail
  refine (X1.out _).mono ?_
  rintro e w2 ⟨rfl, hb⟩
  replace Ks := Lib.hid (Ks.out.go hb)
  replace HB := Lib.hid (HB.out.trans (hb.mono HB.out.size))
  clear hb
  clear hk hx
  have cs_0 := Ks.out.cell 0
  have cs_1 := Ks.out.cell 1
  have cs_2 := Ks.out.cell 2
  have cs_3 := Ks.out.cell 3
  have cs_4 := Ks.out.cell 4
  have cs_5 := Ks.out.cell 5
  have cs_6 := Ks.out.cell 6
  have cs_7 := Ks.out.cell 7
  have cs_8 := Ks.out.cell 8
  simp at cs_0 cs_1 cs_2 cs_3 cs_4 cs_5 cs_6 cs_7 cs_8
  go_wp2_with (go_at_call 17; refine (num_any _ _).mono ?_; rintro e w' ⟨rfl, rfl⟩)
  rotate_left
  · exfalso
    have hz : (!decide (x ≤ 8)) = false := by assumption
    simp at hz <;> omega
  clear cs_0 cs_1 cs_2 cs_3 cs_4 cs_5 cs_6 cs_7 cs_8
  refine (X3.out _).mono ?_
  rintro e w3 ⟨rfl, hb⟩
  replace Ks := Lib.hid (Ks.out.go hb)
  replace HB := Lib.hid (HB.out.trans (hb.mono HB.out.size))
  clear hb
  go_wp2_with (go_at_call 17; refine (num_any _ _).mono ?_; rintro e w' ⟨rfl, rfl⟩)
  go_ret
  exact ⟨rfl, HB.out⟩
set_option maxRecDepth 100000 in
set_option maxHeartbeats 6400000 in
theorem bounds_02 (a0 a1 x : Int) (w : World) (hk : (IntKind.u64.wrap a0).tmod 6 = 0) (hx : a1.tmod 12 = x) (b1 : -12 < x ∧ x < 12) (hf : 1 ≤ x ∧ x ≤ 8) :
    Calls Try.prog 6 #[.int .i64 a0, .int .i64 a1] w fun e w' => e = .returned (.bool true) ∧ Below w.heap.size w w' := by
  have ok : SpOk ⟨x, 2, 5, 0, 5, 0, [], 3, 1⟩ := by
    refine ⟨?_, ?_, ?_, ?_, ?_, ?_, ?_, ?_, ?_, ?_, ?_, ?_, ?_⟩ <;> simp [cyOk] <;> omega
  have hE : putSpE ⟨x, 2, 5, 0, 5, 0, [], 3, 1⟩ = 0 := by unfold putSpE; rw [if_pos ((maySp_iff _).2 ok)]
  have h1 := fun w => putsp_yes hE none 0 w (SpAt.nil _ _ _ rfl _) (by simp)
  have h2 := getsp_yes hE
  have h3 := fun w => maysp_is (maySp_of hE) none 0 w (SpAt.nil _ _ _ rfl _) (by simp)
  have h4 := fun A C c d w => samesps_yes ⟨x, 2, 5, 0, 5, 0, [], 3, 1⟩ A C c d w (SpAt.nil _ _ _ rfl _) (SpAt.nil _ _ _ rfl _) (by simp)
  generalize putSpS ⟨x, 2, 5, 0, 5, 0, [], 3, 1⟩ = T at h1 h2
  simp only [spV, List.length_nil] at h1 h2 h3 h4
  have X1 := Lib.hid h1
  have X2 := Lib.hid h2
  have X3 := Lib.hid h3
  have X4 := Lib.hid h4
  clear h1 h2 h3 h4 ok hE
  have HB := Lib.hid (Below.refl w.heap.size w)
  go_enter Try.func6, Try.ntmps6
  go_wp2_with fail
  refine (awake_any _).mono ?_
  rintro e w1 ⟨rfl, hb⟩
  replace HB := Lib.hid (HB.out.trans (hb.mono HB.out.size))
  clear hb
  replace HB := Lib.hid (HB.out.alloc HB.out.size (.cells #[.int .i64 x, .int .i64 2, .int .i64 5, .int .i64 0, .int .i64 5, .int .i64 0, .slice none 0 0, .int .i64 3, .int .i64 1] 24))
  have Ks := Lib.hid (Bk.new w1 24 #[.int .i64 x, .int .i64 2, .int .i64 5, .int .i64 0, .int .i64 5, .int .i64 0, .slice none 0 0, .int .i64 3, .int .i64 1])
  go_wp2_with fail
  refine (X1.out _).mono ?_
  rintro e w2 ⟨rfl, hb⟩
  replace Ks := Lib.hid (Ks.out.go hb)
  replace HB := Lib.hid (HB.out.trans (hb.mono HB.out.size))
  clear hb
  clear hk hx
  go_wp2_with (go_at_call 17; refine (num_any _ _).mono ?_; rintro e w' ⟨rfl, rfl⟩)
  refine (X2.out _).mono ?_
  rintro e w3 ⟨A1, c1, rfl, _, _, hb⟩
  replace Ks := Lib.hid (Ks.out.go hb)
  replace HB := Lib.hid (HB.out.trans (hb.mono HB.out.size))
  clear hb
  have cs_0 := Ks.out.cell 0
  have cs_1 := Ks.out.cell 1
  have cs_2 := Ks.out.cell 2
  have cs_3 := Ks.out.cell 3
  have cs_4 := Ks.out.cell 4
  have cs_5 := Ks.out.cell 5
  have cs_6 := Ks.out.cell 6
  have cs_7 := Ks.out.cell 7
  have cs_8 := Ks.out.cell 8
  simp at cs_0 cs_1 cs_2 cs_3 cs_4 cs_5 cs_6 cs_7 cs_8
  have hlts := Ks.out.lt
  replace Ks := Lib.hid (Ks.out.alloc (.cells #[.int .i64 x, .int .i64 2, .int .i64 5, .int .i64 0, .int .i64 5, .int .i64 0, .slice A1 0 c1, .int .i64 3, .int .i64 1] 24))
  replace HB := Lib.hid (HB.out.alloc HB.out.size (.cells #[.int .i64 x, .int .i64 2, .int .i64 5, .int .i64 0, .int .i64 5, .int .i64 0, .slice A1 0 c1, .int .i64 3, .int .i64 1] 24))
  have Kt := Lib.hid (Bk.new w3 24 #[.int .i64 x, .int .i64 2, .int .i64 5, .int .i64 0, .int .i64 5, .int .i64 0, .slice A1 0 c1, .int .i64 3, .int .i64 1])
  have csb_0 := Ks.out.cell 0
  have csb_1 := Ks.out.cell 1
  have csb_2 := Ks.out.cell 2
  have csb_3 := Ks.out.cell 3
  have csb_4 := Ks.out.cell 4
  have csb_5 := Ks.out.cell 5
  have csb_6 := Ks.out.cell 6
  have csb_7 := Ks.out.cell 7
  have csb_8 := Ks.out.cell 8
  simp at csb_0 csb_1 csb_2 csb_3 csb_4 csb_5 csb_6 csb_7 csb_8
  go_wp2_with (go_at_call 17; refine (num_any _ _).mono ?_; rintro e w' ⟨rfl, rfl⟩)
  clear cs_0 cs_1 cs_2 cs_3 cs_4 cs_5 cs_6 cs_7 cs_8 hlts csb_0 csb_1 csb_2 csb_3 csb_4 csb_5 csb_6 csb_7 csb_8
  refine (X3.out _).mono ?_
  rintro e w4 ⟨rfl, hb⟩
  replace Ks := Lib.hid (Ks.out.go hb)
  replace Kt := Lib.hid (Kt.out.go hb)
  replace HB := Lib.hid (HB.out.trans (hb.mono HB.out.size))
  clear hb
  have cs_0 := Ks.out.cell 0
  have cs_1 := Ks.out.cell 1
  have cs_2 := Ks.out.cell 2
  have cs_3 := Ks.out.cell 3
  have cs_4 := Ks.out.cell 4
  have cs_5 := Ks.out.cell 5
  have cs_6 := Ks.out.cell 6
  have cs_7 := Ks.out.cell 7
  have cs_8 := Ks.out.cell 8
  simp at cs_0 cs_1 cs_2 cs_3 cs_4 cs_5 cs_6 cs_7 cs_8
  have ct_0 := Kt.out.cell 0
  have ct_1 := Kt.out.cell 1
  have ct_2 := Kt.out.cell 2
  have ct_3 := Kt.out.cell 3
  have ct_4 := Kt.out.cell 4
  have ct_5 := Kt.out.cell 5
  have ct_6 := Kt.out.cell 6
  have ct_7 := Kt.out.cell 7
  have ct_8 := Kt.out.cell 8
  simp at ct_0 ct_1 ct_2 ct_3 ct_4 ct_5 ct_6 ct_7 ct_8
  go_wp2_with (go_at_call 17; refine (num_any _ _).mono ?_; rintro e w' ⟨rfl, rfl⟩)
  clear cs_0 cs_1 cs_2 cs_3 cs_4 cs_5 cs_6 cs_7 cs_8 ct_0 ct_1 ct_2 ct_3 ct_4 ct_5 ct_6 ct_7 ct_8
  refine (X4.out _ _ _ _ _).mono ?_
  rintro e w5 ⟨rfl, hb⟩
  replace Ks := Lib.hid (Ks.out.go hb)
  replace Kt := Lib.hid (Kt.out.go hb)
  replace HB := Lib.hid (HB.out.trans (hb.mono HB.out.size))
  clear hb
  go_wp2_with (go_at_call 17; refine (num_any _ _).mono ?_; rintro e w' ⟨rfl, rfl⟩)
  go_ret
  exact ⟨rfl, HB.out⟩
set_option maxRecDepth 100000 in
set_option maxHeartbeats 6400000 in
theorem bounds_10 (a0 a1 x : Int) (w : World) (hk : (IntKind.u64.wrap a0).tmod 6 = 1) (hx : a1.tmod 12 = x) (b1 : -12 < x ∧ x < 12) (hf : x < 1) :
    Calls Try.prog 6 #[.int .i64 a0, .int .i64 a1] w fun e w' => e = .returned (.bool true) ∧ Below w.heap.size w w' := by
  have no : ¬ SpOk ⟨2, x, 5, 0, 5, 0, [], 3, 1⟩ := fun q => by
    obtain ⟨q1, q2, q3, q4, _, _, _, _, _, _, q5, q6, _⟩ := q
    simp at q1 q2 q3 q4 q5 q6
    omega
  have hm : maySp ⟨2, x, 5, 0, 5, 0, [], 3, 1⟩ = false := maySp_no _ no
  have h1 := fun w => putsp_no (p := ⟨2, x, 5, 0, 5, 0, [], 3, 1⟩) (fun h => by rw [maySp_of h] at hm; cases hm) none 0 w (SpAt.nil _ _ _ rfl _) (by simp)
  have h3 := fun w => maysp_is hm none 0 w (SpAt.nil _ _ _ rfl _) (by simp)
  simp only [spV, List.length_nil] at h1 h3
  have X1 := Lib.hid h1
  have X3 := Lib.hid h3
  clear h1 h3 hm no
  have HB := Lib.hid (Below.refl w.heap.size w)
  go_enter Try.func6, Try.ntmps6
  go_wp2_with fail
  refine (awake_any _).mono ?_
  rintro e w1 ⟨rfl, hb⟩
  replace HB := Lib.hid (HB.out.trans (hb.mono HB.out.size))
  clear hb
  replace HB := Lib.hid (HB.out.alloc HB.out.size (.cells #[.int .i64 2, .int .i64 x, .int .i64 5, .int .i64 0, .int .i64 5, .int .i64 0, .slice none 0 0, .int .i64 3, .int .i64 1] 24))
  have Ks := Lib.hid (Bk.new w1 24 #[.int .i64 2, .int .i64 x, .int .i64 5, .int .i64 0, .int .i64 5, .int .i64 0, .slice none 0 0, .int .i64 3, .int .i64 1])
  go_wp2_with fail
  refine (X1.out _).mono ?_
  rintro e w2 ⟨rfl, hb⟩
  replace Ks := Lib.hid (Ks.out.go hb)
  replace HB := Lib.hid (HB.out.trans (hb.mono HB.out.size))
  clear hb
  clear hk hx
  have cs_0 := Ks.out.cell 0
  have cs_1 := Ks.out.cell 1
  have cs_2 := Ks.out.cell 2
  have cs_3 := Ks.out.cell 3
  have cs_4 := Ks.out.cell 4
  have cs_5 := Ks.out.cell 5
  have cs_6 := Ks.out.cell 6
  have cs_7 := Ks.out.cell 7
  have cs_8 := Ks.out.cell 8
  simp at cs_0 cs_1 cs_2 cs_3 cs_4 cs_5 cs_6 cs_7 cs_8
  go_wp2_with (go_at_call 17; refine (num_any _ _).mono ?_; rintro e w' ⟨rfl, rfl⟩)
  clear cs_0 cs_1 cs_2 cs_3 cs_4 cs_5 cs_6 cs_7 cs_8
  refine (X3.out _).mono ?_
  rintro e w3 ⟨rfl, hb⟩
  replace Ks := Lib.hid (Ks.out.go hb)
  replace HB := Lib.hid (HB.out.trans (hb.mono HB.out.size))
  clear hb
  go_wp2_with (go_at_call 17; refine (num_any _ _).mono ?_; rintro e w' ⟨rfl, rfl⟩)
  go_ret
  exact ⟨rfl, HB.out⟩
set_option maxRecDepth 100000 in
set_option maxHeartbeats 6400000 in
theorem bounds_11 (a0 a1 x : Int) (w : World) (hk : (IntKind.u64.wrap a0).tmod 6 = 1) (hx : a1.tmod 12 = x) (b1 : -12 < x ∧ x < 12) (hf : 8 < x) :
    Calls Try.prog 6 #[.int .i64 a0, .int .i64 a1] w fun e w' => e = .returned (.bool true) ∧ Below w.heap.size w w' := by
  have no : ¬ SpOk ⟨2, x, 5, 0, 5, 0, [], 3, 1⟩ := fun q => by
    obtain ⟨q1, q2, q3, q4, _, _, _, _, _, _, q5, q6, _⟩ := q
    simp at q1 q2 q3 q4 q5 q6
    omega
  have hm : maySp ⟨2, x, 5, 0, 5, 0, [], 3, 1⟩ = false := maySp_no _ no
  have h1 := fun w => putsp_no (p := ⟨2, x, 5, 0, 5, 0, [], 3, 1⟩) (fun h => by rw [maySp_of h] at hm; cases hm) none 0 w (SpAt.nil _ _ _ rfl _) (by simp)
  have h3 := fun w => maysp_is hm none 0 w (SpAt.nil _ _ _ rfl _) (by simp)
  simp only [spV, List.length_nil] at h1 h3
  have X1 := Lib.hid h1
  have X3 := Lib.hid h3
  clear h1 h3 hm no
  have HB := Lib.hid (Below.refl w.heap.size w)
  go_enter Try.func6, Try.ntmps6
  go_wp2_with fail
  refine (awake_any _).mono ?_
  rintro e w1 ⟨rfl, hb⟩
  replace HB := Lib.hid (HB.out.trans (hb.mono HB.out.size))
  clear hb
  replace HB := Lib.hid (HB.out.alloc HB.out.size (.cells #[.int .i64 2, .int .i64 x, .int .i64 5, .int .i64 0, .int .i64 5, .int .i64 0, .slice none 0 0, .int .i64 3, .int .i64 1] 24))
  have Ks := Lib.hid (Bk.new w1 24 #[.int .i64 2, .int .i64 x, .int .i64 5, .int .i64 0, .int .i64 5, .int .i64 0, .slice none 0 0, .int .i64 3, .int .i64 1])
  go_wp2_with fail
  refine (X1.out _).mono ?_
  rintro e w2 ⟨rfl, hb⟩
  replace Ks := Lib.hid (Ks.out.go hb)
  replace HB := Lib.hid (HB.out.trans (hb.mono HB.out.size))
  clear hb
  clear hk hx
  have cs_0 := Ks.out.cell 0
  have cs_1 := Ks.out.cell 1
  have cs_2 := Ks.out.cell 2
  have cs_3 := Ks.out.cell 3
  have cs_4 := Ks.out.cell 4
  have cs_5 := Ks.out.cell 5
  have cs_6 := Ks.out.cell 6
  have cs_7 := Ks.out.cell 7
  have cs_8 := Ks.out.cell 8
  simp at cs_0 cs_1 cs_2 cs_3 cs_4 cs_5 cs_6 cs_7 cs_8
  go_wp2_with (go_at_call 17; refine (num_any _ _).mono ?_; rintro e w' ⟨rfl, rfl⟩)
  rotate_left
  · exfalso
    have hz : (!decide (x ≤ 8)) = false := by assumption
    simp at hz <;> omega
  clear cs_0 cs_1 cs_2 cs_3 cs_4 cs_5 cs_6 cs_7 cs_8
  refine (X3.out _).mono ?_
  rintro e w3 ⟨rfl, hb⟩
  replace Ks := Lib.hid (Ks.out.go hb)
  replace HB := Lib.hid (HB.out.trans (hb.mono HB.out.size))
  clear hb
  go_wp2_with (go_at_call 17; refine (num_any _ _).mono ?_; rintro e w' ⟨rfl, rfl⟩)
  go_ret
  exact ⟨rfl, HB.out⟩
set_option maxRecDepth 100000 in
set_option maxHeartbeats 6400000 in
theorem bounds_12 (a0 a1 x : Int) (w : World) (hk : (IntKind.u64.wrap a0).tmod 6 = 1) (hx : a1.tmod 12 = x) (b1 : -12 < x ∧ x < 12) (hf : 1 ≤ x ∧ x ≤ 8) :
    Calls Try.prog 6 #[.int .i64 a0, .int .i64 a1] w fun e w' => e = .returned (.bool true) ∧ Below w.heap.size w w' := by
  have ok : SpOk ⟨2, x, 5, 0, 5, 0, [], 3, 1⟩ := by
    refine ⟨?_, ?_, ?_, ?_, ?_, ?_, ?_, ?_, ?_, ?_, ?_, ?_, ?_⟩ <;> simp [cyOk] <;> omega
  have hE : putSpE ⟨2, x, 5, 0, 5, 0, [], 3, 1⟩ = 0 := by unfold putSpE; rw [if_pos ((maySp_iff _).2 ok)]
  have h1 := fun w => putsp_yes hE none 0 w (SpAt.nil _ _ _ rfl _) (by simp)
  have h2 := getsp_yes hE
  have h3 := fun w => maysp_is (maySp_of hE) none 0 w (SpAt.nil _ _ _ rfl _) (by simp)
  have h4 := fun A C c d w => samesps_yes ⟨2, x, 5, 0, 5, 0, [], 3, 1⟩ A C c d w (SpAt.nil _ _ _ rfl _) (SpAt.nil _ _ _ rfl _) (by simp)
  generalize putSpS ⟨2, x, 5, 0, 5, 0, [], 3, 1⟩ = T at h1 h2
  simp only [spV, List.length_nil] at h1 h2 h3 h4
  have X1 := Lib.hid h1
  have X2 := Lib.hid h2
  have X3 := Lib.hid h3
  have X4 := Lib.hid h4
  clear h1 h2 h3 h4 ok hE
  have HB := Lib.hid (Below.refl w.heap.size w)
  go_enter Try.func6, Try.ntmps6
  go_wp2_with fail
  refine (awake_any _).mono ?_
  rintro e w1 ⟨rfl, hb⟩
  replace HB := Lib.hid (HB.out.trans (hb.mono HB.out.size))
  clear hb
  replace HB := Lib.hid (HB.out.alloc HB.out.size (.cells #[.int .i64 2, .int .i64 x, .int .i64 5, .int .i64 0, .int .i64 5, .int .i64 0, .slice none 0 0, .int .i64 3, .int .i64 1] 24))
  have Ks := Lib.hid (Bk.new w1 24 #[.int .i64 2, .int .i64 x, .int .i64 5, .int .i64 0, .int .i64 5, .int .i64 0, .slice none 0 0, .int .i64 3, .int .i64 1])
  go_wp2_with fail
  refine (X1.out _).mono ?_
  rintro e w2 ⟨rfl, hb⟩
  replace Ks := Lib.hid (Ks.out.go hb)
  replace HB := Lib.hid (HB.out.trans (hb.mono HB.out.size))
  clear hb
  clear hk hx
  go_wp2_with (go_at_call 17; refine (num_any _ _).mono ?_; rintro e w' ⟨rfl, rfl⟩)
  refine (X2.out _).mono ?_
  rintro e w3 ⟨A1, c1, rfl, _, _, hb⟩
  replace Ks := Lib.hid (Ks.out.go hb)
  replace HB := Lib.hid (HB.out.trans (hb.mono HB.out.size))
  clear hb
  have cs_0 := Ks.out.cell 0
  have cs_1 := Ks.out.cell 1
  have cs_2 := Ks.out.cell 2
  have cs_3 := Ks.out.cell 3
  have cs_4 := Ks.out.cell 4
  have cs_5 := Ks.out.cell 5
  have cs_6 := Ks.out.cell 6
  have cs_7 := Ks.out.cell 7
  have cs_8 := Ks.out.cell 8
  simp at cs_0 cs_1 cs_2 cs_3 cs_4 cs_5 cs_6 cs_7 cs_8
  have hlts := Ks.out.lt
  replace Ks := Lib.hid (Ks.out.alloc (.cells #[.int .i64 2, .int .i64 x, .int .i64 5, .int .i64 0, .int .i64 5, .int .i64 0, .slice A1 0 c1, .int .i64 3, .int .i64 1] 24))
  replace HB := Lib.hid (HB.out.alloc HB.out.size (.cells #[.int .i64 2, .int .i64 x, .int .i64 5, .int .i64 0, .int .i64 5, .int .i64 0, .slice A1 0 c1, .int .i64 3, .int .i64 1] 24))
  have Kt := Lib.hid (Bk.new w3 24 #[.int .i64 2, .int .i64 x, .int .i64 5, .int .i64 0, .int .i64 5, .int .i64 0, .slice A1 0 c1, .int .i64 3, .int .i64 1])
  have csb_0 := Ks.out.cell 0
  have csb_1 := Ks.out.cell 1
  have csb_2 := Ks.out.cell 2
  have csb_3 := Ks.out.cell 3
  have csb_4 := Ks.out.cell 4
  have csb_5 := Ks.out.cell 5
  have csb_6 := Ks.out.cell 6
  have csb_7 := Ks.out.cell 7
  have csb_8 := Ks.out.cell 8
  simp at csb_0 csb_1 csb_2 csb_3 csb_4 csb_5 csb_6 csb_7 csb_8
  go_wp2_with (go_at_call 17; refine (num_any _ _).mono ?_; rintro e w' ⟨rfl, rfl⟩)
  clear cs_0 cs_1 cs_2 cs_3 cs_4 cs_5 cs_6 cs_7 cs_8 hlts csb_0 csb_1 csb_2 csb_3 csb_4 csb_5 csb_6 csb_7 csb_8
  refine (X3.out _).mono ?_
  rintro e w4 ⟨rfl, hb⟩
  replace Ks := Lib.hid (Ks.out.go hb)
  replace Kt := Lib.hid (Kt.out.go hb)
  replace HB := Lib.hid (HB.out.trans (hb.mono HB.out.size))
  clear hb
  have cs_0 := Ks.out.cell 0
  have cs_1 := Ks.out.cell 1
  have cs_2 := Ks.out.cell 2
  have cs_3 := Ks.out.cell 3
  have cs_4 := Ks.out.cell 4
  have cs_5 := Ks.out.cell 5
  have cs_6 := Ks.out.cell 6
  have cs_7 := Ks.out.cell 7
  have cs_8 := Ks.out.cell 8
  simp at cs_0 cs_1 cs_2 cs_3 cs_4 cs_5 cs_6 cs_7 cs_8
  have ct_0 := Kt.out.cell 0
  have ct_1 := Kt.out.cell 1
  have ct_2 := Kt.out.cell 2
  have ct_3 := Kt.out.cell 3
  have ct_4 := Kt.out.cell 4
  have ct_5 := Kt.out.cell 5
  have ct_6 := Kt.out.cell 6
  have ct_7 := Kt.out.cell 7
  have ct_8 := Kt.out.cell 8
  simp at ct_0 ct_1 ct_2 ct_3 ct_4 ct_5 ct_6 ct_7 ct_8
  go_wp2_with (go_at_call 17; refine (num_any _ _).mono ?_; rintro e w' ⟨rfl, rfl⟩)
  clear cs_0 cs_1 cs_2 cs_3 cs_4 cs_5 cs_6 cs_7 cs_8 ct_0 ct_1 ct_2 ct_3 ct_4 ct_5 ct_6 ct_7 ct_8
  refine (X4.out _ _ _ _ _).mono ?_
  rintro e w5 ⟨rfl, hb⟩
  replace Ks := Lib.hid (Ks.out.go hb)
  replace Kt := Lib.hid (Kt.out.go hb)
  replace HB := Lib.hid (HB.out.trans (hb.mono HB.out.size))
  clear hb
  go_wp2_with (go_at_call 17; refine (num_any _ _).mono ?_; rintro e w' ⟨rfl, rfl⟩)
  go_ret
  exact ⟨rfl, HB.out⟩
set_option maxRecDepth 100000 in
set_option maxHeartbeats 6400000 in
theorem bounds_20 (a0 a1 x : Int) (w : World) (hk : (IntKind.u64.wrap a0).tmod 6 = 2) (hx : a1.tmod 12 = x) (b1 : -12 < x ∧ x < 12) (hf : x < 4) :
    Calls Try.prog 6 #[.int .i64 a0, .int .i64 a1] w fun e w' => e = .returned (.bool true) ∧ Below w.heap.size w w' := by
  have no : ¬ SpOk ⟨2, 2, x, 0, 5, 0, [], 3, 1⟩ := fun q => by
    obtain ⟨q1, q2, q3, q4, _, _, _, _, _, _, q5, q6, _⟩ := q
    simp at q1 q2 q3 q4 q5 q6
    omega
  have hm : maySp ⟨2, 2, x, 0, 5, 0, [], 3, 1⟩ = false := maySp_no _ no
  have h1 := fun w => putsp_no (p := ⟨2, 2, x, 0, 5, 0, [], 3, 1⟩) (fun h => by rw [maySp_of h] at hm; cases hm) none 0 w (SpAt.nil _ _ _ rfl _) (by simp)
  have h3 := fun w => maysp_is hm none 0 w (SpAt.nil _ _ _ rfl _) (by simp)
  simp only [spV, List.length_nil] at h1 h3
  have X1 := Lib.hid h1
  have X3 := Lib.hid h3
  clear h1 h3 hm no
  have HB := Lib.hid (Below.refl w.heap.size w)
  go_enter Try.func6, Try.ntmps6
  go_wp2_with fail
  refine (awake_any _).mono ?_
  rintro e w1 ⟨rfl, hb⟩
  replace HB := Lib.hid (HB.out.trans (hb.mono HB.out.size))
  clear hb
  replace HB := Lib.hid (HB.out.alloc HB.out.size (.cells #[.int .i64 2, .int .i64 2, .int .i64 x, .int .i64 0, .int .i64 5, .int .i64 0, .slice none 0 0, .int .i64 3, .int .i64 1] 24))
  have Ks := Lib.hid (Bk.new w1 24 #[.int .i64 2, .int .i64 2, .int .i64 x, .int .i64 0, .int .i64 5, .int .i64 0, .slice none 0 0, .int .i64 3, .int .i64 1])
  go_wp2_with fail
  refine (X1.out _).mono ?_
  rintro e w2 ⟨rfl, hb⟩
  replace Ks := Lib.hid (Ks.out.go hb)
  replace HB := Lib.hid (HB.out.trans (hb.mono HB.out.size))
  clear hb
  clear hk hx
  have cs_0 := Ks.out.cell 0
  have cs_1 := Ks.out.cell 1
  have cs_2 := Ks.out.cell 2
  have cs_3 := Ks.out.cell 3
  have cs_4 := Ks.out.cell 4
  have cs_5 := Ks.out.cell 5
  have cs_6 := Ks.out.cell 6
  have cs_7 := Ks.out.cell 7
  have cs_8 := Ks.out.cell 8
  simp at cs_0 cs_1 cs_2 cs_3 cs_4 cs_5 cs_6 cs_7 cs_8
  go_wp2_with (go_at_call 17; refine (num_any _ _).mono ?_; rintro e w' ⟨rfl, rfl⟩)
  clear cs_0 cs_1 cs_2 cs_3 cs_4 cs_5 cs_6 cs_7 cs_8
  refine (X3.out _).mono ?_
  rintro e w3 ⟨rfl, hb⟩
  replace Ks := Lib.hid (Ks.out.go hb)
  replace HB := Lib.hid (HB.out.trans (hb.mono HB.out.size))
  clear hb
  go_wp2_with (go_at_call 17; refine (num_any _ _).mono ?_; rintro e w' ⟨rfl, rfl⟩)
  go_ret
  exact ⟨rfl, HB.out⟩
set_option maxRecDepth 100000 in
set_option maxHeartbeats 6400000 in
theorem bounds_21 (a0 a1 x : Int) (w : World) (hk : (IntKind.u64.wrap a0).tmod 6 = 2) (hx : a1.tmod 12 = x) (b1 : -12 < x ∧ x < 12) (hf : 8 < x) :
    Calls Try.prog 6 #[.int .i64 a0, .int .i64 a1] w fun e w' => e = .returned (.bool true) ∧ Below w.heap.size w w' := by
  have no : ¬ SpOk ⟨2, 2, x, 0, 5, 0, [], 3, 1⟩ := fun q => by
    obtain ⟨q1, q2, q3, q4, _, _, _, _, _, _, q5, q6, _⟩ := q
    simp at q1 q2 q3 q4 q5 q6
    omega
  have hm : maySp ⟨2, 2, x, 0, 5, 0, [], 3, 1⟩ = false := maySp_no _ no
  have h1 := fun w => putsp_no (p := ⟨2, 2, x, 0, 5, 0, [], 3, 1⟩) (fun h => by rw [maySp_of h] at hm; cases hm) none 0 w (SpAt.nil _ _ _ rfl _) (by simp)
  have h3 := fun w => maysp_is hm none 0 w (SpAt.nil _ _ _ rfl _) (by simp)
  simp only [spV, List.length_nil] at h1 h3
  have X1 := Lib.hid h1
  have X3 := Lib.hid h3
  clear h1 h3 hm no
  have HB := Lib.hid (Below.refl w.heap.size w)
  go_enter Try.func6, Try.ntmps6
  go_wp2_with fail
  refine (awake_any _).mono ?_
  rintro e w1 ⟨rfl, hb⟩
  replace HB := Lib.hid (HB.out.trans (hb.mono HB.out.size))
  clear hb
  replace HB := Lib.hid (HB.out.alloc HB.out.size (.cells #[.int .i64 2, .int .i64 2, .int .i64 x, .int .i64 0, .int .i64 5, .int .i64 0, .slice none 0 0, .int .i64 3, .int .i64 1] 24))
  have Ks := Lib.hid (Bk.new w1 24 #[.int .i64 2, .int .i64 2, .int .i64 x, .int .i64 0, .int .i64 5, .int .i64 0, .slice none 0 0, .int .i64 3, .int .i64 1])
  go_wp2_with fail
  refine (X1.out _).mono ?_
  rintro e w2 ⟨rfl, hb⟩
  replace Ks := Lib.hid (Ks.out.go hb)
  replace HB := Lib.hid (HB.out.trans (hb.mono HB.out.size))
  clear hb
  clear hk hx
  have cs_0 := Ks.out.cell 0
  have cs_1 := Ks.out.cell 1
  have cs_2 := Ks.out.cell 2
  have cs_3 := Ks.out.cell 3
  have cs_4 := Ks.out.cell 4
  have cs_5 := Ks.out.cell 5
  have cs_6 := Ks.out.cell 6
  have cs_7 := Ks.out.cell 7
  have cs_8 := Ks.out.cell 8
  simp at cs_0 cs_1 cs_2 cs_3 cs_4 cs_5 cs_6 cs_7 cs_8
  go_wp2_with (go_at_call 17; refine (num_any _ _).mono ?_; rintro e w' ⟨rfl, rfl⟩)
  rotate_left
  · exfalso
    have hz : (!decide (x ≤ 8)) = false := by assumption
    simp at hz <;> omega
  clear cs_0 cs_1 cs_2 cs_3 cs_4 cs_5 cs_6 cs_7 cs_8
  refine (X3.out _).mono ?_
  rintro e w3 ⟨rfl, hb⟩
  replace Ks := Lib.hid (Ks.out.go hb)
  replace HB := Lib.hid (HB.out.trans (hb.mono HB.out.size))
  clear hb
  go_wp2_with (go_at_call 17; refine (num_any _ _).mono ?_; rintro e w' ⟨rfl, rfl⟩)
  go_ret
  exact ⟨rfl, HB.out⟩
set_option maxRecDepth 100000 in
set_option maxHeartbeats 6400000 in
theorem bounds_22 (a0 a1 x : Int) (w : World) (hk : (IntKind.u64.wrap a0).tmod 6 = 2) (hx : a1.tmod 12 = x) (b1 : -12 < x ∧ x < 12) (hf : 4 ≤ x ∧ x ≤ 8) :
    Calls Try.prog 6 #[.int .i64 a0, .int .i64 a1] w fun e w' => e = .returned (.bool true) ∧ Below w.heap.size w w' := by
  have ok : SpOk ⟨2, 2, x, 0, 5, 0, [], 3, 1⟩ := by
    refine ⟨?_, ?_, ?_, ?_, ?_, ?_, ?_, ?_, ?_, ?_, ?_, ?_, ?_⟩ <;> simp [cyOk] <;> omega
  have hE : putSpE ⟨2, 2, x, 0, 5, 0, [], 3, 1⟩ = 0 := by unfold putSpE; rw [if_pos ((maySp_iff _).2 ok)]
  have h1 := fun w => putsp_yes hE none 0 w (SpAt.nil _ _ _ rfl _) (by simp)
  have h2 := getsp_yes hE
  have h3 := fun w => maysp_is (maySp_of hE) none 0 w (SpAt.nil _ _ _ rfl _) (by simp)
  have h4 := fun A C c d w => samesps_yes ⟨2, 2, x, 0, 5, 0, [], 3, 1⟩ A C c d w (SpAt.nil _ _ _ rfl _) (SpAt.nil _ _ _ rfl _) (by simp)
  generalize putSpS ⟨2, 2, x, 0, 5, 0, [], 3, 1⟩ = T at h1 h2
  simp only [spV, List.length_nil] at h1 h2 h3 h4
  have X1 := Lib.hid h1
  have X2 := Lib.hid h2
  have X3 := Lib.hid h3
  have X4 := Lib.hid h4
  clear h1 h2 h3 h4 ok hE
  have HB := Lib.hid (Below.refl w.heap.size w)
  go_enter Try.func6, Try.ntmps6
  go_wp2_with fail
  refine (awake_any _).mono ?_
  rintro e w1 ⟨rfl, hb⟩
  replace HB := Lib.hid (HB.out.trans (hb.mono HB.out.size))
  clear hb
  replace HB := Lib.hid (HB.out.alloc HB.out.size (.cells #[.int .i64 2, .int .i64 2, .int .i64 x, .int .i64 0, .int .i64 5, .int .i64 0, .slice none 0 0, .int .i64 3, .int .i64 1] 24))
  have Ks := Lib.hid (Bk.new w1 24 #[.int .i64 2, .int .i64 2, .int .i64 x, .int .i64 0, .int .i64 5, .int .i64 0, .slice none 0 0, .int .i64 3, .int .i64 1])
  go_wp2_with fail
  refine (X1.out _).mono ?_
  rintro e w2 ⟨rfl, hb⟩
  replace Ks := Lib.hid (Ks.out.go hb)
  replace HB := Lib.hid (HB.out.trans (hb.mono HB.out.size))
  clear hb
  clear hk hx
  go_wp2_with (go_at_call 17; refine (num_any _ _).mono ?_; rintro e w' ⟨rfl, rfl⟩)
  refine (X2.out _).mono ?_
  rintro e w3 ⟨A1, c1, rfl, _, _, hb⟩
  replace Ks := Lib.hid (Ks.out.go hb)
  replace HB := Lib.hid (HB.out.trans (hb.mono HB.out.size))
  clear hb
  have cs_0 := Ks.out.cell 0
  have cs_1 := Ks.out.cell 1
  have cs_2 := Ks.out.cell 2
  have cs_3 := Ks.out.cell 3
  have cs_4 := Ks.out.cell 4
  have cs_5 := Ks.out.cell 5
  have cs_6 := Ks.out.cell 6
  have cs_7 := Ks.out.cell 7
  have cs_8 := Ks.out.cell 8
  simp at cs_0 cs_1 cs_2 cs_3 cs_4 cs_5 cs_6 cs_7 cs_8
  have hlts := Ks.out.lt
  replace Ks := Lib.hid (Ks.out.alloc (.cells #[.int .i64 2, .int .i64 2, .int .i64 x, .int .i64 0, .int .i64 5, .int .i64 0, .slice A1 0 c1, .int .i64 3, .int .i64 1] 24))
  replace HB := Lib.hid (HB.out.alloc HB.out.size (.cells #[.int .i64 2, .int .i64 2, .int .i64 x, .int .i64 0, .int .i64 5, .int .i64 0, .slice A1 0 c1, .int .i64 3, .int .i64 1] 24))
  have Kt := Lib.hid (Bk.new w3 24 #[.int .i64 2, .int .i64 2, .int .i64 x, .int .i64 0, .int .i64 5, .int .i64 0, .slice A1 0 c1, .int .i64 3, .int .i64 1])
  have csb_0 := Ks.out.cell 0
  have csb_1 := Ks.out.cell 1
  have csb_2 := Ks.out.cell 2
  have csb_3 := Ks.out.cell 3
  have csb_4 := Ks.out.cell 4
  have csb_5 := Ks.out.cell 5
  have csb_6 := Ks.out.cell 6
  have csb_7 := Ks.out.cell 7
  have csb_8 := Ks.out.cell 8
  simp at csb_0 csb_1 csb_2 csb_3 csb_4 csb_5 csb_6 csb_7 csb_8
  go_wp2_with (go_at_call 17; refine (num_any _ _).mono ?_; rintro e w' ⟨rfl, rfl⟩)
  clear cs_0 cs_1 cs_2 cs_3 cs_4 cs_5 cs_6 cs_7 cs_8 hlts csb_0 csb_1 csb_2 csb_3 csb_4 csb_5 csb_6 csb_7 csb_8
  refine (X3.out _).mono ?_
  rintro e w4 ⟨rfl, hb⟩
  replace Ks := Lib.hid (Ks.out.go hb)
  replace Kt := Lib.hid (Kt.out.go hb)
  replace HB := Lib.hid (HB.out.trans (hb.mono HB.out.size))
  clear hb
  have cs_0 := Ks.out.cell 0
  have cs_1 := Ks.out.cell 1
  have cs_2 := Ks.out.cell 2
  have cs_3 := Ks.out.cell 3
  have cs_4 := Ks.out.cell 4
  have cs_5 := Ks.out.cell 5
  have cs_6 := Ks.out.cell 6
  have cs_7 := Ks.out.cell 7
  have cs_8 := Ks.out.cell 8
  simp at cs_0 cs_1 cs_2 cs_3 cs_4 cs_5 cs_6 cs_7 cs_8
  have ct_0 := Kt.out.cell 0
  have ct_1 := Kt.out.cell 1
  have ct_2 := Kt.out.cell 2
  have ct_3 := Kt.out.cell 3
  have ct_4 := Kt.out.cell 4
  have ct_5 := Kt.out.cell 5
  have ct_6 := Kt.out.cell 6
  have ct_7 := Kt.out.cell 7
  have ct_8 := Kt.out.cell 8
  simp at ct_0 ct_1 ct_2 ct_3 ct_4 ct_5 ct_6 ct_7 ct_8
  go_wp2_with (go_at_call 17; refine (num_any _ _).mono ?_; rintro e w' ⟨rfl, rfl⟩)
  clear cs_0 cs_1 cs_2 cs_3 cs_4 cs_5 cs_6 cs_7 cs_8 ct_0 ct_1 ct_2 ct_3 ct_4 ct_5 ct_6 ct_7 ct_8
  refine (X4.out _ _ _ _ _).mono ?_
  rintro e w5 ⟨rfl, hb⟩
  replace Ks := Lib.hid (Ks.out.go hb)
  replace Kt := Lib.hid (Kt.out.go hb)
  replace HB := Lib.hid (HB.out.trans (hb.mono HB.out.size))
  clear hb
  go_wp2_with (go_at_call 17; refine (num_any _ _).mono ?_; rintro e w' ⟨rfl, rfl⟩)
  go_ret
  exact ⟨rfl, HB.out⟩
set_option maxRecDepth 100000 in
set_option maxHeartbeats 6400000 in
theorem bounds_30 (a0 a1 x : Int) (w : World) (hk : (IntKind.u64.wrap a0).tmod 6 = 3) (hx : a1.tmod 12 = x) (b1 : -12 < x ∧ x < 12) (hf : x < 4) :
    Calls Try.prog 6 #[.int .i64 a0, .int .i64 a1] w fun e w' => e = .returned (.bool true) ∧ Below w.heap.size w w' := by
  have no : ¬ SpOk ⟨2, 2, 5, 0, x, 0, [], 3, 1⟩ := fun q => by
    obtain ⟨q1, q2, q3, q4, _, _, _, _, _, _, q5, q6, _⟩ := q
    simp at q1 q2 q3 q4 q5 q6
    omega
  have hm : maySp ⟨2, 2, 5, 0, x, 0, [], 3, 1⟩ = false := maySp_no _ no
  have h1 := fun w => putsp_no (p := ⟨2, 2, 5, 0, x, 0, [], 3, 1⟩) (fun h => by rw [maySp_of h] at hm; cases hm) none 0 w (SpAt.nil _ _ _ rfl _) (by simp)
  have h3 := fun w => maysp_is hm none 0 w (SpAt.nil _ _ _ rfl _) (by simp)
  simp only [spV, List.length_nil] at h1 h3
  have X1 := Lib.hid h1
  have X3 := Lib.hid h3
  clear h1 h3 hm no
  have HB := Lib.hid (Below.refl w.heap.size w)
  go_enter Try.func6, Try.ntmps6
  go_wp2_with fail
  refine (awake_any _).mono ?_
  rintro e w1 ⟨rfl, hb⟩
  replace HB := Lib.hid (HB.out.trans (hb.mono HB.out.size))
  clear hb
  replace HB := Lib.hid (HB.out.alloc HB.out.size (.cells #[.int .i64 2, .int .i64 2, .int .i64 5, .int .i64 0, .int .i64 x, .int .i64 0, .slice none 0 0, .int .i64 3, .int .i64 1] 24))
  have Ks := Lib.hid (Bk.new w1 24 #[.int .i64 2, .int .i64 2, .int .i64 5, .int .i64 0, .int .i64 x, .int .i64 0, .slice none 0 0, .int .i64 3, .int .i64 1])
  go_wp2_with fail
  refine (X1.out _).mono ?_
  rintro e w2 ⟨rfl, hb⟩
  replace Ks := Lib.hid (Ks.out.go hb)
  replace HB := Lib.hid (HB.out.trans (hb.mono HB.out.size))
  clear hb
  clear hk hx
  have cs_0 := Ks.out.cell 0
  have cs_1 := Ks.out.cell 1
  have cs_2 := Ks.out.cell 2
  have cs_3 := Ks.out.cell 3
  have cs_4 := Ks.out.cell 4
  have cs_5 := Ks.out.cell 5
  have cs_6 := Ks.out.cell 6
  have cs_7 := Ks.out.cell 7
  have cs_8 := Ks.out.cell 8
  simp at cs_0 cs_1 cs_2 cs_3 cs_4 cs_5 cs_6 cs_7 cs_8
  go_wp2_with (go_at_call 17; refine (num_any _ _).mono ?_; rintro e w' ⟨rfl, rfl⟩)
  clear cs_0 cs_1 cs_2 cs_3 cs_4 cs_5 cs_6 cs_7 cs_8
  refine (X3.out _).mono ?_
  rintro e w3 ⟨rfl, hb⟩
  replace Ks := Lib.hid (Ks.out.go hb)
  replace HB := Lib.hid (HB.out.trans (hb.mono HB.out.size))
  clear hb
  go_wp2_with (go_at_call 17; refine (num_any _ _).mono ?_; rintro e w' ⟨rfl, rfl⟩)
  go_ret
  exact ⟨rfl, HB.out⟩
set_option maxRecDepth 100000 in
set_option maxHeartbeats 6400000 in
theorem bounds_31 (a0 a1 x : Int) (w : World) (hk : (IntKind.u64.wrap a0).tmod 6 = 3) (hx : a1.tmod 12 = x) (b1 : -12 < x ∧ x < 12) (hf : 8 < x) :
    Calls Try.prog 6 #[.int .i64 a0, .int .i64 a1] w fun e w' => e = .returned (.bool true) ∧ Below w.heap.size w w' := by
  have no : ¬ SpOk ⟨2, 2, 5, 0, x, 0, [], 3, 1⟩ := fun q => by
    obtain ⟨q1, q2, q3, q4, _, _, _, _, _, _, q5, q6, _⟩ := q
    simp at q1 q2 q3 q4 q5 q6
    omega
  have hm : maySp ⟨2, 2, 5, 0, x, 0, [], 3, 1⟩ = false := maySp_no _ no
  have h1 := fun w => putsp_no (p := ⟨2, 2, 5, 0, x, 0, [], 3, 1⟩) (fun h => by rw [maySp_of h] at hm; cases hm) none 0 w (SpAt.nil _ _ _ rfl _) (by simp)
  have h3 := fun w => maysp_is hm none 0 w (SpAt.nil _ _ _ rfl _) (by simp)
  simp only [spV, List.length_nil] at h1 h3
  have X1 := Lib.hid h1
  have X3 := Lib.hid h3
  clear h1 h3 hm no
  have HB := Lib.hid (Below.refl w.heap.size w)
  go_enter Try.func6, Try.ntmps6
  go_wp2_with fail
  refine (awake_any _).mono ?_
  rintro e w1 ⟨rfl, hb⟩
  replace HB := Lib.hid (HB.out.trans (hb.mono HB.out.size))
  clear hb
  replace HB := Lib.hid (HB.out.alloc HB.out.size (.cells #[.int .i64 2, .int .i64 2, .int .i64 5, .int .i64 0, .int .i64 x, .int .i64 0, .slice none 0 0, .int .i64 3, .int .i64 1] 24))
  have Ks := Lib.hid (Bk.new w1 24 #[.int .i64 2, .int .i64 2, .int .i64 5, .int .i64 0, .int .i64 x, .int .i64 0, .slice none 0 0, .int .i64 3, .int .i64 1])
  go_wp2_with fail
  refine (X1.out _).mono ?_
  rintro e w2 ⟨rfl, hb⟩
  replace Ks := Lib.hid (Ks.out.go hb)
  replace HB := Lib.hid (HB.out.trans (hb.mono HB.out.size))
  clear hb
  clear hk hx
  have cs_0 := Ks.out.cell 0
  have cs_1 := Ks.out.cell 1
  have cs_2 := Ks.out.cell 2
  have cs_3 := Ks.out.cell 3
  have cs_4 := Ks.out.cell 4
  have cs_5 := Ks.out.cell 5
  have cs_6 := Ks.out.cell 6
  have cs_7 := Ks.out.cell 7
  have cs_8 := Ks.out.cell 8
  simp at cs_0 cs_1 cs_2 cs_3 cs_4 cs_5 cs_6 cs_7 cs_8
  go_wp2_with (go_at_call 17; refine (num_any _ _).mono ?_; rintro e w' ⟨rfl, rfl⟩)
  rotate_left
  · exfalso
    have hz : (!decide (x ≤ 8)) = false := by assumption
    simp at hz <;> omega
  clear cs_0 cs_1 cs_2 cs_3 cs_4 cs_5 cs_6 cs_7 cs_8
  refine (X3.out _).mono ?_
  rintro e w3 ⟨rfl, hb⟩
  replace Ks := Lib.hid (Ks.out.go hb)
  replace HB := Lib.hid (HB.out.trans (hb.mono HB.out.size))
  clear hb
  go_wp2_with (go_at_call 17; refine (num_any _ _).mono ?_; rintro e w' ⟨rfl, rfl⟩)
  go_ret
  exact ⟨rfl, HB.out⟩
set_option maxRecDepth 100000 in
set_option maxHeartbeats 6400000 in
theorem bounds_32 (a0 a1 x : Int) (w : World) (hk : (IntKind.u64.wrap a0).tmod 6 = 3) (hx : a1.tmod 12 = x) (b1 : -12 < x ∧ x < 12) (hf : 4 ≤ x ∧ x ≤ 8) :
    Calls Try.prog 6 #[.int .i64 a0, .int .i64 a1] w fun e w' => e = .returned (.bool true) ∧ Below w.heap.size w w' := by
  have ok : SpOk ⟨2, 2, 5, 0, x, 0, [], 3, 1⟩ := by
    refine ⟨?_, ?_, ?_, ?_, ?_, ?_, ?_, ?_, ?_, ?_, ?_, ?_, ?_⟩ <;> simp [cyOk] <;> omega
  have hE : putSpE ⟨2, 2, 5, 0, x, 0, [], 3, 1⟩ = 0 := by unfold putSpE; rw [if_pos ((maySp_iff _).2 ok)]
  have h1 := fun w => putsp_yes hE none 0 w (SpAt.nil _ _ _ rfl _) (by simp)
  have h2 := getsp_yes hE
  have h3 := fun w => maysp_is (maySp_of hE) none 0 w (SpAt.nil _ _ _ rfl _) (by simp)
  have h4 := fun A C c d w => samesps_yes ⟨2, 2, 5, 0, x, 0, [], 3, 1⟩ A C c d w (SpAt.nil _ _ _ rfl _) (SpAt.nil _ _ _ rfl _) (by simp)
  generalize putSpS ⟨2, 2, 5, 0, x, 0, [], 3, 1⟩ = T at h1 h2
  simp only [spV, List.length_nil] at h1 h2 h3 h4
  have X1 := Lib.hid h1
  have X2 := Lib.hid h2
  have X3 := Lib.hid h3
  have X4 := Lib.hid h4
  clear h1 h2 h3 h4 ok hE
  have HB := Lib.hid (Below.refl w.heap.size w)
  go_enter Try.func6, Try.ntmps6
  go_wp2_with fail
  refine (awake_any _).mono ?_
  rintro e w1 ⟨rfl, hb⟩
  replace HB := Lib.hid (HB.out.trans (hb.mono HB.out.size))
  clear hb
  replace HB := Lib.hid (HB.out.alloc HB.out.size (.cells #[.int .i64 2, .int .i64 2, .int .i64 5, .int .i64 0, .int .i64 x, .int .i64 0, .slice none 0 0, .int .i64 3, .int .i64 1] 24))
  have Ks := Lib.hid (Bk.new w1 24 #[.int .i64 2, .int .i64 2, .int .i64 5, .int .i64 0, .int .i64 x, .int .i64 0, .slice none 0 0, .int .i64 3, .int .i64 1])
  go_wp2_with fail
  refine (X1.out _).mono ?_
  rintro e w2 ⟨rfl, hb⟩
  replace Ks := Lib.hid (Ks.out.go hb)
  replace HB := Lib.hid (HB.out.trans (hb.mono HB.out.size))
  clear hb
  clear hk hx
  go_wp2_with (go_at_call 17; refine (num_any _ _).mono ?_; rintro e w' ⟨rfl, rfl⟩)
  refine (X2.out _).mono ?_
  rintro e w3 ⟨A1, c1, rfl, _, _, hb⟩
  replace Ks := Lib.hid (Ks.out.go hb)
  replace HB := Lib.hid (HB.out.trans (hb.mono HB.out.size))
  clear hb
  have cs_0 := Ks.out.cell 0
  have cs_1 := Ks.out.cell 1
  have cs_2 := Ks.out.cell 2
  have cs_3 := Ks.out.cell 3
  have cs_4 := Ks.out.cell 4
  have cs_5 := Ks.out.cell 5
  have cs_6 := Ks.out.cell 6
  have cs_7 := Ks.out.cell 7
  have cs_8 := Ks.out.cell 8
  simp at cs_0 cs_1 cs_2 cs_3 cs_4 cs_5 cs_6 cs_7 cs_8
  have hlts := Ks.out.lt
  replace Ks := Lib.hid (Ks.out.alloc (.cells #[.int .i64 2, .int .i64 2, .int .i64 5, .int .i64 0, .int .i64 x, .int .i64 0, .slice A1 0 c1, .int .i64 3, .int .i64 1] 24))
  replace HB := Lib.hid (HB.out.alloc HB.out.size (.cells #[.int .i64 2, .int .i64 2, .int .i64 5, .int .i64 0, .int .i64 x, .int .i64 0, .slice A1 0 c1, .int .i64 3, .int .i64 1] 24))
  have Kt := Lib.hid (Bk.new w3 24 #[.int .i64 2, .int .i64 2, .int .i64 5, .int .i64 0, .int .i64 x, .int .i64 0, .slice A1 0 c1, .int .i64 3, .int .i64 1])
  have csb_0 := Ks.out.cell 0
  have csb_1 := Ks.out.cell 1
  have csb_2 := Ks.out.cell 2
  have csb_3 := Ks.out.cell 3
  have csb_4 := Ks.out.cell 4
  have csb_5 := Ks.out.cell 5
  have csb_6 := Ks.out.cell 6
  have csb_7 := Ks.out.cell 7
  have csb_8 := Ks.out.cell 8
  simp at csb_0 csb_1 csb_2 csb_3 csb_4 csb_5 csb_6 csb_7 csb_8
  go_wp2_with (go_at_call 17; refine (num_any _ _).mono ?_; rintro e w' ⟨rfl, rfl⟩)
  clear cs_0 cs_1 cs_2 cs_3 cs_4 cs_5 cs_6 cs_7 cs_8 hlts csb_0 csb_1 csb_2 csb_3 csb_4 csb_5 csb_6 csb_7 csb_8
  refine (X3.out _).mono ?_
  rintro e w4 ⟨rfl, hb⟩
  replace Ks := Lib.hid (Ks.out.go hb)
  replace Kt := Lib.hid (Kt.out.go hb)
  replace HB := Lib.hid (HB.out.trans (hb.mono HB.out.size))
  clear hb
  have cs_0 := Ks.out.cell 0
  have cs_1 := Ks.out.cell 1
  have cs_2 := Ks.out.cell 2
  have cs_3 := Ks.out.cell 3
  have cs_4 := Ks.out.cell 4
  have cs_5 := Ks.out.cell 5
  have cs_6 := Ks.out.cell 6
  have cs_7 := Ks.out.cell 7
  have cs_8 := Ks.out.cell 8
  simp at cs_0 cs_1 cs_2 cs_3 cs_4 cs_5 cs_6 cs_7 cs_8
  have ct_0 := Kt.out.cell 0
  have ct_1 := Kt.out.cell 1
  have ct_2 := Kt.out.cell 2
  have ct_3 := Kt.out.cell 3
  have ct_4 := Kt.out.cell 4
  have ct_5 := Kt.out.cell 5
  have ct_6 := Kt.out.cell 6
  have ct_7 := Kt.out.cell 7
  have ct_8 := Kt.out.cell 8
  simp at ct_0 ct_1 ct_2 ct_3 ct_4 ct_5 ct_6 ct_7 ct_8
  go_wp2_with (go_at_call 17; refine (num_any _ _).mono ?_; rintro e w' ⟨rfl, rfl⟩)
  clear cs_0 cs_1 cs_2 cs_3 cs_4 cs_5 cs_6 cs_7 cs_8 ct_0 ct_1 ct_2 ct_3 ct_4 ct_5 ct_6 ct_7 ct_8
  refine (X4.out _ _ _ _ _).mono ?_
  rintro e w5 ⟨rfl, hb⟩
  replace Ks := Lib.hid (Ks.out.go hb)
  replace Kt := Lib.hid (Kt.out.go hb)
  replace HB := Lib.hid (HB.out.trans (hb.mono HB.out.size))
  clear hb
  go_wp2_with (go_at_call 17; refine (num_any _ _).mono ?_; rintro e w' ⟨rfl, rfl⟩)
  go_ret
  exact ⟨rfl, HB.out⟩
set_option maxRecDepth 100000 in
set_option maxHeartbeats 6400000 in
theorem bounds_40 (a0 a1 x : Int) (w : World) (hk : (IntKind.u64.wrap a0).tmod 6 = 4) (hx : a1.tmod 12 = x) (b1 : -12 < x ∧ x < 12) (hf : x < 1) :
    Calls Try.prog 6 #[.int .i64 a0, .int .i64 a1] w fun e w' => e = .returned (.bool true) ∧ Below w.heap.size w w' := by
  have no : ¬ SpOk ⟨2, 2, 5, 0, 5, 0, [], x, 1⟩ := fun q => by
    obtain ⟨q1, q2, q3, q4, _, _, _, _, _, _, q5, q6, _⟩ := q
    simp at q1 q2 q3 q4 q5 q6
    omega
  have hm : maySp ⟨2, 2, 5, 0, 5, 0, [], x, 1⟩ = false := maySp_no _ no
  have h1 := fun w => putsp_no (p := ⟨2, 2, 5, 0, 5, 0, [], x, 1⟩) (fun h => by rw [maySp_of h] at hm; cases hm) none 0 w (SpAt.nil _ _ _ rfl _) (by simp)
  have h3 := fun w => maysp_is hm none 0 w (SpAt.nil _ _ _ rfl _) (by simp)
  simp only [spV, List.length_nil] at h1 h3
  have X1 := Lib.hid h1
  have X3 := Lib.hid h3
  clear h1 h3 hm no
  have HB := Lib.hid (Below.refl w.heap.size w)
  go_enter Try.func6, Try.ntmps6
  go_wp2_with fail
  refine (awake_any _).mono ?_
  rintro e w1 ⟨rfl, hb⟩
  replace HB := Lib.hid (HB.out.trans (hb.mono HB.out.size))
  clear hb
  replace HB := Lib.hid (HB.out.alloc HB.out.size (.cells #[.int .i64 2, .int .i64 2, .int .i64 5, .int .i64 0, .int .i64 5, .int .i64 0, .slice none 0 0, .int .i64 x, .int .i64 1] 24))
  have Ks := Lib.hid (Bk.new w1 24 #[.int .i64 2, .int .i64 2, .int .i64 5, .int .i64 0, .int .i64 5, .int .i64 0, .slice none 0 0, .int .i64 x, .int .i64 1])
  go_wp2_with fail
  refine (X1.out _).mono ?_
  rintro e w2 ⟨rfl, hb⟩
  replace Ks := Lib.hid (Ks.out.go hb)
  replace HB := Lib.hid (HB.out.trans (hb.mono HB.out.size))
  clear hb
  clear hk hx
  have cs_0 := Ks.out.cell 0
  have cs_1 := Ks.out.cell 1
  have cs_2 := Ks.out.cell 2
  have cs_3 := Ks.out.cell 3
  have cs_4 := Ks.out.cell 4
  have cs_5 := Ks.out.cell 5
  have cs_6 := Ks.out.cell 6
  have cs_7 := Ks.out.cell 7
  have cs_8 := Ks.out.cell 8
  simp at cs_0 cs_1 cs_2 cs_3 cs_4 cs_5 cs_6 cs_7 cs_8
  go_wp2_with (go_at_call 17; refine (num_any _ _).mono ?_; rintro e w' ⟨rfl, rfl⟩)
  clear cs_0 cs_1 cs_2 cs_3 cs_4 cs_5 cs_6 cs_7 cs_8
  refine (X3.out _).mono ?_
  rintro e w3 ⟨rfl, hb⟩
  replace Ks := Lib.hid (Ks.out.go hb)
  replace HB := Lib.hid (HB.out.trans (hb.mono HB.out.size))
  clear hb
  go_wp2_with (go_at_call 17; refine (num_any _ _).mono ?_; rintro e w' ⟨rfl, rfl⟩)
  go_ret
  exact ⟨rfl, HB.out⟩
set_option maxRecDepth 100000 in
set_option maxHeartbeats 6400000 in
theorem bounds_41 (a0 a1 x : Int) (w : World) (hk : (IntKind.u64.wrap a0).tmod 6 = 4) (hx : a1.tmod 12 = x) (b1 : -12 < x ∧ x < 12) (hf : 8 < x) :
    Calls Try.prog 6 #[.int .i64 a0, .int .i64 a1] w fun e w' => e = .returned (.bool true) ∧ Below w.heap.size w w' := by
  have no : ¬ SpOk ⟨2, 2, 5, 0, 5, 0, [], x, 1⟩ := fun q => by
    obtain ⟨q1, q2, q3, q4, _, _, _, _, _, _, q5, q6, _⟩ := q
    simp at q1 q2 q3 q4 q5 q6
    omega
  have hm : maySp ⟨2, 2, 5, 0, 5, 0, [], x, 1⟩ = false := maySp_no _ no
  have h1 := fun w => putsp_no (p := ⟨2, 2, 5, 0, 5, 0, [], x, 1⟩) (fun h => by rw [maySp_of h] at hm; cases hm) none 0 w (SpAt.nil _ _ _ rfl _) (by simp)
  have h3 := fun w => maysp_is hm none 0 w (SpAt.nil _ _ _ rfl _) (by simp)
  simp only [spV, List.length_nil] at h1 h3
  have X1 := Lib.hid h1
  have X3 := Lib.hid h3
  clear h1 h3 hm no
  have HB := Lib.hid (Below.refl w.heap.size w)
  go_enter Try.func6, Try.ntmps6
  go_wp2_with fail
  refine (awake_any _).mono ?_
  rintro e w1 ⟨rfl, hb⟩
  replace HB := Lib.hid (HB.out.trans (hb.mono HB.out.size))
  clear hb
  replace HB := Lib.hid (HB.out.alloc HB.out.size (.cells #[.int .i64 2, .int .i64 2, .int .i64 5, .int .i64 0, .int .i64 5, .int .i64 0, .slice none 0 0, .int .i64 x, .int .i64 1] 24))
  have Ks := Lib.hid (Bk.new w1 24 #[.int .i64 2, .int .i64 2, .int .i64 5, .int .i64 0, .int .i64 5, .int .i64 0, .slice none 0 0, .int .i64 x, .int .i64 1])
  go_wp2_with fail
  refine (X1.out _).mono ?_
  rintro e w2 ⟨rfl, hb⟩
  replace Ks := Lib.hid (Ks.out.go hb)
  replace HB := Lib.hid (HB.out.trans (hb.mono HB.out.size))
  clear hb
  clear hk hx
  have cs_0 := Ks.out.cell 0
  have cs_1 := Ks.out.cell 1
  have cs_2 := Ks.out.cell 2
  have cs_3 := Ks.out.cell 3
  have cs_4 := Ks.out.cell 4
  have cs_5 := Ks.out.cell 5
  have cs_6 := Ks.out.cell 6
  have cs_7 := Ks.out.cell 7
  have cs_8 := Ks.out.cell 8
  simp at cs_0 cs_1 cs_2 cs_3 cs_4 cs_5 cs_6 cs_7 cs_8
  go_wp2_with (go_at_call 17; refine (num_any _ _).mono ?_; rintro e w' ⟨rfl, rfl⟩)
  rotate_left
  · exfalso
    have hz : (!decide (x ≤ 8)) = false := by assumption
    simp at hz <;> omega
  clear cs_0 cs_1 cs_2 cs_3 cs_4 cs_5 cs_6 cs_7 cs_8
  refine (X3.out _).mono ?_
  rintro e w3 ⟨rfl, hb⟩
  replace Ks := Lib.hid (Ks.out.go hb)
  replace HB := Lib.hid (HB.out.trans (hb.mono HB.out.size))
  clear hb
  go_wp2_with (go_at_call 17; refine (num_any _ _).mono ?_; rintro e w' ⟨rfl, rfl⟩)
  go_ret
  exact ⟨rfl, HB.out⟩
set_option maxRecDepth 100000 in
set_option maxHeartbeats 6400000 in
theorem bounds_42 (a0 a1 x : Int) (w : World) (hk : (IntKind.u64.wrap a0).tmod 6 = 4) (hx : a1.tmod 12 = x) (b1 : -12 < x ∧ x < 12) (hf : 1 ≤ x ∧ x ≤ 8) :
    Calls Try.prog 6 #[.int .i64 a0, .int .i64 a1] w fun e w' => e = .returned (.bool true) ∧ Below w.heap.size w w' := by
  have ok : SpOk ⟨2, 2, 5, 0, 5, 0, [], x, 1⟩ := by
    refine ⟨?_, ?_, ?_, ?_, ?_, ?_, ?_, ?_, ?_, ?_, ?_, ?_, ?_⟩ <;> simp [cyOk] <;> omega
  have hE : putSpE ⟨2, 2, 5, 0, 5, 0, [], x, 1⟩ = 0 := by unfold putSpE; rw [if_pos ((maySp_iff _).2 ok)]
  have h1 := fun w => putsp_yes hE none 0 w (SpAt.nil _ _ _ rfl _) (by simp)
  have h2 := getsp_yes hE
  have h3 := fun w => maysp_is (maySp_of hE) none 0 w (SpAt.nil _ _ _ rfl _) (by simp)
  have h4 := fun A C c d w => samesps_yes ⟨2, 2, 5, 0, 5, 0, [], x, 1⟩ A C c d w (SpAt.nil _ _ _ rfl _) (SpAt.nil _ _ _ rfl _) (by simp)
  generalize putSpS ⟨2, 2, 5, 0, 5, 0, [], x, 1⟩ = T at h1 h2
  simp only [spV, List.length_nil] at h1 h2 h3 h4
  have X1 := Lib.hid h1
  have X2 := Lib.hid h2
  have X3 := Lib.hid h3
  have X4 := Lib.hid h4
  clear h1 h2 h3 h4 ok hE
  have HB := Lib.hid (Below.refl w.heap.size w)
  go_enter Try.func6, Try.ntmps6
  go_wp2_with fail
  refine (awake_any _).mono ?_
  rintro e w1 ⟨rfl, hb⟩
  replace HB := Lib.hid (HB.out.trans (hb.mono HB.out.size))
  clear hb
  replace HB := Lib.hid (HB.out.alloc HB.out.size (.cells #[.int .i64 2, .int .i64 2, .int .i64 5, .int .i64 0, .int .i64 5, .int .i64 0, .slice none 0 0, .int .i64 x, .int .i64 1] 24))
  have Ks := Lib.hid (Bk.new w1 24 #[.int .i64 2, .int .i64 2, .int .i64 5, .int .i64 0, .int .i64 5, .int .i64 0, .slice none 0 0, .int .i64 x, .int .i64 1])
  go_wp2_with fail
  refine (X1.out _).mono ?_
  rintro e w2 ⟨rfl, hb⟩
  replace Ks := Lib.hid (Ks.out.go hb)
  replace HB := Lib.hid (HB.out.trans (hb.mono HB.out.size))
  clear hb
  clear hk hx
  go_wp2_with (go_at_call 17; refine (num_any _ _).mono ?_; rintro e w' ⟨rfl, rfl⟩)
  refine (X2.out _).mono ?_
  rintro e w3 ⟨A1, c1, rfl, _, _, hb⟩
  replace Ks := Lib.hid (Ks.out.go hb)
  replace HB := Lib.hid (HB.out.trans (hb.mono HB.out.size))
  clear hb
  have cs_0 := Ks.out.cell 0
  have cs_1 := Ks.out.cell 1
  have cs_2 := Ks.out.cell 2
  have cs_3 := Ks.out.cell 3
  have cs_4 := Ks.out.cell 4
  have cs_5 := Ks.out.cell 5
  have cs_6 := Ks.out.cell 6
  have cs_7 := Ks.out.cell 7
  have cs_8 := Ks.out.cell 8
  simp at cs_0 cs_1 cs_2 cs_3 cs_4 cs_5 cs_6 cs_7 cs_8
  have hlts := Ks.out.lt
  replace Ks := Lib.hid (Ks.out.alloc (.cells #[.int .i64 2, .int .i64 2, .int .i64 5, .int .i64 0, .int .i64 5, .int .i64 0, .slice A1 0 c1, .int .i64 x, .int .i64 1] 24))
  replace HB := Lib.hid (HB.out.alloc HB.out.size (.cells #[.int .i64 2, .int .i64 2, .int .i64 5, .int .i64 0, .int .i64 5, .int .i64 0, .slice A1 0 c1, .int .i64 x, .int .i64 1] 24))
  have Kt := Lib.hid (Bk.new w3 24 #[.int .i64 2, .int .i64 2, .int .i64 5, .int .i64 0, .int .i64 5, .int .i64 0, .slice A1 0 c1, .int .i64 x, .int .i64 1])
  have csb_0 := Ks.out.cell 0
  have csb_1 := Ks.out.cell 1
  have csb_2 := Ks.out.cell 2
  have csb_3 := Ks.out.cell 3
  have csb_4 := Ks.out.cell 4
  have csb_5 := Ks.out.cell 5
  have csb_6 := Ks.out.cell 6
  have csb_7 := Ks.out.cell 7
  have csb_8 := Ks.out.cell 8
  simp at csb_0 csb_1 csb_2 csb_3 csb_4 csb_5 csb_6 csb_7 csb_8
  go_wp2_with (go_at_call 17; refine (num_any _ _).mono ?_; rintro e w' ⟨rfl, rfl⟩)
  clear cs_0 cs_1 cs_2 cs_3 cs_4 cs_5 cs_6 cs_7 cs_8 hlts csb_0 csb_1 csb_2 csb_3 csb_4 csb_5 csb_6 csb_7 csb_8
  refine (X3.out _).mono ?_
  rintro e w4 ⟨rfl, hb⟩
  replace Ks := Lib.hid (Ks.out.go hb)
  replace Kt := Lib.hid (Kt.out.go hb)
  replace HB := Lib.hid (HB.out.trans (hb.mono HB.out.size))
  clear hb
  have cs_0 := Ks.out.cell 0
  have cs_1 := Ks.out.cell 1
  have cs_2 := Ks.out.cell 2
  have cs_3 := Ks.out.cell 3
  have cs_4 := Ks.out.cell 4
  have cs_5 := Ks.out.cell 5
  have cs_6 := Ks.out.cell 6
  have cs_7 := Ks.out.cell 7
  have cs_8 := Ks.out.cell 8
  simp at cs_0 cs_1 cs_2 cs_3 cs_4 cs_5 cs_6 cs_7 cs_8
  have ct_0 := Kt.out.cell 0
  have ct_1 := Kt.out.cell 1
  have ct_2 := Kt.out.cell 2
  have ct_3 := Kt.out.cell 3
  have ct_4 := Kt.out.cell 4
  have ct_5 := Kt.out.cell 5
  have ct_6 := Kt.out.cell 6
  have ct_7 := Kt.out.cell 7
  have ct_8 := Kt.out.cell 8
  simp at ct_0 ct_1 ct_2 ct_3 ct_4 ct_5 ct_6 ct_7 ct_8
  go_wp2_with (go_at_call 17; refine (num_any _ _).mono ?_; rintro e w' ⟨rfl, rfl⟩)
  clear cs_0 cs_1 cs_2 cs_3 cs_4 cs_5 cs_6 cs_7 cs_8 ct_0 ct_1 ct_2 ct_3 ct_4 ct_5 ct_6 ct_7 ct_8
  refine (X4.out _ _ _ _ _).mono ?_
  rintro e w5 ⟨rfl, hb⟩
  replace Ks := Lib.hid (Ks.out.go hb)
  replace Kt := Lib.hid (Kt.out.go hb)
  replace HB := Lib.hid (HB.out.trans (hb.mono HB.out.size))
  clear hb
  go_wp2_with (go_at_call 17; refine (num_any _ _).mono ?_; rintro e w' ⟨rfl, rfl⟩)
  go_ret
  exact ⟨rfl, HB.out⟩
set_option maxRecDepth 100000 in
set_option maxHeartbeats 6400000 in
theorem bounds_50 (a0 a1 x : Int) (w : World) (hk : (IntKind.u64.wrap a0).tmod 6 = 5) (hx : a1.tmod 12 = x) (b1 : -12 < x ∧ x < 12) (hf : x < 0) :
    Calls Try.prog 6 #[.int .i64 a0, .int .i64 a1] w fun e w' => e = .returned (.bool true) ∧ Below w.heap.size w w' := by
  have no : ¬ SpOk ⟨2, 2, 5, 0, 5, 0, [], 3, x⟩ := fun q => by
    obtain ⟨q1, q2, q3, q4, _, _, _, _, _, _, q5, q6, _⟩ := q
    simp at q1 q2 q3 q4 q5 q6
    omega
  have hm : maySp ⟨2, 2, 5, 0, 5, 0, [], 3, x⟩ = false := maySp_no _ no
  have h1 := fun w => putsp_no (p := ⟨2, 2, 5, 0, 5, 0, [], 3, x⟩) (fun h => by rw [maySp_of h] at hm; cases hm) none 0 w (SpAt.nil _ _ _ rfl _) (by simp)
  have h3 := fun w => maysp_is hm none 0 w (SpAt.nil _ _ _ rfl _) (by simp)
  simp only [spV, List.length_nil] at h1 h3
  have X1 := Lib.hid h1
  have X3 := Lib.hid h3
  clear h1 h3 hm no
  have HB := Lib.hid (Below.refl w.heap.size w)
  go_enter Try.func6, Try.ntmps6
  go_wp2_with fail
  refine (awake_any _).mono ?_
  rintro e w1 ⟨rfl, hb⟩
  replace HB := Lib.hid (HB.out.trans (hb.mono HB.out.size))
  clear hb
  replace HB := Lib.hid (HB.out.alloc HB.out.size (.cells #[.int .i64 2, .int .i64 2, .int .i64 5, .int .i64 0, .int .i64 5, .int .i64 0, .slice none 0 0, .int .i64 3, .int .i64 x] 24))
  have Ks := Lib.hid (Bk.new w1 24 #[.int .i64 2, .int .i64 2, .int .i64 5, .int .i64 0, .int .i64 5, .int .i64 0, .slice none 0 0, .int .i64 3, .int .i64 x])
  go_wp2_with fail
  refine (X1.out _).mono ?_
  rintro e w2 ⟨rfl, hb⟩
  replace Ks := Lib.hid (Ks.out.go hb)
  replace HB := Lib.hid (HB.out.trans (hb.mono HB.out.size))
  clear hb
  clear hk hx
  have cs_0 := Ks.out.cell 0
  have cs_1 := Ks.out.cell 1
  have cs_2 := Ks.out.cell 2
  have cs_3 := Ks.out.cell 3
  have cs_4 := Ks.out.cell 4
  have cs_5 := Ks.out.cell 5
  have cs_6 := Ks.out.cell 6
  have cs_7 := Ks.out.cell 7
  have cs_8 := Ks.out.cell 8
  simp at cs_0 cs_1 cs_2 cs_3 cs_4 cs_5 cs_6 cs_7 cs_8
  go_wp2_with (go_at_call 17; refine (num_any _ _).mono ?_; rintro e w' ⟨rfl, rfl⟩)
  clear cs_0 cs_1 cs_2 cs_3 cs_4 cs_5 cs_6 cs_7 cs_8
  refine (X3.out _).mono ?_
  rintro e w3 ⟨rfl, hb⟩
  replace Ks := Lib.hid (Ks.out.go hb)
  replace HB := Lib.hid (HB.out.trans (hb.mono HB.out.size))
  clear hb
  go_wp2_with (go_at_call 17; refine (num_any _ _).mono ?_; rintro e w' ⟨rfl, rfl⟩)
  go_ret
  exact ⟨rfl, HB.out⟩
set_option maxRecDepth 100000 in
set_option maxHeartbeats 6400000 in
theorem bounds_51 (a0 a1 x : Int) (w : World) (hk : (IntKind.u64.wrap a0).tmod 6 = 5) (hx : a1.tmod 12 = x) (b1 : -12 < x ∧ x < 12) (hf : 3 < x) :
    Calls Try.prog 6 #[.int .i64 a0, .int .i64 a1] w fun e w' => e = .returned (.bool true) ∧ Below w.heap.size w w' := by
  have no : ¬ SpOk ⟨2, 2, 5, 0, 5, 0, [], 3, x⟩ := fun q => by
    obtain ⟨q1, q2, q3, q4, _, _, _, _, _, _, q5, q6, _⟩ := q
    simp at q1 q2 q3 q4 q5 q6
    omega
  have hm : maySp ⟨2, 2, 5, 0, 5, 0, [], 3, x⟩ = false := maySp_no _ no
  have h1 := fun w => putsp_no (p := ⟨2, 2, 5, 0, 5, 0, [], 3, x⟩) (fun h => by rw [maySp_of h] at hm; cases hm) none 0 w (SpAt.nil _ _ _ rfl _) (by simp)
  have h3 := fun w => maysp_is hm none 0 w (SpAt.nil _ _ _ rfl _) (by simp)
  simp only [spV, List.length_nil] at h1 h3
  have X1 := Lib.hid h1
  have X3 := Lib.hid h3
  clear h1 h3 hm no
  have HB := Lib.hid (Below.refl w.heap.size w)
  go_enter Try.func6, Try.ntmps6
  go_wp2_with fail
  refine (awake_any _).mono ?_
  rintro e w1 ⟨rfl, hb⟩
  replace HB := Lib.hid (HB.out.trans (hb.mono HB.out.size))
  clear hb
  replace HB := Lib.hid (HB.out.alloc HB.out.size (.cells #[.int .i64 2, .int .i64 2, .int .i64 5, .int .i64 0, .int .i64 5, .int .i64 0, .slice none 0 0, .int .i64 3, .int .i64 x] 24))
  have Ks := Lib.hid (Bk.new w1 24 #[.int .i64 2, .int .i64 2, .int .i64 5, .int .i64 0, .int .i64 5, .int .i64 0, .slice none 0 0, .int .i64 3, .int .i64 x])
  go_wp2_with fail
  refine (X1.out _).mono ?_
  rintro e w2 ⟨rfl, hb⟩
  replace Ks := Lib.hid (Ks.out.go hb)
  replace HB := Lib.hid (HB.out.trans (hb.mono HB.out.size))
  clear hb
  clear hk hx
  have cs_0 := Ks.out.cell 0
  have cs_1 := Ks.out.cell 1
  have cs_2 := Ks.out.cell 2
  have cs_3 := Ks.out.cell 3
  have cs_4 := Ks.out.cell 4
  have cs_5 := Ks.out.cell 5
  have cs_6 := Ks.out.cell 6
  have cs_7 := Ks.out.cell 7
  have cs_8 := Ks.out.cell 8
  simp at cs_0 cs_1 cs_2 cs_3 cs_4 cs_5 cs_6 cs_7 cs_8
  go_wp2_with (go_at_call 17; refine (num_any _ _).mono ?_; rintro e w' ⟨rfl, rfl⟩)
  rotate_left
  · exfalso
    have hz : (!decide (x ≤ 3)) = false := by assumption
    simp at hz <;> omega
  clear cs_0 cs_1 cs_2 cs_3 cs_4 cs_5 cs_6 cs_7 cs_8
  refine (X3.out _).mono ?_
  rintro e w3 ⟨rfl, hb⟩
  replace Ks := Lib.hid (Ks.out.go hb)
  replace HB := Lib.hid (HB.out.trans (hb.mono HB.out.size))
  clear hb
  go_wp2_with (go_at_call 17; refine (num_any _ _).mono ?_; rintro e w' ⟨rfl, rfl⟩)
  go_ret
  exact ⟨rfl, HB.out⟩
set_option maxRecDepth 100000 in
set_option maxHeartbeats 6400000 in
theorem bounds_52 (a0 a1 x : Int) (w : World) (hk : (IntKind.u64.wrap a0).tmod 6 = 5) (hx : a1.tmod 12 = x) (b1 : -12 < x ∧ x < 12) (hf : 0 ≤ x ∧ x ≤ 3) :
    Calls Try.prog 6 #[.int .i64 a0, .int .i64 a1] w fun e w' => e = .returned (.bool true) ∧ Below w.heap.size w w' := by
  have ok : SpOk ⟨2, 2, 5, 0, 5, 0, [], 3, x⟩ := by
    refine ⟨?_, ?_, ?_, ?_, ?_, ?_, ?_, ?_, ?_, ?_, ?_, ?_, ?_⟩ <;> simp [cyOk] <;> omega
  have hE : putSpE ⟨2, 2, 5, 0, 5, 0, [], 3, x⟩ = 0 := by unfold putSpE; rw [if_pos ((maySp_iff _).2 ok)]
  have h1 := fun w => putsp_yes hE none 0 w (SpAt.nil _ _ _ rfl _) (by simp)
  have h2 := getsp_yes hE
  have h3 := fun w => maysp_is (maySp_of hE) none 0 w (SpAt.nil _ _ _ rfl _) (by simp)
  have h4 := fun A C c d w => samesps_yes ⟨2, 2, 5, 0, 5, 0, [], 3, x⟩ A C c d w (SpAt.nil _ _ _ rfl _) (SpAt.nil _ _ _ rfl _) (by simp)
  generalize putSpS ⟨2, 2, 5, 0, 5, 0, [], 3, x⟩ = T at h1 h2
  simp only [spV, List.length_nil] at h1 h2 h3 h4
  have X1 := Lib.hid h1
  have X2 := Lib.hid h2
  have X3 := Lib.hid h3
  have X4 := Lib.hid h4
  clear h1 h2 h3 h4 ok hE
  have HB := Lib.hid (Below.refl w.heap.size w)
  go_enter Try.func6, Try.ntmps6
  go_wp2_with fail
  refine (awake_any _).mono ?_
  rintro e w1 ⟨rfl, hb⟩
  replace HB := Lib.hid (HB.out.trans (hb.mono HB.out.size))
  clear hb
  replace HB := Lib.hid (HB.out.alloc HB.out.size (.cells #[.int .i64 2, .int .i64 2, .int .i64 5, .int .i64 0, .int .i64 5, .int .i64 0, .slice none 0 0, .int .i64 3, .int .i64 x] 24))
  have Ks := Lib.hid (Bk.new w1 24 #[.int .i64 2, .int .i64 2, .int .i64 5, .int .i64 0, .int .i64 5, .int .i64 0, .slice none 0 0, .int .i64 3, .int .i64 x])
  go_wp2_with fail
  refine (X1.out _).mono ?_
  rintro e w2 ⟨rfl, hb⟩
  replace Ks := Lib.hid (Ks.out.go hb)
  replace HB := Lib.hid (HB.out.trans (hb.mono HB.out.size))
  clear hb
  clear hk hx
  go_wp2_with (go_at_call 17; refine (num_any _ _).mono ?_; rintro e w' ⟨rfl, rfl⟩)
  refine (X2.out _).mono ?_
  rintro e w3 ⟨A1, c1, rfl, _, _, hb⟩
  replace Ks := Lib.hid (Ks.out.go hb)
  replace HB := Lib.hid (HB.out.trans (hb.mono HB.out.size))
  clear hb
  have cs_0 := Ks.out.cell 0
  have cs_1 := Ks.out.cell 1
  have cs_2 := Ks.out.cell 2
  have cs_3 := Ks.out.cell 3
  have cs_4 := Ks.out.cell 4
  have cs_5 := Ks.out.cell 5
  have cs_6 := Ks.out.cell 6
  have cs_7 := Ks.out.cell 7
  have cs_8 := Ks.out.cell 8
  simp at cs_0 cs_1 cs_2 cs_3 cs_4 cs_5 cs_6 cs_7 cs_8
  have hlts := Ks.out.lt
  replace Ks := Lib.hid (Ks.out.alloc (.cells #[.int .i64 2, .int .i64 2, .int .i64 5, .int .i64 0, .int .i64 5, .int .i64 0, .slice A1 0 c1, .int .i64 3, .int .i64 x] 24))
  replace HB := Lib.hid (HB.out.alloc HB.out.size (.cells #[.int .i64 2, .int .i64 2, .int .i64 5, .int .i64 0, .int .i64 5, .int .i64 0, .slice A1 0 c1, .int .i64 3, .int .i64 x] 24))
  have Kt := Lib.hid (Bk.new w3 24 #[.int .i64 2, .int .i64 2, .int .i64 5, .int .i64 0, .int .i64 5, .int .i64 0, .slice A1 0 c1, .int .i64 3, .int .i64 x])
  have csb_0 := Ks.out.cell 0
  have csb_1 := Ks.out.cell 1
  have csb_2 := Ks.out.cell 2
  have csb_3 := Ks.out.cell 3
  have csb_4 := Ks.out.cell 4
  have csb_5 := Ks.out.cell 5
  have csb_6 := Ks.out.cell 6
  have csb_7 := Ks.out.cell 7
  have csb_8 := Ks.out.cell 8
  simp at csb_0 csb_1 csb_2 csb_3 csb_4 csb_5 csb_6 csb_7 csb_8
  go_wp2_with (go_at_call 17; refine (num_any _ _).mono ?_; rintro e w' ⟨rfl, rfl⟩)
  clear cs_0 cs_1 cs_2 cs_3 cs_4 cs_5 cs_6 cs_7 cs_8 hlts csb_0 csb_1 csb_2 csb_3 csb_4 csb_5 csb_6 csb_7 csb_8
  refine (X3.out _).mono ?_
  rintro e w4 ⟨rfl, hb⟩
  replace Ks := Lib.hid (Ks.out.go hb)
  replace Kt := Lib.hid (Kt.out.go hb)
  replace HB := Lib.hid (HB.out.trans (hb.mono HB.out.size))
  clear hb
  have cs_0 := Ks.out.cell 0
  have cs_1 := Ks.out.cell 1
  have cs_2 := Ks.out.cell 2
  have cs_3 := Ks.out.cell 3
  have cs_4 := Ks.out.cell 4
  have cs_5 := Ks.out.cell 5
  have cs_6 := Ks.out.cell 6
  have cs_7 := Ks.out.cell 7
  have cs_8 := Ks.out.cell 8
  simp at cs_0 cs_1 cs_2 cs_3 cs_4 cs_5 cs_6 cs_7 cs_8
  have ct_0 := Kt.out.cell 0
  have ct_1 := Kt.out.cell 1
  have ct_2 := Kt.out.cell 2
  have ct_3 := Kt.out.cell 3
  have ct_4 := Kt.out.cell 4
  have ct_5 := Kt.out.cell 5
  have ct_6 := Kt.out.cell 6
  have ct_7 := Kt.out.cell 7
  have ct_8 := Kt.out.cell 8
  simp at ct_0 ct_1 ct_2 ct_3 ct_4 ct_5 ct_6 ct_7 ct_8
  go_wp2_with (go_at_call 17; refine (num_any _ _).mono ?_; rintro e w' ⟨rfl, rfl⟩)
  clear cs_0 cs_1 cs_2 cs_3 cs_4 cs_5 cs_6 cs_7 cs_8 ct_0 ct_1 ct_2 ct_3 ct_4 ct_5 ct_6 ct_7 ct_8
  refine (X4.out _ _ _ _ _).mono ?_
  rintro e w5 ⟨rfl, hb⟩
  replace Ks := Lib.hid (Ks.out.go hb)
  replace Kt := Lib.hid (Kt.out.go hb)
  replace HB := Lib.hid (HB.out.trans (hb.mono HB.out.size))
  clear hb
  go_wp2_with (go_at_call 17; refine (num_any _ _).mono ?_; rintro e w' ⟨rfl, rfl⟩)
  go_ret
  exact ⟨rfl, HB.out⟩
theorem walk_ParamsBounds (a0 : Int) (a1 : Int) (w : World) (w_a0 : (Lit.int .i64 a0).wf = true) (w_a1 : (Lit.int .i64 a1).wf = true) :
    Calls Try.prog 6 #[.int .i64 a0, .int .i64 a1] w fun e w' => e = .returned (.bool true) ∧ Below w.heap.size w w' := by
  have hu := u64_tmod_bd a0 6 (by omega)
  obtain ⟨k, hk⟩ : ∃ k, (IntKind.u64.wrap a0).tmod 6 = k := ⟨_, rfl⟩
  rw [hk] at hu
  obtain ⟨x, hx⟩ : ∃ q, a1.tmod 12 = q := ⟨_, rfl⟩
  have b1 := tmod_bd a1 12 (by omega)
  rw [hx] at b1
  have hc : k = 0 ∨ k = 1 ∨ k = 2 ∨ k = 3 ∨ k = 4 ∨ k = 5 := by omega
  rcases hc with rfl | rfl | rfl | rfl | rfl | rfl
  · by_cases h0 : x < 1
    · exact bounds_00 a0 a1 x w hk hx b1 h0
    · by_cases h1 : 8 < x
      · exact bounds_01 a0 a1 x w hk hx b1 h1
      · exact bounds_02 a0 a1 x w hk hx b1 ⟨by omega, by omega⟩
  · by_cases h0 : x < 1
    · exact bounds_10 a0 a1 x w hk hx b1 h0
    · by_cases h1 : 8 < x
      · exact bounds_11 a0 a1 x w hk hx b1 h1
      · exact bounds_12 a0 a1 x w hk hx b1 ⟨by omega, by omega⟩
  · by_cases h0 : x < 4
    · exact bounds_20 a0 a1 x w hk hx b1 h0
    · by_cases h1 : 8 < x
      · exact bounds_21 a0 a1 x w hk hx b1 h1
      · exact bounds_22 a0 a1 x w hk hx b1 ⟨by omega, by omega⟩
  · by_cases h0 : x < 4
    · exact bounds_30 a0 a1 x w hk hx b1 h0
    · by_cases h1 : 8 < x
      · exact bounds_31 a0 a1 x w hk hx b1 h1
      · exact bounds_32 a0 a1 x w hk hx b1 ⟨by omega, by omega⟩
  · by_cases h0 : x < 1
    · exact bounds_40 a0 a1 x w hk hx b1 h0
    · by_cases h1 : 8 < x
      · exact bounds_41 a0 a1 x w hk hx b1 h1
      · exact bounds_42 a0 a1 x w hk hx b1 ⟨by omega, by omega⟩
  · by_cases h0 : x < 0
    · exact bounds_50 a0 a1 x w hk hx b1 h0
    · by_cases h1 : 3 < x
      · exact bounds_51 a0 a1 x w hk hx b1 h1
      · exact bounds_52 a0 a1 x w hk hx b1 ⟨by omega, by omega⟩
end Go.Proofs.Ytegfglpaabddlaa
