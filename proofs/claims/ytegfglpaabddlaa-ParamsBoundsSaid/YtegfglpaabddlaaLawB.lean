/- ParamsQps. -/
import Derived.Test.YtegfglpaabddlaaParZ
namespace Go.Proofs.Ytegfglpaabddlaa
open Go.RowKit
set_option linter.unusedVariables false
set_option linter.unusedSimpArgs false

theorem putpp_no {p : Pp} (h : ¬ PpOk p) (w : World) : Calls Try.prog 22 #[.agg (ppV p)] w fun e w' => e = .returned (.tuple #[.string ⟨#[]⟩, .int .i64 301]) ∧ Below w.heap.size w w' := by
  have hm : ¬ mayPp p = true := fun q => h ((mayPp_iff p).1 q)
  have := putpp_any p w
  unfold putPpS putPpE at this
  rw [if_neg hm, if_neg hm] at this
  exact this
theorem putpp_yes {p : Pp} (h : PpOk p) (w : World) : Calls Try.prog 22 #[.agg (ppV p)] w fun e w' => e = .returned (.tuple #[.string (putPpS p), .int .i64 0]) ∧ Below w.heap.size w w' := by
  have hm : mayPp p = true := (mayPp_iff p).2 h
  have := putpp_any p w
  unfold putPpE at this
  rw [if_pos hm] at this
  exact this
theorem getpp_yes {p : Pp} (h : PpOk p) (w : World) : Calls Try.prog 24 #[.string (putPpS p)] w fun e w' => e = .returned (.tuple #[.agg (ppV p), .int .i64 0]) ∧ Below w.heap.size w w' :=
  getpp_is (by have := putPp_size p; omega) (pp_again (by unfold putPpE; rw [if_pos ((mayPp_iff p).2 h)])).2 w
theorem maypp_is {p : Pp} {b : Bool} (h : mayPp p = b) (w : World) : Calls Try.prog 26 #[.agg (ppV p)] w fun e w' => e = .returned (.bool b) ∧ Below w.heap.size w w' := by
  subst h; exact maypp_any p w

set_option maxRecDepth 100000 in
set_option maxHeartbeats 6400000 in
theorem qps_0 (a0 : Int) (a1 : Int) (a2 : Int) (a3 : Int) (w : World) (q c b a : Int) (hq : a0.tmod 60 = q) (hc : a1.tmod 20 = c) (hb : a2.tmod 5 = b) (ha : a3.tmod 12 = a)
    (b1 : -60 < q ∧ q < 60) (b2 : -20 < c ∧ c < 20) (b3 : -5 < b ∧ b < 5) (b4 : -12 < a ∧ a < 12)
    (h0 : ¬ 0 ≤ q)  :
    Calls Try.prog 8 #[.int .i64 a0, .int .i64 a1, .int .i64 a2, .int .i64 a3] w fun e w' => e = .returned (.bool true) ∧ Below w.heap.size w w' := by
  have no : ¬ PpOk ⟨false, false, b, q, c, false, false, a, 1⟩ := by unfold PpOk; simp only; omega
  have hP := putpp_no no
  have hM := maypp_is (b := false) (by cases e : mayPp ⟨false, false, b, q, c, false, false, a, 1⟩; rfl; exact absurd ((mayPp_iff _).1 e) no)
  clear no
  simp only [ppV] at hP hM
  have HP := Lib.hid hP
  have HM := Lib.hid hM
  clear hP hM
  go_enter Try.func8, Try.ntmps8
  go_wp2_with fail
  refine (awake_any w).mono ?_
  rintro e w1 ⟨rfl, hbl⟩
  have hbz := hbl.alloc hbl.size (.cells #[.bool false, .bool false, .int .i64 b, .int .i64 q, .int .i64 c, .bool false, .bool false, .int .i64 a, .int .i64 1] 43)
  have HB := Lib.hid hbz
  have KG := Lib.hid (Bk.new w1 43 #[.bool false, .bool false, .int .i64 b, .int .i64 q, .int .i64 c, .bool false, .bool false, .int .i64 a, .int .i64 1])
  clear hbl hbz
  go_wp2_with fail
  refine (HP.out _).mono ?_
  rintro e w2 ⟨rfl, hbl⟩
  replace KG := Lib.hid (KG.out.go hbl)
  replace HB := Lib.hid (HB.out.trans (hbl.mono HB.out.size))
  clear hbl hq hc hb ha
  have c0 := KG.out.cell 0
  have c1 := KG.out.cell 1
  have c2 := KG.out.cell 2
  have c3 := KG.out.cell 3
  have c4 := KG.out.cell 4
  have c5 := KG.out.cell 5
  have c6 := KG.out.cell 6
  have c7 := KG.out.cell 7
  have c8 := KG.out.cell 8
  simp at c0 c1 c2 c3 c4 c5 c6 c7 c8
  go_wp2_with fail
  
  refine (HM.out _).mono ?_
  rintro e w5 ⟨rfl, hbl⟩
  replace KG := Lib.hid (KG.out.go hbl)
  
  replace HB := Lib.hid (HB.out.trans (hbl.mono HB.out.size))
  clear hbl c0 c1 c2 c3 c4 c5 c6 c7 c8
  go_wp2_with (go_at_call 17; refine (num_any _ _).mono ?_; rintro e w' ⟨rfl, rfl⟩)
  go_ret
  exact ⟨rfl, HB.out⟩
set_option maxRecDepth 100000 in
set_option maxHeartbeats 6400000 in
theorem qps_1 (a0 : Int) (a1 : Int) (a2 : Int) (a3 : Int) (w : World) (q c b a : Int) (hq : a0.tmod 60 = q) (hc : a1.tmod 20 = c) (hb : a2.tmod 5 = b) (ha : a3.tmod 12 = a)
    (b1 : -60 < q ∧ q < 60) (b2 : -20 < c ∧ c < 20) (b3 : -5 < b ∧ b < 5) (b4 : -12 < a ∧ a < 12)
    (h1 : ¬ q ≤ 51) (h0 : 0 ≤ q) :
    Calls Try.prog 8 #[.int .i64 a0, .int .i64 a1, .int .i64 a2, .int .i64 a3] w fun e w' => e = .returned (.bool true) ∧ Below w.heap.size w w' := by
  have no : ¬ PpOk ⟨false, false, b, q, c, false, false, a, 1⟩ := by unfold PpOk; simp only; omega
  have hP := putpp_no no
  have hM := maypp_is (b := false) (by cases e : mayPp ⟨false, false, b, q, c, false, false, a, 1⟩; rfl; exact absurd ((mayPp_iff _).1 e) no)
  clear no
  simp only [ppV] at hP hM
  have HP := Lib.hid hP
  have HM := Lib.hid hM
  clear hP hM
  go_enter Try.func8, Try.ntmps8
  go_wp2_with fail
  refine (awake_any w).mono ?_
  rintro e w1 ⟨rfl, hbl⟩
  have hbz := hbl.alloc hbl.size (.cells #[.bool false, .bool false, .int .i64 b, .int .i64 q, .int .i64 c, .bool false, .bool false, .int .i64 a, .int .i64 1] 43)
  have HB := Lib.hid hbz
  have KG := Lib.hid (Bk.new w1 43 #[.bool false, .bool false, .int .i64 b, .int .i64 q, .int .i64 c, .bool false, .bool false, .int .i64 a, .int .i64 1])
  clear hbl hbz
  go_wp2_with fail
  refine (HP.out _).mono ?_
  rintro e w2 ⟨rfl, hbl⟩
  replace KG := Lib.hid (KG.out.go hbl)
  replace HB := Lib.hid (HB.out.trans (hbl.mono HB.out.size))
  clear hbl hq hc hb ha
  have c0 := KG.out.cell 0
  have c1 := KG.out.cell 1
  have c2 := KG.out.cell 2
  have c3 := KG.out.cell 3
  have c4 := KG.out.cell 4
  have c5 := KG.out.cell 5
  have c6 := KG.out.cell 6
  have c7 := KG.out.cell 7
  have c8 := KG.out.cell 8
  simp at c0 c1 c2 c3 c4 c5 c6 c7 c8
  go_wp2_with fail
  
  refine (HM.out _).mono ?_
  rintro e w5 ⟨rfl, hbl⟩
  replace KG := Lib.hid (KG.out.go hbl)
  
  replace HB := Lib.hid (HB.out.trans (hbl.mono HB.out.size))
  clear hbl c0 c1 c2 c3 c4 c5 c6 c7 c8
  go_wp2_with (go_at_call 17; refine (num_any _ _).mono ?_; rintro e w' ⟨rfl, rfl⟩)
  go_ret
  exact ⟨rfl, HB.out⟩
set_option maxRecDepth 100000 in
set_option maxHeartbeats 6400000 in
theorem qps_2 (a0 : Int) (a1 : Int) (a2 : Int) (a3 : Int) (w : World) (q c b a : Int) (hq : a0.tmod 60 = q) (hc : a1.tmod 20 = c) (hb : a2.tmod 5 = b) (ha : a3.tmod 12 = a)
    (b1 : -60 < q ∧ q < 60) (b2 : -20 < c ∧ c < 20) (b3 : -5 < b ∧ b < 5) (b4 : -12 < a ∧ a < 12)
    (h2 : ¬ -12 ≤ c) (h0 : 0 ≤ q) (h1 : q ≤ 51) :
    Calls Try.prog 8 #[.int .i64 a0, .int .i64 a1, .int .i64 a2, .int .i64 a3] w fun e w' => e = .returned (.bool true) ∧ Below w.heap.size w w' := by
  have no : ¬ PpOk ⟨false, false, b, q, c, false, false, a, 1⟩ := by unfold PpOk; simp only; omega
  have hP := putpp_no no
  have hM := maypp_is (b := false) (by cases e : mayPp ⟨false, false, b, q, c, false, false, a, 1⟩; rfl; exact absurd ((mayPp_iff _).1 e) no)
  clear no
  simp only [ppV] at hP hM
  have HP := Lib.hid hP
  have HM := Lib.hid hM
  clear hP hM
  go_enter Try.func8, Try.ntmps8
  go_wp2_with fail
  refine (awake_any w).mono ?_
  rintro e w1 ⟨rfl, hbl⟩
  have hbz := hbl.alloc hbl.size (.cells #[.bool false, .bool false, .int .i64 b, .int .i64 q, .int .i64 c, .bool false, .bool false, .int .i64 a, .int .i64 1] 43)
  have HB := Lib.hid hbz
  have KG := Lib.hid (Bk.new w1 43 #[.bool false, .bool false, .int .i64 b, .int .i64 q, .int .i64 c, .bool false, .bool false, .int .i64 a, .int .i64 1])
  clear hbl hbz
  go_wp2_with fail
  refine (HP.out _).mono ?_
  rintro e w2 ⟨rfl, hbl⟩
  replace KG := Lib.hid (KG.out.go hbl)
  replace HB := Lib.hid (HB.out.trans (hbl.mono HB.out.size))
  clear hbl hq hc hb ha
  have c0 := KG.out.cell 0
  have c1 := KG.out.cell 1
  have c2 := KG.out.cell 2
  have c3 := KG.out.cell 3
  have c4 := KG.out.cell 4
  have c5 := KG.out.cell 5
  have c6 := KG.out.cell 6
  have c7 := KG.out.cell 7
  have c8 := KG.out.cell 8
  simp at c0 c1 c2 c3 c4 c5 c6 c7 c8
  go_wp2_with fail
  
  refine (HM.out _).mono ?_
  rintro e w5 ⟨rfl, hbl⟩
  replace KG := Lib.hid (KG.out.go hbl)
  
  replace HB := Lib.hid (HB.out.trans (hbl.mono HB.out.size))
  clear hbl c0 c1 c2 c3 c4 c5 c6 c7 c8
  go_wp2_with (go_at_call 17; refine (num_any _ _).mono ?_; rintro e w' ⟨rfl, rfl⟩)
  go_ret
  exact ⟨rfl, HB.out⟩
set_option maxRecDepth 100000 in
set_option maxHeartbeats 6400000 in
theorem qps_3 (a0 : Int) (a1 : Int) (a2 : Int) (a3 : Int) (w : World) (q c b a : Int) (hq : a0.tmod 60 = q) (hc : a1.tmod 20 = c) (hb : a2.tmod 5 = b) (ha : a3.tmod 12 = a)
    (b1 : -60 < q ∧ q < 60) (b2 : -20 < c ∧ c < 20) (b3 : -5 < b ∧ b < 5) (b4 : -12 < a ∧ a < 12)
    (h3 : ¬ c ≤ 12) (h0 : 0 ≤ q) (h1 : q ≤ 51) (h2 : -12 ≤ c) :
    Calls Try.prog 8 #[.int .i64 a0, .int .i64 a1, .int .i64 a2, .int .i64 a3] w fun e w' => e = .returned (.bool true) ∧ Below w.heap.size w w' := by
  have no : ¬ PpOk ⟨false, false, b, q, c, false, false, a, 1⟩ := by unfold PpOk; simp only; omega
  have hP := putpp_no no
  have hM := maypp_is (b := false) (by cases e : mayPp ⟨false, false, b, q, c, false, false, a, 1⟩; rfl; exact absurd ((mayPp_iff _).1 e) no)
  clear no
  simp only [ppV] at hP hM
  have HP := Lib.hid hP
  have HM := Lib.hid hM
  clear hP hM
  go_enter Try.func8, Try.ntmps8
  go_wp2_with fail
  refine (awake_any w).mono ?_
  rintro e w1 ⟨rfl, hbl⟩
  have hbz := hbl.alloc hbl.size (.cells #[.bool false, .bool false, .int .i64 b, .int .i64 q, .int .i64 c, .bool false, .bool false, .int .i64 a, .int .i64 1] 43)
  have HB := Lib.hid hbz
  have KG := Lib.hid (Bk.new w1 43 #[.bool false, .bool false, .int .i64 b, .int .i64 q, .int .i64 c, .bool false, .bool false, .int .i64 a, .int .i64 1])
  clear hbl hbz
  go_wp2_with fail
  refine (HP.out _).mono ?_
  rintro e w2 ⟨rfl, hbl⟩
  replace KG := Lib.hid (KG.out.go hbl)
  replace HB := Lib.hid (HB.out.trans (hbl.mono HB.out.size))
  clear hbl hq hc hb ha
  have c0 := KG.out.cell 0
  have c1 := KG.out.cell 1
  have c2 := KG.out.cell 2
  have c3 := KG.out.cell 3
  have c4 := KG.out.cell 4
  have c5 := KG.out.cell 5
  have c6 := KG.out.cell 6
  have c7 := KG.out.cell 7
  have c8 := KG.out.cell 8
  simp at c0 c1 c2 c3 c4 c5 c6 c7 c8
  go_wp2_with fail
  
  refine (HM.out _).mono ?_
  rintro e w5 ⟨rfl, hbl⟩
  replace KG := Lib.hid (KG.out.go hbl)
  
  replace HB := Lib.hid (HB.out.trans (hbl.mono HB.out.size))
  clear hbl c0 c1 c2 c3 c4 c5 c6 c7 c8
  go_wp2_with (go_at_call 17; refine (num_any _ _).mono ?_; rintro e w' ⟨rfl, rfl⟩)
  go_ret
  exact ⟨rfl, HB.out⟩
set_option maxRecDepth 100000 in
set_option maxHeartbeats 6400000 in
theorem qps_4 (a0 : Int) (a1 : Int) (a2 : Int) (a3 : Int) (w : World) (q c b a : Int) (hq : a0.tmod 60 = q) (hc : a1.tmod 20 = c) (hb : a2.tmod 5 = b) (ha : a3.tmod 12 = a)
    (b1 : -60 < q ∧ q < 60) (b2 : -20 < c ∧ c < 20) (b3 : -5 < b ∧ b < 5) (b4 : -12 < a ∧ a < 12)
    (h4 : ¬ 0 ≤ b) (h0 : 0 ≤ q) (h1 : q ≤ 51) (h2 : -12 ≤ c) (h3 : c ≤ 12) :
    Calls Try.prog 8 #[.int .i64 a0, .int .i64 a1, .int .i64 a2, .int .i64 a3] w fun e w' => e = .returned (.bool true) ∧ Below w.heap.size w w' := by
  have no : ¬ PpOk ⟨false, false, b, q, c, false, false, a, 1⟩ := by unfold PpOk; simp only; omega
  have hP := putpp_no no
  have hM := maypp_is (b := false) (by cases e : mayPp ⟨false, false, b, q, c, false, false, a, 1⟩; rfl; exact absurd ((mayPp_iff _).1 e) no)
  clear no
  simp only [ppV] at hP hM
  have HP := Lib.hid hP
  have HM := Lib.hid hM
  clear hP hM
  go_enter Try.func8, Try.ntmps8
  go_wp2_with fail
  refine (awake_any w).mono ?_
  rintro e w1 ⟨rfl, hbl⟩
  have hbz := hbl.alloc hbl.size (.cells #[.bool false, .bool false, .int .i64 b, .int .i64 q, .int .i64 c, .bool false, .bool false, .int .i64 a, .int .i64 1] 43)
  have HB := Lib.hid hbz
  have KG := Lib.hid (Bk.new w1 43 #[.bool false, .bool false, .int .i64 b, .int .i64 q, .int .i64 c, .bool false, .bool false, .int .i64 a, .int .i64 1])
  clear hbl hbz
  go_wp2_with fail
  refine (HP.out _).mono ?_
  rintro e w2 ⟨rfl, hbl⟩
  replace KG := Lib.hid (KG.out.go hbl)
  replace HB := Lib.hid (HB.out.trans (hbl.mono HB.out.size))
  clear hbl hq hc hb ha
  have c0 := KG.out.cell 0
  have c1 := KG.out.cell 1
  have c2 := KG.out.cell 2
  have c3 := KG.out.cell 3
  have c4 := KG.out.cell 4
  have c5 := KG.out.cell 5
  have c6 := KG.out.cell 6
  have c7 := KG.out.cell 7
  have c8 := KG.out.cell 8
  simp at c0 c1 c2 c3 c4 c5 c6 c7 c8
  go_wp2_with fail
  
  refine (HM.out _).mono ?_
  rintro e w5 ⟨rfl, hbl⟩
  replace KG := Lib.hid (KG.out.go hbl)
  
  replace HB := Lib.hid (HB.out.trans (hbl.mono HB.out.size))
  clear hbl c0 c1 c2 c3 c4 c5 c6 c7 c8
  go_wp2_with (go_at_call 17; refine (num_any _ _).mono ?_; rintro e w' ⟨rfl, rfl⟩)
  go_ret
  exact ⟨rfl, HB.out⟩
set_option maxRecDepth 100000 in
set_option maxHeartbeats 6400000 in
theorem qps_5 (a0 : Int) (a1 : Int) (a2 : Int) (a3 : Int) (w : World) (q c b a : Int) (hq : a0.tmod 60 = q) (hc : a1.tmod 20 = c) (hb : a2.tmod 5 = b) (ha : a3.tmod 12 = a)
    (b1 : -60 < q ∧ q < 60) (b2 : -20 < c ∧ c < 20) (b3 : -5 < b ∧ b < 5) (b4 : -12 < a ∧ a < 12)
    (h5 : ¬ b ≤ 2) (h0 : 0 ≤ q) (h1 : q ≤ 51) (h2 : -12 ≤ c) (h3 : c ≤ 12) (h4 : 0 ≤ b) :
    Calls Try.prog 8 #[.int .i64 a0, .int .i64 a1, .int .i64 a2, .int .i64 a3] w fun e w' => e = .returned (.bool true) ∧ Below w.heap.size w w' := by
  have no : ¬ PpOk ⟨false, false, b, q, c, false, false, a, 1⟩ := by unfold PpOk; simp only; omega
  have hP := putpp_no no
  have hM := maypp_is (b := false) (by cases e : mayPp ⟨false, false, b, q, c, false, false, a, 1⟩; rfl; exact absurd ((mayPp_iff _).1 e) no)
  clear no
  simp only [ppV] at hP hM
  have HP := Lib.hid hP
  have HM := Lib.hid hM
  clear hP hM
  go_enter Try.func8, Try.ntmps8
  go_wp2_with fail
  refine (awake_any w).mono ?_
  rintro e w1 ⟨rfl, hbl⟩
  have hbz := hbl.alloc hbl.size (.cells #[.bool false, .bool false, .int .i64 b, .int .i64 q, .int .i64 c, .bool false, .bool false, .int .i64 a, .int .i64 1] 43)
  have HB := Lib.hid hbz
  have KG := Lib.hid (Bk.new w1 43 #[.bool false, .bool false, .int .i64 b, .int .i64 q, .int .i64 c, .bool false, .bool false, .int .i64 a, .int .i64 1])
  clear hbl hbz
  go_wp2_with fail
  refine (HP.out _).mono ?_
  rintro e w2 ⟨rfl, hbl⟩
  replace KG := Lib.hid (KG.out.go hbl)
  replace HB := Lib.hid (HB.out.trans (hbl.mono HB.out.size))
  clear hbl hq hc hb ha
  have c0 := KG.out.cell 0
  have c1 := KG.out.cell 1
  have c2 := KG.out.cell 2
  have c3 := KG.out.cell 3
  have c4 := KG.out.cell 4
  have c5 := KG.out.cell 5
  have c6 := KG.out.cell 6
  have c7 := KG.out.cell 7
  have c8 := KG.out.cell 8
  simp at c0 c1 c2 c3 c4 c5 c6 c7 c8
  go_wp2_with fail
  
  refine (HM.out _).mono ?_
  rintro e w5 ⟨rfl, hbl⟩
  replace KG := Lib.hid (KG.out.go hbl)
  
  replace HB := Lib.hid (HB.out.trans (hbl.mono HB.out.size))
  clear hbl c0 c1 c2 c3 c4 c5 c6 c7 c8
  go_wp2_with (go_at_call 17; refine (num_any _ _).mono ?_; rintro e w' ⟨rfl, rfl⟩)
  go_ret
  exact ⟨rfl, HB.out⟩
set_option maxRecDepth 100000 in
set_option maxHeartbeats 6400000 in
theorem qps_6 (a0 : Int) (a1 : Int) (a2 : Int) (a3 : Int) (w : World) (q c b a : Int) (hq : a0.tmod 60 = q) (hc : a1.tmod 20 = c) (hb : a2.tmod 5 = b) (ha : a3.tmod 12 = a)
    (b1 : -60 < q ∧ q < 60) (b2 : -20 < c ∧ c < 20) (b3 : -5 < b ∧ b < 5) (b4 : -12 < a ∧ a < 12)
    (h6 : ¬ 1 ≤ a) (h0 : 0 ≤ q) (h1 : q ≤ 51) (h2 : -12 ≤ c) (h3 : c ≤ 12) (h4 : 0 ≤ b) (h5 : b ≤ 2) :
    Calls Try.prog 8 #[.int .i64 a0, .int .i64 a1, .int .i64 a2, .int .i64 a3] w fun e w' => e = .returned (.bool true) ∧ Below w.heap.size w w' := by
  have no : ¬ PpOk ⟨false, false, b, q, c, false, false, a, 1⟩ := by unfold PpOk; simp only; omega
  have hP := putpp_no no
  have hM := maypp_is (b := false) (by cases e : mayPp ⟨false, false, b, q, c, false, false, a, 1⟩; rfl; exact absurd ((mayPp_iff _).1 e) no)
  clear no
  simp only [ppV] at hP hM
  have HP := Lib.hid hP
  have HM := Lib.hid hM
  clear hP hM
  go_enter Try.func8, Try.ntmps8
  go_wp2_with fail
  refine (awake_any w).mono ?_
  rintro e w1 ⟨rfl, hbl⟩
  have hbz := hbl.alloc hbl.size (.cells #[.bool false, .bool false, .int .i64 b, .int .i64 q, .int .i64 c, .bool false, .bool false, .int .i64 a, .int .i64 1] 43)
  have HB := Lib.hid hbz
  have KG := Lib.hid (Bk.new w1 43 #[.bool false, .bool false, .int .i64 b, .int .i64 q, .int .i64 c, .bool false, .bool false, .int .i64 a, .int .i64 1])
  clear hbl hbz
  go_wp2_with fail
  refine (HP.out _).mono ?_
  rintro e w2 ⟨rfl, hbl⟩
  replace KG := Lib.hid (KG.out.go hbl)
  replace HB := Lib.hid (HB.out.trans (hbl.mono HB.out.size))
  clear hbl hq hc hb ha
  have c0 := KG.out.cell 0
  have c1 := KG.out.cell 1
  have c2 := KG.out.cell 2
  have c3 := KG.out.cell 3
  have c4 := KG.out.cell 4
  have c5 := KG.out.cell 5
  have c6 := KG.out.cell 6
  have c7 := KG.out.cell 7
  have c8 := KG.out.cell 8
  simp at c0 c1 c2 c3 c4 c5 c6 c7 c8
  go_wp2_with fail
  
  refine (HM.out _).mono ?_
  rintro e w5 ⟨rfl, hbl⟩
  replace KG := Lib.hid (KG.out.go hbl)
  
  replace HB := Lib.hid (HB.out.trans (hbl.mono HB.out.size))
  clear hbl c0 c1 c2 c3 c4 c5 c6 c7 c8
  go_wp2_with (go_at_call 17; refine (num_any _ _).mono ?_; rintro e w' ⟨rfl, rfl⟩)
  go_ret
  exact ⟨rfl, HB.out⟩
set_option maxRecDepth 100000 in
set_option maxHeartbeats 6400000 in
theorem qps_7 (a0 : Int) (a1 : Int) (a2 : Int) (a3 : Int) (w : World) (q c b a : Int) (hq : a0.tmod 60 = q) (hc : a1.tmod 20 = c) (hb : a2.tmod 5 = b) (ha : a3.tmod 12 = a)
    (b1 : -60 < q ∧ q < 60) (b2 : -20 < c ∧ c < 20) (b3 : -5 < b ∧ b < 5) (b4 : -12 < a ∧ a < 12)
    (h7 : ¬ a ≤ 8) (h0 : 0 ≤ q) (h1 : q ≤ 51) (h2 : -12 ≤ c) (h3 : c ≤ 12) (h4 : 0 ≤ b) (h5 : b ≤ 2) (h6 : 1 ≤ a) :
    Calls Try.prog 8 #[.int .i64 a0, .int .i64 a1, .int .i64 a2, .int .i64 a3] w fun e w' => e = .returned (.bool true) ∧ Below w.heap.size w w' := by
  have no : ¬ PpOk ⟨false, false, b, q, c, false, false, a, 1⟩ := by unfold PpOk; simp only; omega
  have hP := putpp_no no
  have hM := maypp_is (b := false) (by cases e : mayPp ⟨false, false, b, q, c, false, false, a, 1⟩; rfl; exact absurd ((mayPp_iff _).1 e) no)
  clear no
  simp only [ppV] at hP hM
  have HP := Lib.hid hP
  have HM := Lib.hid hM
  clear hP hM
  go_enter Try.func8, Try.ntmps8
  go_wp2_with fail
  refine (awake_any w).mono ?_
  rintro e w1 ⟨rfl, hbl⟩
  have hbz := hbl.alloc hbl.size (.cells #[.bool false, .bool false, .int .i64 b, .int .i64 q, .int .i64 c, .bool false, .bool false, .int .i64 a, .int .i64 1] 43)
  have HB := Lib.hid hbz
  have KG := Lib.hid (Bk.new w1 43 #[.bool false, .bool false, .int .i64 b, .int .i64 q, .int .i64 c, .bool false, .bool false, .int .i64 a, .int .i64 1])
  clear hbl hbz
  go_wp2_with fail
  refine (HP.out _).mono ?_
  rintro e w2 ⟨rfl, hbl⟩
  replace KG := Lib.hid (KG.out.go hbl)
  replace HB := Lib.hid (HB.out.trans (hbl.mono HB.out.size))
  clear hbl hq hc hb ha
  have c0 := KG.out.cell 0
  have c1 := KG.out.cell 1
  have c2 := KG.out.cell 2
  have c3 := KG.out.cell 3
  have c4 := KG.out.cell 4
  have c5 := KG.out.cell 5
  have c6 := KG.out.cell 6
  have c7 := KG.out.cell 7
  have c8 := KG.out.cell 8
  simp at c0 c1 c2 c3 c4 c5 c6 c7 c8
  go_wp2_with fail
  rotate_left; (exfalso; have hz : (!decide (a ≤ 8)) = false := by assumption); (simp at hz <;> omega)
  refine (HM.out _).mono ?_
  rintro e w5 ⟨rfl, hbl⟩
  replace KG := Lib.hid (KG.out.go hbl)
  
  replace HB := Lib.hid (HB.out.trans (hbl.mono HB.out.size))
  clear hbl c0 c1 c2 c3 c4 c5 c6 c7 c8
  go_wp2_with (go_at_call 17; refine (num_any _ _).mono ?_; rintro e w' ⟨rfl, rfl⟩)
  go_ret
  exact ⟨rfl, HB.out⟩
set_option maxRecDepth 100000 in
set_option maxHeartbeats 6400000 in
theorem qps_8 (a0 : Int) (a1 : Int) (a2 : Int) (a3 : Int) (w : World) (q c b a : Int) (hq : a0.tmod 60 = q) (hc : a1.tmod 20 = c) (hb : a2.tmod 5 = b) (ha : a3.tmod 12 = a)
    (b1 : -60 < q ∧ q < 60) (b2 : -20 < c ∧ c < 20) (b3 : -5 < b ∧ b < 5) (b4 : -12 < a ∧ a < 12)
     (h0 : 0 ≤ q) (h1 : q ≤ 51) (h2 : -12 ≤ c) (h3 : c ≤ 12) (h4 : 0 ≤ b) (h5 : b ≤ 2) (h6 : 1 ≤ a) (h7 : a ≤ 8) :
    Calls Try.prog 8 #[.int .i64 a0, .int .i64 a1, .int .i64 a2, .int .i64 a3] w fun e w' => e = .returned (.bool true) ∧ Below w.heap.size w w' := by
  have ok : PpOk ⟨false, false, b, q, c, false, false, a, 1⟩ := by unfold PpOk; simp only; omega
  have hP := putpp_yes ok
  have hM := maypp_is ((mayPp_iff _).2 ok)
  have hGt := getpp_yes ok
  generalize putPpS ⟨false, false, b, q, c, false, false, a, 1⟩ = T at hP hGt
  simp only [ppV] at hP hM hGt
  have HGt := Lib.hid hGt
  clear hGt
  
  
  
  
  have HP := Lib.hid hP
  have HM := Lib.hid hM
  clear hP hM
  go_enter Try.func8, Try.ntmps8
  go_wp2_with fail
  refine (awake_any w).mono ?_
  rintro e w1 ⟨rfl, hbl⟩
  have hbz := hbl.alloc hbl.size (.cells #[.bool false, .bool false, .int .i64 b, .int .i64 q, .int .i64 c, .bool false, .bool false, .int .i64 a, .int .i64 1] 43)
  have HB := Lib.hid hbz
  have KG := Lib.hid (Bk.new w1 43 #[.bool false, .bool false, .int .i64 b, .int .i64 q, .int .i64 c, .bool false, .bool false, .int .i64 a, .int .i64 1])
  clear hbl hbz
  go_wp2_with fail
  refine (HP.out _).mono ?_
  rintro e w2 ⟨rfl, hbl⟩
  replace KG := Lib.hid (KG.out.go hbl)
  replace HB := Lib.hid (HB.out.trans (hbl.mono HB.out.size))
  clear hbl hq hc hb ha
  have c0 := KG.out.cell 0
  have c1 := KG.out.cell 1
  have c2 := KG.out.cell 2
  have c3 := KG.out.cell 3
  have c4 := KG.out.cell 4
  have c5 := KG.out.cell 5
  have c6 := KG.out.cell 6
  have c7 := KG.out.cell 7
  have c8 := KG.out.cell 8
  simp at c0 c1 c2 c3 c4 c5 c6 c7 c8
  go_wp2_with fail
  
  refine (HGt.out _).mono ?_
  rintro e w3 ⟨rfl, hbl⟩
  replace KG := Lib.hid (KG.out.go hbl)
  replace HB := Lib.hid (HB.out.trans (hbl.mono HB.out.size))
  clear hbl c0 c1 c2 c3 c4 c5 c6 c7 c8
  have c0 := KG.out.cell 0
  have c1 := KG.out.cell 1
  have c2 := KG.out.cell 2
  have c3 := KG.out.cell 3
  have c4 := KG.out.cell 4
  have c5 := KG.out.cell 5
  have c6 := KG.out.cell 6
  have c7 := KG.out.cell 7
  have c8 := KG.out.cell 8
  simp at c0 c1 c2 c3 c4 c5 c6 c7 c8
  have hlt := KG.out.lt
  have hbz := HB.out.alloc HB.out.size (.cells #[.bool false, .bool false, .int .i64 b, .int .i64 q, .int .i64 c, .bool false, .bool false, .int .i64 a, .int .i64 1] 43)
  replace HB := Lib.hid hbz
  have KU := Lib.hid (Bk.new w3 43 #[.bool false, .bool false, .int .i64 b, .int .i64 q, .int .i64 c, .bool false, .bool false, .int .i64 a, .int .i64 1])
  replace KG := Lib.hid (KG.out.alloc (.cells #[.bool false, .bool false, .int .i64 b, .int .i64 q, .int .i64 c, .bool false, .bool false, .int .i64 a, .int .i64 1] 43))
  clear hbz
  have d0 := KG.out.cell 0
  have d1 := KG.out.cell 1
  have d2 := KG.out.cell 2
  have d3 := KG.out.cell 3
  have d4 := KG.out.cell 4
  have d5 := KG.out.cell 5
  have d6 := KG.out.cell 6
  have d7 := KG.out.cell 7
  have d8 := KG.out.cell 8
  simp at d0 d1 d2 d3 d4 d5 d6 d7 d8
  go_wp2_with fail
  clear d0 d1 d2 d3 d4 d5 d6 d7 d8
  refine (HM.out _).mono ?_
  rintro e w5 ⟨rfl, hbl⟩
  replace KG := Lib.hid (KG.out.go hbl)
  replace KU := Lib.hid (KU.out.go hbl)
  replace HB := Lib.hid (HB.out.trans (hbl.mono HB.out.size))
  clear hbl c0 c1 c2 c3 c4 c5 c6 c7 c8
  have c0 := KG.out.cell 0
  have d0 := KU.out.cell 0
  have c1 := KG.out.cell 1
  have d1 := KU.out.cell 1
  have c2 := KG.out.cell 2
  have d2 := KU.out.cell 2
  have c3 := KG.out.cell 3
  have d3 := KU.out.cell 3
  have c4 := KG.out.cell 4
  have d4 := KU.out.cell 4
  have c5 := KG.out.cell 5
  have d5 := KU.out.cell 5
  have c6 := KG.out.cell 6
  have d6 := KU.out.cell 6
  have c7 := KG.out.cell 7
  have d7 := KU.out.cell 7
  have c8 := KG.out.cell 8
  have d8 := KU.out.cell 8
  simp at c0 c1 c2 c3 c4 c5 c6 c7 c8 d0 d1 d2 d3 d4 d5 d6 d7 d8
  go_wp2_with (go_at_call 17; refine (num_any _ _).mono ?_; rintro e w' ⟨rfl, rfl⟩)
  go_ret
  exact ⟨rfl, HB.out⟩
theorem walk_ParamsQps (a0 : Int) (a1 : Int) (a2 : Int) (a3 : Int) (w : World) (w_a0 : (Lit.int .i64 a0).wf = true) (w_a1 : (Lit.int .i64 a1).wf = true) (w_a2 : (Lit.int .i64 a2).wf = true) (w_a3 : (Lit.int .i64 a3).wf = true) :
    Calls Try.prog 8 #[.int .i64 a0, .int .i64 a1, .int .i64 a2, .int .i64 a3] w fun e w' => e = .returned (.bool true) ∧ Below w.heap.size w w' := by
  obtain ⟨q, hq⟩ : ∃ q, a0.tmod 60 = q := ⟨_, rfl⟩
  obtain ⟨c, hc⟩ : ∃ q, a1.tmod 20 = q := ⟨_, rfl⟩
  obtain ⟨b, hb⟩ : ∃ q, a2.tmod 5 = q := ⟨_, rfl⟩
  obtain ⟨a, ha⟩ : ∃ q, a3.tmod 12 = q := ⟨_, rfl⟩
  have b1 := tmod_bd a0 60 (by omega)
  have b2 := tmod_bd a1 20 (by omega)
  have b3 := tmod_bd a2 5 (by omega)
  have b4 := tmod_bd a3 12 (by omega)
  rw [hq] at b1
  rw [hc] at b2
  rw [hb] at b3
  rw [ha] at b4
  by_cases h0 : 0 ≤ q
  rotate_left
  · exact qps_0 a0 a1 a2 a3 w q c b a hq hc hb ha b1 b2 b3 b4 h0 
  by_cases h1 : q ≤ 51
  rotate_left
  · exact qps_1 a0 a1 a2 a3 w q c b a hq hc hb ha b1 b2 b3 b4 h1 h0
  by_cases h2 : -12 ≤ c
  rotate_left
  · exact qps_2 a0 a1 a2 a3 w q c b a hq hc hb ha b1 b2 b3 b4 h2 h0 h1
  by_cases h3 : c ≤ 12
  rotate_left
  · exact qps_3 a0 a1 a2 a3 w q c b a hq hc hb ha b1 b2 b3 b4 h3 h0 h1 h2
  by_cases h4 : 0 ≤ b
  rotate_left
  · exact qps_4 a0 a1 a2 a3 w q c b a hq hc hb ha b1 b2 b3 b4 h4 h0 h1 h2 h3
  by_cases h5 : b ≤ 2
  rotate_left
  · exact qps_5 a0 a1 a2 a3 w q c b a hq hc hb ha b1 b2 b3 b4 h5 h0 h1 h2 h3 h4
  by_cases h6 : 1 ≤ a
  rotate_left
  · exact qps_6 a0 a1 a2 a3 w q c b a hq hc hb ha b1 b2 b3 b4 h6 h0 h1 h2 h3 h4 h5
  by_cases h7 : a ≤ 8
  rotate_left
  · exact qps_7 a0 a1 a2 a3 w q c b a hq hc hb ha b1 b2 b3 b4 h7 h0 h1 h2 h3 h4 h5 h6
  exact qps_8 a0 a1 a2 a3 w q c b a hq hc hb ha b1 b2 b3 b4 h0 h1 h2 h3 h4 h5 h6 h7
end Go.Proofs.Ytegfglpaabddlaa
