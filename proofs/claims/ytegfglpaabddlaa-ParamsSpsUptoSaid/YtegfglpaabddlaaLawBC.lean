/- ParamsQps. ParamsBack. Printed by gen-back.py. -/
import Derived.Test.YtegfglpaabddlaaParYZ
import Derived.Test.YtegfglpaabddlaaRow
namespace Go.Proofs.Ytegfglpaabddlaa
open Go.RowKit
set_option linter.unusedVariables false
set_option linter.unusedSimpArgs false

theorem putpp_no {p : Pp} (h : ¬ PpOk p) (w : World) : Calls Try.prog 22 #[.agg (ppV p)] w fun e w' => e = .returned (.tuple #[.string ⟨#[]⟩, .int .i64 301]) ∧ Below w.heap.size w w' := by
  have hm : ¬ mayPp p = true := fun q => h ((mayPp_iff p).1 q)
  have := putpp_any p w
  unfold putPpS putPpE at this
  rw [if_neg hm, if_neg hm] at this
  exact this
theorem putpp_yes {p : Pp} (h : PpOk p) (w : World) : Calls Try.prog 22 #[.agg (ppV p)] w fun e w' => e = .returned (.tuple #[.string (putPpS p), .int .i64 0]) ∧ Below w.heap.size w w' := by
  have hm : mayPp p = true := (mayPp_iff p).2 h
  have := putpp_any p w
  unfold putPpE at this
  rw [if_pos hm] at this
  exact this
theorem getpp_yes {p : Pp} (h : PpOk p) (w : World) : Calls Try.prog 24 #[.string (putPpS p)] w fun e w' => e = .returned (.tuple #[.agg (ppV p), .int .i64 0]) ∧ Below w.heap.size w w' :=
  getpp_is (by have := putPp_size p; omega) (pp_again (by unfold putPpE; rw [if_pos ((mayPp_iff p).2 h)])).2 w
theorem maypp_is {p : Pp} {b : Bool} (h : mayPp p = b) (w : World) : Calls Try.prog 26 #[.agg (ppV p)] w fun e w' => e = .returned (.bool b) ∧ Below w.heap.size w w' := by
  subst h; exact maypp_any p w

set_option maxRecDepth 100000 in
set_option maxHeartbeats 6400000 in
theorem qps_0 (a0 : Int) (a1 : Int) (a2 : Int) (a3 : Int) (w : World) (q c b a : Int) (hq : a0.tmod 60 = q) (hc : a1.tmod 20 = c) (hb : a2.tmod 5 = b) (ha : a3.tmod 12 = a)
    (b1 : -60 < q ∧ q < 60) (b2 : -20 < c ∧ c < 20) (b3 : -5 < b ∧ b < 5) (b4 : -12 < a ∧ a < 12)
    (h0 : ¬ 0 ≤ q)  :
    Calls Try.prog 8 #[.int .i64 a0, .int .i64 a1, .int .i64 a2, .int .i64 a3] w fun e w' => e = .returned (.bool true) ∧ Below w.heap.size w w' := by
  have no : ¬ PpOk ⟨false, false, b, q, c, false, false, a, 1⟩ := by unfold PpOk; simp only; omega
  have hP := putpp_no no
  have hM := maypp_is (b := false) (by cases e : mayPp ⟨false, false, b, q, c, false, false, a, 1⟩; rfl; exact absurd ((mayPp_iff _).1 e) no)
  clear no
  simp only [ppV] at hP hM
  have HP := Lib.hid hP
  have HM := Lib.hid hM
  clear hP hM
  go_enter Try.func8, Try.ntmps8
  go_wp2_with fail
  refine (awake_any w).mono ?_
  rintro e w1 ⟨rfl, hbl⟩
  have hbz := hbl.alloc hbl.size (.cells #[.bool false, .bool false, .int .i64 b, .int .i64 q, .int .i64 c, .bool false, .bool false, .int .i64 a, .int .i64 1] 43)
  have HB := Lib.hid hbz
  have KG := Lib.hid (Bk.new w1 43 #[.bool false, .bool false, .int .i64 b, .int .i64 q, .int .i64 c, .bool false, .bool false, .int .i64 a, .int .i64 1])
  clear hbl hbz
  go_wp2_with fail
  refine (HP.out _).mono ?_
  rintro e w2 ⟨rfl, hbl⟩
  replace KG := Lib.hid (KG.out.go hbl)
  replace HB := Lib.hid (HB.out.trans (hbl.mono HB.out.size))
  clear hbl hq hc hb ha
  have c0 := KG.out.cell 0
  have c1 := KG.out.cell 1
  have c2 := KG.out.cell 2
  have c3 := KG.out.cell 3
  have c4 := KG.out.cell 4
  have c5 := KG.out.cell 5
  have c6 := KG.out.cell 6
  have c7 := KG.out.cell 7
  have c8 := KG.out.cell 8
  simp at c0 c1 c2 c3 c4 c5 c6 c7 c8
  go_wp2_with fail
  
  refine (HM.out _).mono ?_
  rintro e w5 ⟨rfl, hbl⟩
  replace KG := Lib.hid (KG.out.go hbl)
  
  replace HB := Lib.hid (HB.out.trans (hbl.mono HB.out.size))
  clear hbl c0 c1 c2 c3 c4 c5 c6 c7 c8
  go_wp2_with (go_at_call 17; refine (num_any _ _).mono ?_; rintro e w' ⟨rfl, rfl⟩)
  go_ret
  exact ⟨rfl, HB.out⟩
set_option maxRecDepth 100000 in
set_option maxHeartbeats 6400000 in
theorem qps_1 (a0 : Int) (a1 : Int) (a2 : Int) (a3 : Int) (w : World) (q c b a : Int) (hq : a0.tmod 60 = q) (hc : a1.tmod 20 = c) (hb : a2.tmod 5 = b) (ha : a3.tmod 12 = a)
    (b1 : -60 < q ∧ q < 60) (b2 : -20 < c ∧ c < 20) (b3 : -5 < b ∧ b < 5) (b4 : -12 < a ∧ a < 12)
    (h1 : ¬ q ≤ 51) (h0 : 0 ≤ q) :
    Calls Try.prog 8 #[.int .i64 a0, .int .i64 a1, .int .i64 a2, .int .i64 a3] w fun e w' => e = .returned (.bool true) ∧ Below w.heap.size w w' := by
  have no : ¬ PpOk ⟨false, false, b, q, c, false, false, a, 1⟩ := by unfold PpOk; simp only; omega
  have hP := putpp_no no
  have hM := maypp_is (b := false) (by cases e : mayPp ⟨false, false, b, q, c, false, false, a, 1⟩; rfl; exact absurd ((mayPp_iff _).1 e) no)
  clear no
  simp only [ppV] at hP hM
  have HP := Lib.hid hP
  have HM := Lib.hid hM
  clear hP hM
  go_enter Try.func8, Try.ntmps8
  go_wp2_with fail
  refine (awake_any w).mono ?_
  rintro e w1 ⟨rfl, hbl⟩
  have hbz := hbl.alloc hbl.size (.cells #[.bool false, .bool false, .int .i64 b, .int .i64 q, .int .i64 c, .bool false, .bool false, .int .i64 a, .int .i64 1] 43)
  have HB := Lib.hid hbz
  have KG := Lib.hid (Bk.new w1 43 #[.bool false, .bool false, .int .i64 b, .int .i64 q, .int .i64 c, .bool false, .bool false, .int .i64 a, .int .i64 1])
  clear hbl hbz
  go_wp2_with fail
  refine (HP.out _).mono ?_
  rintro e w2 ⟨rfl, hbl⟩
  replace KG := Lib.hid (KG.out.go hbl)
  replace HB := Lib.hid (HB.out.trans (hbl.mono HB.out.size))
  clear hbl hq hc hb ha
  have c0 := KG.out.cell 0
  have c1 := KG.out.cell 1
  have c2 := KG.out.cell 2
  have c3 := KG.out.cell 3
  have c4 := KG.out.cell 4
  have c5 := KG.out.cell 5
  have c6 := KG.out.cell 6
  have c7 := KG.out.cell 7
  have c8 := KG.out.cell 8
  simp at c0 c1 c2 c3 c4 c5 c6 c7 c8
  go_wp2_with fail
  
  refine (HM.out _).mono ?_
  rintro e w5 ⟨rfl, hbl⟩
  replace KG := Lib.hid (KG.out.go hbl)
  
  replace HB := Lib.hid (HB.out.trans (hbl.mono HB.out.size))
  clear hbl c0 c1 c2 c3 c4 c5 c6 c7 c8
  go_wp2_with (go_at_call 17; refine (num_any _ _).mono ?_; rintro e w' ⟨rfl, rfl⟩)
  go_ret
  exact ⟨rfl, HB.out⟩
set_option maxRecDepth 100000 in
set_option maxHeartbeats 6400000 in
theorem qps_2 (a0 : Int) (a1 : Int) (a2 : Int) (a3 : Int) (w : World) (q c b a : Int) (hq : a0.tmod 60 = q) (hc : a1.tmod 20 = c) (hb : a2.tmod 5 = b) (ha : a3.tmod 12 = a)
    (b1 : -60 < q ∧ q < 60) (b2 : -20 < c ∧ c < 20) (b3 : -5 < b ∧ b < 5) (b4 : -12 < a ∧ a < 12)
    (h2 : ¬ -12 ≤ c) (h0 : 0 ≤ q) (h1 : q ≤ 51) :
    Calls Try.prog 8 #[.int .i64 a0, .int .i64 a1, .int .i64 a2, .int .i64 a3] w fun e w' => e = .returned (.bool true) ∧ Below w.heap.size w w' := by
  have no : ¬ PpOk ⟨false, false, b, q, c, false, false, a, 1⟩ := by unfold PpOk; simp only; omega
  have hP := putpp_no no
  have hM := maypp_is (b := false) (by cases e : mayPp ⟨false, false, b, q, c, false, false, a, 1⟩; rfl; exact absurd ((mayPp_iff _).1 e) no)
  clear no
  simp only [ppV] at hP hM
  have HP := Lib.hid hP
  have HM := Lib.hid hM
  clear hP hM
  go_enter Try.func8, Try.ntmps8
  go_wp2_with fail
  refine (awake_any w).mono ?_
  rintro e w1 ⟨rfl, hbl⟩
  have hbz := hbl.alloc hbl.size (.cells #[.bool false, .bool false, .int .i64 b, .int .i64 q, .int .i64 c, .bool false, .bool false, .int .i64 a, .int .i64 1] 43)
  have HB := Lib.hid hbz
  have KG := Lib.hid (Bk.new w1 43 #[.bool false, .bool false, .int .i64 b, .int .i64 q, .int .i64 c, .bool false, .bool false, .int .i64 a, .int .i64 1])
  clear hbl hbz
  go_wp2_with fail
  refine (HP.out _).mono ?_
  rintro e w2 ⟨rfl, hbl⟩
  replace KG := Lib.hid (KG.out.go hbl)
  replace HB := Lib.hid (HB.out.trans (hbl.mono HB.out.size))
  clear hbl hq hc hb ha
  have c0 := KG.out.cell 0
  have c1 := KG.out.cell 1
  have c2 := KG.out.cell 2
  have c3 := KG.out.cell 3
  have c4 := KG.out.cell 4
  have c5 := KG.out.cell 5
  have c6 := KG.out.cell 6
  have c7 := KG.out.cell 7
  have c8 := KG.out.cell 8
  simp at c0 c1 c2 c3 c4 c5 c6 c7 c8
  go_wp2_with fail
  
  refine (HM.out _).mono ?_
  rintro e w5 ⟨rfl, hbl⟩
  replace KG := Lib.hid (KG.out.go hbl)
  
  replace HB := Lib.hid (HB.out.trans (hbl.mono HB.out.size))
  clear hbl c0 c1 c2 c3 c4 c5 c6 c7 c8
  go_wp2_with (go_at_call 17; refine (num_any _ _).mono ?_; rintro e w' ⟨rfl, rfl⟩)
  go_ret
  exact ⟨rfl, HB.out⟩
set_option maxRecDepth 100000 in
set_option maxHeartbeats 6400000 in
theorem qps_3 (a0 : Int) (a1 : Int) (a2 : Int) (a3 : Int) (w : World) (q c b a : Int) (hq : a0.tmod 60 = q) (hc : a1.tmod 20 = c) (hb : a2.tmod 5 = b) (ha : a3.tmod 12 = a)
    (b1 : -60 < q ∧ q < 60) (b2 : -20 < c ∧ c < 20) (b3 : -5 < b ∧ b < 5) (b4 : -12 < a ∧ a < 12)
    (h3 : ¬ c ≤ 12) (h0 : 0 ≤ q) (h1 : q ≤ 51) (h2 : -12 ≤ c) :
    Calls Try.prog 8 #[.int .i64 a0, .int .i64 a1, .int .i64 a2, .int .i64 a3] w fun e w' => e = .returned (.bool true) ∧ Below w.heap.size w w' := by
  have no : ¬ PpOk ⟨false, false, b, q, c, false, false, a, 1⟩ := by unfold PpOk; simp only; omega
  have hP := putpp_no no
  have hM := maypp_is (b := false) (by cases e : mayPp ⟨false, false, b, q, c, false, false, a, 1⟩; rfl; exact absurd ((mayPp_iff _).1 e) no)
  clear no
  simp only [ppV] at hP hM
  have HP := Lib.hid hP
  have HM := Lib.hid hM
  clear hP hM
  go_enter Try.func8, Try.ntmps8
  go_wp2_with fail
  refine (awake_any w).mono ?_
  rintro e w1 ⟨rfl, hbl⟩
  have hbz := hbl.alloc hbl.size (.cells #[.bool false, .bool false, .int .i64 b, .int .i64 q, .int .i64 c, .bool false, .bool false, .int .i64 a, .int .i64 1] 43)
  have HB := Lib.hid hbz
  have KG := Lib.hid (Bk.new w1 43 #[.bool false, .bool false, .int .i64 b, .int .i64 q, .int .i64 c, .bool false, .bool false, .int .i64 a, .int .i64 1])
  clear hbl hbz
  go_wp2_with fail
  refine (HP.out _).mono ?_
  rintro e w2 ⟨rfl, hbl⟩
  replace KG := Lib.hid (KG.out.go hbl)
  replace HB := Lib.hid (HB.out.trans (hbl.mono HB.out.size))
  clear hbl hq hc hb ha
  have c0 := KG.out.cell 0
  have c1 := KG.out.cell 1
  have c2 := KG.out.cell 2
  have c3 := KG.out.cell 3
  have c4 := KG.out.cell 4
  have c5 := KG.out.cell 5
  have c6 := KG.out.cell 6
  have c7 := KG.out.cell 7
  have c8 := KG.out.cell 8
  simp at c0 c1 c2 c3 c4 c5 c6 c7 c8
  go_wp2_with fail
  
  refine (HM.out _).mono ?_
  rintro e w5 ⟨rfl, hbl⟩
  replace KG := Lib.hid (KG.out.go hbl)
  
  replace HB := Lib.hid (HB.out.trans (hbl.mono HB.out.size))
  clear hbl c0 c1 c2 c3 c4 c5 c6 c7 c8
  go_wp2_with (go_at_call 17; refine (num_any _ _).mono ?_; rintro e w' ⟨rfl, rfl⟩)
  go_ret
  exact ⟨rfl, HB.out⟩
set_option maxRecDepth 100000 in
set_option maxHeartbeats 6400000 in
theorem qps_4 (a0 : Int) (a1 : Int) (a2 : Int) (a3 : Int) (w : World) (q c b a : Int) (hq : a0.tmod 60 = q) (hc : a1.tmod 20 = c) (hb : a2.tmod 5 = b) (ha : a3.tmod 12 = a)
    (b1 : -60 < q ∧ q < 60) (b2 : -20 < c ∧ c < 20) (b3 : -5 < b ∧ b < 5) (b4 : -12 < a ∧ a < 12)
    (h4 : ¬ 0 ≤ b) (h0 : 0 ≤ q) (h1 : q ≤ 51) (h2 : -12 ≤ c) (h3 : c ≤ 12) :
    Calls Try.prog 8 #[.int .i64 a0, .int .i64 a1, .int .i64 a2, .int .i64 a3] w fun e w' => e = .returned (.bool true) ∧ Below w.heap.size w w' := by
  have no : ¬ PpOk ⟨false, false, b, q, c, false, false, a, 1⟩ := by unfold PpOk; simp only; omega
  have hP := putpp_no no
  have hM := maypp_is (b := false) (by cases e : mayPp ⟨false, false, b, q, c, false, false, a, 1⟩; rfl; exact absurd ((mayPp_iff _).1 e) no)
  clear no
  simp only [ppV] at hP hM
  have HP := Lib.hid hP
  have HM := Lib.hid hM
  clear hP hM
  go_enter Try.func8, Try.ntmps8
  go_wp2_with fail
  refine (awake_any w).mono ?_
  rintro e w1 ⟨rfl, hbl⟩
  have hbz := hbl.alloc hbl.size (.cells #[.bool false, .bool false, .int .i64 b, .int .i64 q, .int .i64 c, .bool false, .bool false, .int .i64 a, .int .i64 1] 43)
  have HB := Lib.hid hbz
  have KG := Lib.hid (Bk.new w1 43 #[.bool false, .bool false, .int .i64 b, .int .i64 q, .int .i64 c, .bool false, .bool false, .int .i64 a, .int .i64 1])
  clear hbl hbz
  go_wp2_with fail
  refine (HP.out _).mono ?_
  rintro e w2 ⟨rfl, hbl⟩
  replace KG := Lib.hid (KG.out.go hbl)
  replace HB := Lib.hid (HB.out.trans (hbl.mono HB.out.size))
  clear hbl hq hc hb ha
  have c0 := KG.out.cell 0
  have c1 := KG.out.cell 1
  have c2 := KG.out.cell 2
  have c3 := KG.out.cell 3
  have c4 := KG.out.cell 4
  have c5 := KG.out.cell 5
  have c6 := KG.out.cell 6
  have c7 := KG.out.cell 7
  have c8 := KG.out.cell 8
  simp at c0 c1 c2 c3 c4 c5 c6 c7 c8
  go_wp2_with fail
  
  refine (HM.out _).mono ?_
  rintro e w5 ⟨rfl, hbl⟩
  replace KG := Lib.hid (KG.out.go hbl)
  
  replace HB := Lib.hid (HB.out.trans (hbl.mono HB.out.size))
  clear hbl c0 c1 c2 c3 c4 c5 c6 c7 c8
  go_wp2_with (go_at_call 17; refine (num_any _ _).mono ?_; rintro e w' ⟨rfl, rfl⟩)
  go_ret
  exact ⟨rfl, HB.out⟩
set_option maxRecDepth 100000 in
set_option maxHeartbeats 6400000 in
theorem qps_5 (a0 : Int) (a1 : Int) (a2 : Int) (a3 : Int) (w : World) (q c b a : Int) (hq : a0.tmod 60 = q) (hc : a1.tmod 20 = c) (hb : a2.tmod 5 = b) (ha : a3.tmod 12 = a)
    (b1 : -60 < q ∧ q < 60) (b2 : -20 < c ∧ c < 20) (b3 : -5 < b ∧ b < 5) (b4 : -12 < a ∧ a < 12)
    (h5 : ¬ b ≤ 2) (h0 : 0 ≤ q) (h1 : q ≤ 51) (h2 : -12 ≤ c) (h3 : c ≤ 12) (h4 : 0 ≤ b) :
    Calls Try.prog 8 #[.int .i64 a0, .int .i64 a1, .int .i64 a2, .int .i64 a3] w fun e w' => e = .returned (.bool true) ∧ Below w.heap.size w w' := by
  have no : ¬ PpOk ⟨false, false, b, q, c, false, false, a, 1⟩ := by unfold PpOk; simp only; omega
  have hP := putpp_no no
  have hM := maypp_is (b := false) (by cases e : mayPp ⟨false, false, b, q, c, false, false, a, 1⟩; rfl; exact absurd ((mayPp_iff _).1 e) no)
  clear no
  simp only [ppV] at hP hM
  have HP := Lib.hid hP
  have HM := Lib.hid hM
  clear hP hM
  go_enter Try.func8, Try.ntmps8
  go_wp2_with fail
  refine (awake_any w).mono ?_
  rintro e w1 ⟨rfl, hbl⟩
  have hbz := hbl.alloc hbl.size (.cells #[.bool false, .bool false, .int .i64 b, .int .i64 q, .int .i64 c, .bool false, .bool false, .int .i64 a, .int .i64 1] 43)
  have HB := Lib.hid hbz
  have KG := Lib.hid (Bk.new w1 43 #[.bool false, .bool false, .int .i64 b, .int .i64 q, .int .i64 c, .bool false, .bool false, .int .i64 a, .int .i64 1])
  clear hbl hbz
  go_wp2_with fail
  refine (HP.out _).mono ?_
  rintro e w2 ⟨rfl, hbl⟩
  replace KG := Lib.hid (KG.out.go hbl)
  replace HB := Lib.hid (HB.out.trans (hbl.mono HB.out.size))
  clear hbl hq hc hb ha
  have c0 := KG.out.cell 0
  have c1 := KG.out.cell 1
  have c2 := KG.out.cell 2
  have c3 := KG.out.cell 3
  have c4 := KG.out.cell 4
  have c5 := KG.out.cell 5
  have c6 := KG.out.cell 6
  have c7 := KG.out.cell 7
  have c8 := KG.out.cell 8
  simp at c0 c1 c2 c3 c4 c5 c6 c7 c8
  go_wp2_with fail
  
  refine (HM.out _).mono ?_
  rintro e w5 ⟨rfl, hbl⟩
  replace KG := Lib.hid (KG.out.go hbl)
  
  replace HB := Lib.hid (HB.out.trans (hbl.mono HB.out.size))
  clear hbl c0 c1 c2 c3 c4 c5 c6 c7 c8
  go_wp2_with (go_at_call 17; refine (num_any _ _).mono ?_; rintro e w' ⟨rfl, rfl⟩)
  go_ret
  exact ⟨rfl, HB.out⟩
set_option maxRecDepth 100000 in
set_option maxHeartbeats 6400000 in
theorem qps_6 (a0 : Int) (a1 : Int) (a2 : Int) (a3 : Int) (w : World) (q c b a : Int) (hq : a0.tmod 60 = q) (hc : a1.tmod 20 = c) (hb : a2.tmod 5 = b) (ha : a3.tmod 12 = a)
    (b1 : -60 < q ∧ q < 60) (b2 : -20 < c ∧ c < 20) (b3 : -5 < b ∧ b < 5) (b4 : -12 < a ∧ a < 12)
    (h6 : ¬ 1 ≤ a) (h0 : 0 ≤ q) (h1 : q ≤ 51) (h2 : -12 ≤ c) (h3 : c ≤ 12) (h4 : 0 ≤ b) (h5 : b ≤ 2) :
    Calls Try.prog 8 #[.int .i64 a0, .int .i64 a1, .int .i64 a2, .int .i64 a3] w fun e w' => e = .returned (.bool true) ∧ Below w.heap.size w w' := by
  have no : ¬ PpOk ⟨false, false, b, q, c, false, false, a, 1⟩ := by unfold PpOk; simp only; omega
  have hP := putpp_no no
  have hM := maypp_is (b := false) (by cases e : mayPp ⟨false, false, b, q, c, false, false, a, 1⟩; rfl; exact absurd ((mayPp_iff _).1 e) no)
  clear no
  simp only [ppV] at hP hM
  have HP := Lib.hid hP
  have HM := Lib.hid hM
  clear hP hM
  go_enter Try.func8, Try.ntmps8
  go_wp2_with fail
  refine (awake_any w).mono ?_
  rintro e w1 ⟨rfl, hbl⟩
  have hbz := hbl.alloc hbl.size (.cells #[.bool false, .bool false, .int .i64 b, .int .i64 q, .int .i64 c, .bool false, .bool false, .int .i64 a, .int .i64 1] 43)
  have HB := Lib.hid hbz
  have KG := Lib.hid (Bk.new w1 43 #[.bool false, .bool false, .int .i64 b, .int .i64 q, .int .i64 c, .bool false, .bool false, .int .i64 a, .int .i64 1])
  clear hbl hbz
  go_wp2_with fail
  refine (HP.out _).mono ?_
  rintro e w2 ⟨rfl, hbl⟩
  replace KG := Lib.hid (KG.out.go hbl)
  replace HB := Lib.hid (HB.out.trans (hbl.mono HB.out.size))
  clear hbl hq hc hb ha
  have c0 := KG.out.cell 0
  have c1 := KG.out.cell 1
  have c2 := KG.out.cell 2
  have c3 := KG.out.cell 3
  have c4 := KG.out.cell 4
  have c5 := KG.out.cell 5
  have c6 := KG.out.cell 6
  have c7 := KG.out.cell 7
  have c8 := KG.out.cell 8
  simp at c0 c1 c2 c3 c4 c5 c6 c7 c8
  go_wp2_with fail
  
  refine (HM.out _).mono ?_
  rintro e w5 ⟨rfl, hbl⟩
  replace KG := Lib.hid (KG.out.go hbl)
  
  replace HB := Lib.hid (HB.out.trans (hbl.mono HB.out.size))
  clear hbl c0 c1 c2 c3 c4 c5 c6 c7 c8
  go_wp2_with (go_at_call 17; refine (num_any _ _).mono ?_; rintro e w' ⟨rfl, rfl⟩)
  go_ret
  exact ⟨rfl, HB.out⟩
set_option maxRecDepth 100000 in
set_option maxHeartbeats 6400000 in
theorem qps_7 (a0 : Int) (a1 : Int) (a2 : Int) (a3 : Int) (w : World) (q c b a : Int) (hq : a0.tmod 60 = q) (hc : a1.tmod 20 = c) (hb : a2.tmod 5 = b) (ha : a3.tmod 12 = a)
    (b1 : -60 < q ∧ q < 60) (b2 : -20 < c ∧ c < 20) (b3 : -5 < b ∧ b < 5) (b4 : -12 < a ∧ a < 12)
    (h7 : ¬ a ≤ 8) (h0 : 0 ≤ q) (h1 : q ≤ 51) (h2 : -12 ≤ c) (h3 : c ≤ 12) (h4 : 0 ≤ b) (h5 : b ≤ 2) (h6 : 1 ≤ a) :
    Calls Try.prog 8 #[.int .i64 a0, .int .i64 a1, .int .i64 a2, .int .i64 a3] w fun e w' => e = .returned (.bool true) ∧ Below w.heap.size w w' := by
  have no : ¬ PpOk ⟨false, false, b, q, c, false, false, a, 1⟩ := by unfold PpOk; simp only; omega
  have hP := putpp_no no
  have hM := maypp_is (b := false) (by cases e : mayPp ⟨false, false, b, q, c, false, false, a, 1⟩; rfl; exact absurd ((mayPp_iff _).1 e) no)
  clear no
  simp only [ppV] at hP hM
  have HP := Lib.hid hP
  have HM := Lib.hid hM
  clear hP hM
  go_enter Try.func8, Try.ntmps8
  go_wp2_with fail
  refine (awake_any w).mono ?_
  rintro e w1 ⟨rfl, hbl⟩
  have hbz := hbl.alloc hbl.size (.cells #[.bool false, .bool false, .int .i64 b, .int .i64 q, .int .i64 c, .bool false, .bool false, .int .i64 a, .int .i64 1] 43)
  have HB := Lib.hid hbz
  have KG := Lib.hid (Bk.new w1 43 #[.bool false, .bool false, .int .i64 b, .int .i64 q, .int .i64 c, .bool false, .bool false, .int .i64 a, .int .i64 1])
  clear hbl hbz
  go_wp2_with fail
  refine (HP.out _).mono ?_
  rintro e w2 ⟨rfl, hbl⟩
  replace KG := Lib.hid (KG.out.go hbl)
  replace HB := Lib.hid (HB.out.trans (hbl.mono HB.out.size))
  clear hbl hq hc hb ha
  have c0 := KG.out.cell 0
  have c1 := KG.out.cell 1
  have c2 := KG.out.cell 2
  have c3 := KG.out.cell 3
  have c4 := KG.out.cell 4
  have c5 := KG.out.cell 5
  have c6 := KG.out.cell 6
  have c7 := KG.out.cell 7
  have c8 := KG.out.cell 8
  simp at c0 c1 c2 c3 c4 c5 c6 c7 c8
  go_wp2_with fail
  rotate_left; (exfalso; have hz : (!decide (a ≤ 8)) = false := by assumption); (simp at hz <;> omega)
  refine (HM.out _).mono ?_
  rintro e w5 ⟨rfl, hbl⟩
  replace KG := Lib.hid (KG.out.go hbl)
  
  replace HB := Lib.hid (HB.out.trans (hbl.mono HB.out.size))
  clear hbl c0 c1 c2 c3 c4 c5 c6 c7 c8
  go_wp2_with (go_at_call 17; refine (num_any _ _).mono ?_; rintro e w' ⟨rfl, rfl⟩)
  go_ret
  exact ⟨rfl, HB.out⟩
set_option maxRecDepth 100000 in
set_option maxHeartbeats 6400000 in
theorem qps_8 (a0 : Int) (a1 : Int) (a2 : Int) (a3 : Int) (w : World) (q c b a : Int) (hq : a0.tmod 60 = q) (hc : a1.tmod 20 = c) (hb : a2.tmod 5 = b) (ha : a3.tmod 12 = a)
    (b1 : -60 < q ∧ q < 60) (b2 : -20 < c ∧ c < 20) (b3 : -5 < b ∧ b < 5) (b4 : -12 < a ∧ a < 12)
     (h0 : 0 ≤ q) (h1 : q ≤ 51) (h2 : -12 ≤ c) (h3 : c ≤ 12) (h4 : 0 ≤ b) (h5 : b ≤ 2) (h6 : 1 ≤ a) (h7 : a ≤ 8) :
    Calls Try.prog 8 #[.int .i64 a0, .int .i64 a1, .int .i64 a2, .int .i64 a3] w fun e w' => e = .returned (.bool true) ∧ Below w.heap.size w w' := by
  have ok : PpOk ⟨false, false, b, q, c, false, false, a, 1⟩ := by unfold PpOk; simp only; omega
  have hP := putpp_yes ok
  have hM := maypp_is ((mayPp_iff _).2 ok)
  have hGt := getpp_yes ok
  generalize putPpS ⟨false, false, b, q, c, false, false, a, 1⟩ = T at hP hGt
  simp only [ppV] at hP hM hGt
  have HGt := Lib.hid hGt
  clear hGt
  
  
  
  
  have HP := Lib.hid hP
  have HM := Lib.hid hM
  clear hP hM
  go_enter Try.func8, Try.ntmps8
  go_wp2_with fail
  refine (awake_any w).mono ?_
  rintro e w1 ⟨rfl, hbl⟩
  have hbz := hbl.alloc hbl.size (.cells #[.bool false, .bool false, .int .i64 b, .int .i64 q, .int .i64 c, .bool false, .bool false, .int .i64 a, .int .i64 1] 43)
  have HB := Lib.hid hbz
  have KG := Lib.hid (Bk.new w1 43 #[.bool false, .bool false, .int .i64 b, .int .i64 q, .int .i64 c, .bool false, .bool false, .int .i64 a, .int .i64 1])
  clear hbl hbz
  go_wp2_with fail
  refine (HP.out _).mono ?_
  rintro e w2 ⟨rfl, hbl⟩
  replace KG := Lib.hid (KG.out.go hbl)
  replace HB := Lib.hid (HB.out.trans (hbl.mono HB.out.size))
  clear hbl hq hc hb ha
  have c0 := KG.out.cell 0
  have c1 := KG.out.cell 1
  have c2 := KG.out.cell 2
  have c3 := KG.out.cell 3
  have c4 := KG.out.cell 4
  have c5 := KG.out.cell 5
  have c6 := KG.out.cell 6
  have c7 := KG.out.cell 7
  have c8 := KG.out.cell 8
  simp at c0 c1 c2 c3 c4 c5 c6 c7 c8
  go_wp2_with fail
  
  refine (HGt.out _).mono ?_
  rintro e w3 ⟨rfl, hbl⟩
  replace KG := Lib.hid (KG.out.go hbl)
  replace HB := Lib.hid (HB.out.trans (hbl.mono HB.out.size))
  clear hbl c0 c1 c2 c3 c4 c5 c6 c7 c8
  have c0 := KG.out.cell 0
  have c1 := KG.out.cell 1
  have c2 := KG.out.cell 2
  have c3 := KG.out.cell 3
  have c4 := KG.out.cell 4
  have c5 := KG.out.cell 5
  have c6 := KG.out.cell 6
  have c7 := KG.out.cell 7
  have c8 := KG.out.cell 8
  simp at c0 c1 c2 c3 c4 c5 c6 c7 c8
  have hlt := KG.out.lt
  have hbz := HB.out.alloc HB.out.size (.cells #[.bool false, .bool false, .int .i64 b, .int .i64 q, .int .i64 c, .bool false, .bool false, .int .i64 a, .int .i64 1] 43)
  replace HB := Lib.hid hbz
  have KU := Lib.hid (Bk.new w3 43 #[.bool false, .bool false, .int .i64 b, .int .i64 q, .int .i64 c, .bool false, .bool false, .int .i64 a, .int .i64 1])
  replace KG := Lib.hid (KG.out.alloc (.cells #[.bool false, .bool false, .int .i64 b, .int .i64 q, .int .i64 c, .bool false, .bool false, .int .i64 a, .int .i64 1] 43))
  clear hbz
  have d0 := KG.out.cell 0
  have d1 := KG.out.cell 1
  have d2 := KG.out.cell 2
  have d3 := KG.out.cell 3
  have d4 := KG.out.cell 4
  have d5 := KG.out.cell 5
  have d6 := KG.out.cell 6
  have d7 := KG.out.cell 7
  have d8 := KG.out.cell 8
  simp at d0 d1 d2 d3 d4 d5 d6 d7 d8
  go_wp2_with fail
  clear d0 d1 d2 d3 d4 d5 d6 d7 d8
  refine (HM.out _).mono ?_
  rintro e w5 ⟨rfl, hbl⟩
  replace KG := Lib.hid (KG.out.go hbl)
  replace KU := Lib.hid (KU.out.go hbl)
  replace HB := Lib.hid (HB.out.trans (hbl.mono HB.out.size))
  clear hbl c0 c1 c2 c3 c4 c5 c6 c7 c8
  have c0 := KG.out.cell 0
  have d0 := KU.out.cell 0
  have c1 := KG.out.cell 1
  have d1 := KU.out.cell 1
  have c2 := KG.out.cell 2
  have d2 := KU.out.cell 2
  have c3 := KG.out.cell 3
  have d3 := KU.out.cell 3
  have c4 := KG.out.cell 4
  have d4 := KU.out.cell 4
  have c5 := KG.out.cell 5
  have d5 := KU.out.cell 5
  have c6 := KG.out.cell 6
  have d6 := KU.out.cell 6
  have c7 := KG.out.cell 7
  have d7 := KU.out.cell 7
  have c8 := KG.out.cell 8
  have d8 := KU.out.cell 8
  simp at c0 c1 c2 c3 c4 c5 c6 c7 c8 d0 d1 d2 d3 d4 d5 d6 d7 d8
  go_wp2_with (go_at_call 17; refine (num_any _ _).mono ?_; rintro e w' ⟨rfl, rfl⟩)
  go_ret
  exact ⟨rfl, HB.out⟩
theorem walk_ParamsQps (a0 : Int) (a1 : Int) (a2 : Int) (a3 : Int) (w : World) (w_a0 : (Lit.int .i64 a0).wf = true) (w_a1 : (Lit.int .i64 a1).wf = true) (w_a2 : (Lit.int .i64 a2).wf = true) (w_a3 : (Lit.int .i64 a3).wf = true) :
    Calls Try.prog 8 #[.int .i64 a0, .int .i64 a1, .int .i64 a2, .int .i64 a3] w fun e w' => e = .returned (.bool true) ∧ Below w.heap.size w w' := by
  obtain ⟨q, hq⟩ : ∃ q, a0.tmod 60 = q := ⟨_, rfl⟩
  obtain ⟨c, hc⟩ : ∃ q, a1.tmod 20 = q := ⟨_, rfl⟩
  obtain ⟨b, hb⟩ : ∃ q, a2.tmod 5 = q := ⟨_, rfl⟩
  obtain ⟨a, ha⟩ : ∃ q, a3.tmod 12 = q := ⟨_, rfl⟩
  have b1 := tmod_bd a0 60 (by omega)
  have b2 := tmod_bd a1 20 (by omega)
  have b3 := tmod_bd a2 5 (by omega)
  have b4 := tmod_bd a3 12 (by omega)
  rw [hq] at b1
  rw [hc] at b2
  rw [hb] at b3
  rw [ha] at b4
  by_cases h0 : 0 ≤ q
  rotate_left
  · exact qps_0 a0 a1 a2 a3 w q c b a hq hc hb ha b1 b2 b3 b4 h0 
  by_cases h1 : q ≤ 51
  rotate_left
  · exact qps_1 a0 a1 a2 a3 w q c b a hq hc hb ha b1 b2 b3 b4 h1 h0
  by_cases h2 : -12 ≤ c
  rotate_left
  · exact qps_2 a0 a1 a2 a3 w q c b a hq hc hb ha b1 b2 b3 b4 h2 h0 h1
  by_cases h3 : c ≤ 12
  rotate_left
  · exact qps_3 a0 a1 a2 a3 w q c b a hq hc hb ha b1 b2 b3 b4 h3 h0 h1 h2
  by_cases h4 : 0 ≤ b
  rotate_left
  · exact qps_4 a0 a1 a2 a3 w q c b a hq hc hb ha b1 b2 b3 b4 h4 h0 h1 h2 h3
  by_cases h5 : b ≤ 2
  rotate_left
  · exact qps_5 a0 a1 a2 a3 w q c b a hq hc hb ha b1 b2 b3 b4 h5 h0 h1 h2 h3 h4
  by_cases h6 : 1 ≤ a
  rotate_left
  · exact qps_6 a0 a1 a2 a3 w q c b a hq hc hb ha b1 b2 b3 b4 h6 h0 h1 h2 h3 h4 h5
  by_cases h7 : a ≤ 8
  rotate_left
  · exact qps_7 a0 a1 a2 a3 w q c b a hq hc hb ha b1 b2 b3 b4 h7 h0 h1 h2 h3 h4 h5 h6
  exact qps_8 a0 a1 a2 a3 w q c b a hq hc hb ha b1 b2 b3 b4 h0 h1 h2 h3 h4 h5 h6 h7
end Go.Proofs.Ytegfglpaabddlaa

namespace Go.Proofs.Ytegfglpaabddlaa
open Go.RowKit
set_option linter.unusedVariables false
set_option linter.unusedSimpArgs false

theorem SpAt.go {w w' : World} {p : Sp} {A : Option Addr} (h : SpAt w w.heap.size p A) (hb : Below w.heap.size w w') : SpAt w' w'.heap.size p A := Rd.go h hb
theorem SpAt.past {w : World} {p : Sp} {A : Option Addr} (h : SpAt w w.heap.size p A) (o : Obj) : SpAt (w.alloc o) (w.alloc o).heap.size p A := Rd.go h ((Below.refl _ _).alloc (Nat.le_refl _) o)
theorem putsp_no {p : Sp} (h : ¬ putSpE p = 0) (A : Option Addr) (c : Nat) (w : World) (hs : SpAt w w.heap.size p A) (hn : p.cy.length ≤ 1152921504606846976) :
    Calls Try.prog 11 #[.agg (spV p A c)] w fun e w' => e = .returned (.tuple #[.string ⟨#[]⟩, .int .i64 301]) ∧ Below w.heap.size w w' := by
  have := putsp_any p A c w hs hn
  unfold putSpS putSpE at this
  unfold putSpE at h
  have hm : ¬ maySp p = true := fun q => h (if_pos q)
  rw [if_neg hm, if_neg hm] at this
  exact this
theorem putsp_yes {p : Sp} (h : putSpE p = 0) (A : Option Addr) (c : Nat) (w : World) (hs : SpAt w w.heap.size p A) (hn : p.cy.length ≤ 1152921504606846976) :
    Calls Try.prog 11 #[.agg (spV p A c)] w fun e w' => e = .returned (.tuple #[.string (putSpS p), .int .i64 0]) ∧ Below w.heap.size w w' := by
  have := putsp_any p A c w hs hn
  rw [h] at this
  exact this
theorem getsp_yes {p : Sp} (h : putSpE p = 0) (w : World) :
    Calls Try.prog 13 #[.string (putSpS p)] w fun r w' => ∃ A c, r = .returned (.tuple #[.agg (spV p A c), .int .i64 0]) ∧ SpAt w' w'.heap.size p A ∧ w'.ownsRow w.heap.size 3 1 (.slice A p.cy.length c) p.cy.length (cyV p.cy) ∧ Below w.heap.size w w' :=
  getsp_is (by have := putSp_size p; omega) (sp_again h).2 w
theorem maysp_is {p : Sp} {b : Bool} (h : maySp p = b) (A : Option Addr) (c : Nat) (w : World) (hs : SpAt w w.heap.size p A) (hn : p.cy.length ≤ 1152921504606846976) :
    Calls Try.prog 15 #[.agg (spV p A c)] w fun e w' => e = .returned (.bool b) ∧ Below w.heap.size w w' := by
  subst h; exact maysp_any p A c w hs hn
theorem maySp_of {p : Sp} (h : putSpE p = 0) : maySp p = true := (maySp_iff p).2 (sp_again h).1
/-- an argument's cycle -/
theorem SpAt.arg {w : World} {A : Option Addr} {n : Nat} {z : Nat → Int} {p : Sp} (h : Ri w w.heap.size A n z) (hp : p.cy = (List.range n).map z) : SpAt w w.heap.size p A := by
  unfold SpAt
  rw [hp]
  have e : ((List.range n).map z).length = n := by simp
  rw [e]
  exact Rd.congr h fun k hk => by simp [hk]

set_option maxRecDepth 100000 in
set_option maxHeartbeats 6400000 in
theorem back_000 (s0 s1 s2 s3 s4 s5 : Int) (cy : List Int) (A : Option Addr) (c : Nat) (s7 s8 : Int) (p0 p1 : Bool) (p2 p3 p4 : Int) (p5 p6 : Bool) (p7 p8 : Int) (t : ByteArray) (w : World) (hs : SpAt w w.heap.size ⟨s0, s1, s2, s3, s4, s5, cy, s7, s8⟩ A) (hn : cy.length ≤ 1152921504606846976) (ht : t.size ≤ 140737488351232)
    (ha : ¬ putSpE ⟨s0, s1, s2, s3, s4, s5, cy, s7, s8⟩ = 0) (hb_ : ¬ putPpE ⟨p0, p1, p2, p3, p4, p5, p6, p7, p8⟩ = 0) (T : Sp) (E : Int) (hd : getSp (sbit t) (8 * t.size) = (T, E)) (hE : ¬ E = 0) :
    Calls Try.prog 5 #[.agg #[.int .i64 s0, .int .i64 s1, .int .i64 s2, .int .i64 s3, .int .i64 s4, .int .i64 s5, .slice A cy.length c, .int .i64 s7, .int .i64 s8], .agg #[.bool p0, .bool p1, .int .i64 p2, .int .i64 p3, .int .i64 p4, .bool p5, .bool p6, .int .i64 p7, .int .i64 p8], .string t] w fun e w' => e = .returned (.bool true) ∧ Below w.heap.size w w' := by
  have h1 := putsp_no ha A c
  have hr := putpp_no (fun ok => hb_ (by unfold putPpE; rw [if_pos ((mayPp_iff _).2 ok)]))
  have hG := getsp_is ht hd
  have hE' : (E != 0) = true := by simp; exact hE
  obtain ⟨q0, q1, q2, q3, q4, q5, cq, q7, q8⟩ := T
  simp only [spV, ppV] at h1 hr hG 
  have Xh1 := Lib.hid h1
  have Xhr := Lib.hid hr
  have XhG := Lib.hid hG
  have HS := Lib.hid hs
  clear hs hd ha hb_ h1 hr hG
  have HB := Lib.hid (Below.refl w.heap.size w)
  replace HS := Lib.hid (SpAt.past HS.out (.cells #[.int .i64 s0, .int .i64 s1, .int .i64 s2, .int .i64 s3, .int .i64 s4, .int .i64 s5, .slice A cy.length c, .int .i64 s7, .int .i64 s8] 24))
  replace HB := Lib.hid (HB.out.alloc HB.out.size (.cells #[.int .i64 s0, .int .i64 s1, .int .i64 s2, .int .i64 s3, .int .i64 s4, .int .i64 s5, .slice A cy.length c, .int .i64 s7, .int .i64 s8] 24))
  have Ks := Lib.hid (Bk.new w 24 #[.int .i64 s0, .int .i64 s1, .int .i64 s2, .int .i64 s3, .int .i64 s4, .int .i64 s5, .slice A cy.length c, .int .i64 s7, .int .i64 s8])
  replace Ks := Lib.hid (Ks.out.alloc (.cells #[.bool p0, .bool p1, .int .i64 p2, .int .i64 p3, .int .i64 p4, .bool p5, .bool p6, .int .i64 p7, .int .i64 p8] 43))
  replace HS := Lib.hid (SpAt.past HS.out (.cells #[.bool p0, .bool p1, .int .i64 p2, .int .i64 p3, .int .i64 p4, .bool p5, .bool p6, .int .i64 p7, .int .i64 p8] 43))
  replace HB := Lib.hid (HB.out.alloc HB.out.size (.cells #[.bool p0, .bool p1, .int .i64 p2, .int .i64 p3, .int .i64 p4, .bool p5, .bool p6, .int .i64 p7, .int .i64 p8] 43))
  have Kp := Lib.hid (Bk.new (w.alloc (.cells #[.int .i64 s0, .int .i64 s1, .int .i64 s2, .int .i64 s3, .int .i64 s4, .int .i64 s5, .slice A cy.length c, .int .i64 s7, .int .i64 s8] 24)) 43 #[.bool p0, .bool p1, .int .i64 p2, .int .i64 p3, .int .i64 p4, .bool p5, .bool p6, .int .i64 p7, .int .i64 p8])
  go_enter Try.func5, Try.ntmps5
  go_wp2_with fail
  refine (awake_any _).mono ?_
  rintro e w1 ⟨rfl, hb⟩
  replace Ks := Lib.hid (Ks.out.go hb)
  replace Kp := Lib.hid (Kp.out.go hb)
  replace HS := Lib.hid (SpAt.go HS.out hb)
  replace HB := Lib.hid (HB.out.trans (hb.mono HB.out.size))
  clear hb
  have cs_0 := Ks.out.cell 0
  have cs_1 := Ks.out.cell 1
  have cs_2 := Ks.out.cell 2
  have cs_3 := Ks.out.cell 3
  have cs_4 := Ks.out.cell 4
  have cs_5 := Ks.out.cell 5
  have cs_6 := Ks.out.cell 6
  have cs_7 := Ks.out.cell 7
  have cs_8 := Ks.out.cell 8
  simp at cs_0 cs_1 cs_2 cs_3 cs_4 cs_5 cs_6 cs_7 cs_8
  go_wp2_with fail
  clear cs_0 cs_1 cs_2 cs_3 cs_4 cs_5 cs_6 cs_7 cs_8
  refine (Xh1.out _ HS.out (by simpa using hn)).mono ?_
  rintro e w2 ⟨rfl, hb⟩
  replace Ks := Lib.hid (Ks.out.go hb)
  replace Kp := Lib.hid (Kp.out.go hb)
  replace HS := Lib.hid (SpAt.go HS.out hb)
  replace HB := Lib.hid (HB.out.trans (hb.mono HB.out.size))
  clear hb
  have cp_0 := Kp.out.cell 0
  have cp_1 := Kp.out.cell 1
  have cp_2 := Kp.out.cell 2
  have cp_3 := Kp.out.cell 3
  have cp_4 := Kp.out.cell 4
  have cp_5 := Kp.out.cell 5
  have cp_6 := Kp.out.cell 6
  have cp_7 := Kp.out.cell 7
  have cp_8 := Kp.out.cell 8
  simp at cp_0 cp_1 cp_2 cp_3 cp_4 cp_5 cp_6 cp_7 cp_8
  go_wp2_with (go_at_call 17; refine (num_any _ _).mono ?_; rintro e w' ⟨rfl, rfl⟩)
  clear cp_0 cp_1 cp_2 cp_3 cp_4 cp_5 cp_6 cp_7 cp_8
  clear HS Ks
  refine (Xhr.out _).mono ?_
  rintro e w6 ⟨rfl, hb⟩
  replace Kp := Lib.hid (Kp.out.go hb)
  replace HB := Lib.hid (HB.out.trans (hb.mono HB.out.size))
  clear hb
  clear Kp
  go_wp2_with (go_at_call 17; refine (num_any _ _).mono ?_; rintro e w' ⟨rfl, rfl⟩)
  refine (XhG.out _).mono ?_
  rintro e w9 ⟨A2, c2, rfl, hat, hown, hb⟩
  replace HB := Lib.hid (HB.out.trans (hb.mono HB.out.size))
  clear hb
  clear hat hown
  replace HB := Lib.hid (HB.out.alloc HB.out.size (.cells #[.int .i64 q0, .int .i64 q1, .int .i64 q2, .int .i64 q3, .int .i64 q4, .int .i64 q5, .slice A2 cq.length c2, .int .i64 q7, .int .i64 q8] 24))
  have Kv := Lib.hid (Bk.new w9 24 #[.int .i64 q0, .int .i64 q1, .int .i64 q2, .int .i64 q3, .int .i64 q4, .int .i64 q5, .slice A2 cq.length c2, .int .i64 q7, .int .i64 q8])
  go_wp2_with (go_at_call 17; refine (num_any _ _).mono ?_; rintro e w' ⟨rfl, rfl⟩)
  go_ret
  exact ⟨rfl, HB.out⟩
set_option maxRecDepth 100000 in
set_option maxHeartbeats 6400000 in
theorem back_001 (s0 s1 s2 s3 s4 s5 : Int) (cy : List Int) (A : Option Addr) (c : Nat) (s7 s8 : Int) (p0 p1 : Bool) (p2 p3 p4 : Int) (p5 p6 : Bool) (p7 p8 : Int) (t : ByteArray) (w : World) (hs : SpAt w w.heap.size ⟨s0, s1, s2, s3, s4, s5, cy, s7, s8⟩ A) (hn : cy.length ≤ 1152921504606846976) (ht : t.size ≤ 140737488351232)
    (ha : ¬ putSpE ⟨s0, s1, s2, s3, s4, s5, cy, s7, s8⟩ = 0) (hb_ : ¬ putPpE ⟨p0, p1, p2, p3, p4, p5, p6, p7, p8⟩ = 0) (T : Sp) (E : Int) (hd : getSp (sbit t) (8 * t.size) = (T, E)) (hE : E = 0) :
    Calls Try.prog 5 #[.agg #[.int .i64 s0, .int .i64 s1, .int .i64 s2, .int .i64 s3, .int .i64 s4, .int .i64 s5, .slice A cy.length c, .int .i64 s7, .int .i64 s8], .agg #[.bool p0, .bool p1, .int .i64 p2, .int .i64 p3, .int .i64 p4, .bool p5, .bool p6, .int .i64 p7, .int .i64 p8], .string t] w fun e w' => e = .returned (.bool true) ∧ Below w.heap.size w w' := by
  have h1 := putsp_no ha A c
  have hr := putpp_no (fun ok => hb_ (by unfold putPpE; rw [if_pos ((mayPp_iff _).2 ok)]))
  have hG := getsp_is ht hd
  subst hE
  have hst := sp_stands hd
  have hP := putsp_yes hst.2.2
  rw [hst.2.1] at hP
  have hTl := hst.1.2.2.2.2.2.2.1
  clear hst
  obtain ⟨q0, q1, q2, q3, q4, q5, cq, q7, q8⟩ := T
  simp only [spV, ppV] at h1 hr hG hP
  have Xh1 := Lib.hid h1
  have Xhr := Lib.hid hr
  have XhG := Lib.hid hG
  have XhP := Lib.hid hP
  have HS := Lib.hid hs
  clear hs hd ha hb_ h1 hr hG hP
  have HB := Lib.hid (Below.refl w.heap.size w)
  replace HS := Lib.hid (SpAt.past HS.out (.cells #[.int .i64 s0, .int .i64 s1, .int .i64 s2, .int .i64 s3, .int .i64 s4, .int .i64 s5, .slice A cy.length c, .int .i64 s7, .int .i64 s8] 24))
  replace HB := Lib.hid (HB.out.alloc HB.out.size (.cells #[.int .i64 s0, .int .i64 s1, .int .i64 s2, .int .i64 s3, .int .i64 s4, .int .i64 s5, .slice A cy.length c, .int .i64 s7, .int .i64 s8] 24))
  have Ks := Lib.hid (Bk.new w 24 #[.int .i64 s0, .int .i64 s1, .int .i64 s2, .int .i64 s3, .int .i64 s4, .int .i64 s5, .slice A cy.length c, .int .i64 s7, .int .i64 s8])
  replace Ks := Lib.hid (Ks.out.alloc (.cells #[.bool p0, .bool p1, .int .i64 p2, .int .i64 p3, .int .i64 p4, .bool p5, .bool p6, .int .i64 p7, .int .i64 p8] 43))
  replace HS := Lib.hid (SpAt.past HS.out (.cells #[.bool p0, .bool p1, .int .i64 p2, .int .i64 p3, .int .i64 p4, .bool p5, .bool p6, .int .i64 p7, .int .i64 p8] 43))
  replace HB := Lib.hid (HB.out.alloc HB.out.size (.cells #[.bool p0, .bool p1, .int .i64 p2, .int .i64 p3, .int .i64 p4, .bool p5, .bool p6, .int .i64 p7, .int .i64 p8] 43))
  have Kp := Lib.hid (Bk.new (w.alloc (.cells #[.int .i64 s0, .int .i64 s1, .int .i64 s2, .int .i64 s3, .int .i64 s4, .int .i64 s5, .slice A cy.length c, .int .i64 s7, .int .i64 s8] 24)) 43 #[.bool p0, .bool p1, .int .i64 p2, .int .i64 p3, .int .i64 p4, .bool p5, .bool p6, .int .i64 p7, .int .i64 p8])
  go_enter Try.func5, Try.ntmps5
  go_wp2_with fail
  refine (awake_any _).mono ?_
  rintro e w1 ⟨rfl, hb⟩
  replace Ks := Lib.hid (Ks.out.go hb)
  replace Kp := Lib.hid (Kp.out.go hb)
  replace HS := Lib.hid (SpAt.go HS.out hb)
  replace HB := Lib.hid (HB.out.trans (hb.mono HB.out.size))
  clear hb
  have cs_0 := Ks.out.cell 0
  have cs_1 := Ks.out.cell 1
  have cs_2 := Ks.out.cell 2
  have cs_3 := Ks.out.cell 3
  have cs_4 := Ks.out.cell 4
  have cs_5 := Ks.out.cell 5
  have cs_6 := Ks.out.cell 6
  have cs_7 := Ks.out.cell 7
  have cs_8 := Ks.out.cell 8
  simp at cs_0 cs_1 cs_2 cs_3 cs_4 cs_5 cs_6 cs_7 cs_8
  go_wp2_with fail
  clear cs_0 cs_1 cs_2 cs_3 cs_4 cs_5 cs_6 cs_7 cs_8
  refine (Xh1.out _ HS.out (by simpa using hn)).mono ?_
  rintro e w2 ⟨rfl, hb⟩
  replace Ks := Lib.hid (Ks.out.go hb)
  replace Kp := Lib.hid (Kp.out.go hb)
  replace HS := Lib.hid (SpAt.go HS.out hb)
  replace HB := Lib.hid (HB.out.trans (hb.mono HB.out.size))
  clear hb
  have cp_0 := Kp.out.cell 0
  have cp_1 := Kp.out.cell 1
  have cp_2 := Kp.out.cell 2
  have cp_3 := Kp.out.cell 3
  have cp_4 := Kp.out.cell 4
  have cp_5 := Kp.out.cell 5
  have cp_6 := Kp.out.cell 6
  have cp_7 := Kp.out.cell 7
  have cp_8 := Kp.out.cell 8
  simp at cp_0 cp_1 cp_2 cp_3 cp_4 cp_5 cp_6 cp_7 cp_8
  go_wp2_with (go_at_call 17; refine (num_any _ _).mono ?_; rintro e w' ⟨rfl, rfl⟩)
  clear cp_0 cp_1 cp_2 cp_3 cp_4 cp_5 cp_6 cp_7 cp_8
  clear HS Ks
  refine (Xhr.out _).mono ?_
  rintro e w6 ⟨rfl, hb⟩
  replace Kp := Lib.hid (Kp.out.go hb)
  replace HB := Lib.hid (HB.out.trans (hb.mono HB.out.size))
  clear hb
  clear Kp
  go_wp2_with (go_at_call 17; refine (num_any _ _).mono ?_; rintro e w' ⟨rfl, rfl⟩)
  refine (XhG.out _).mono ?_
  rintro e w9 ⟨A2, c2, rfl, hat, hown, hb⟩
  replace HB := Lib.hid (HB.out.trans (hb.mono HB.out.size))
  clear hb
  have HT := Lib.hid hat
  clear hat hown
  replace HT := Lib.hid (SpAt.past HT.out (.cells #[.int .i64 q0, .int .i64 q1, .int .i64 q2, .int .i64 q3, .int .i64 q4, .int .i64 q5, .slice A2 cq.length c2, .int .i64 q7, .int .i64 q8] 24))
  replace HB := Lib.hid (HB.out.alloc HB.out.size (.cells #[.int .i64 q0, .int .i64 q1, .int .i64 q2, .int .i64 q3, .int .i64 q4, .int .i64 q5, .slice A2 cq.length c2, .int .i64 q7, .int .i64 q8] 24))
  have Kv := Lib.hid (Bk.new w9 24 #[.int .i64 q0, .int .i64 q1, .int .i64 q2, .int .i64 q3, .int .i64 q4, .int .i64 q5, .slice A2 cq.length c2, .int .i64 q7, .int .i64 q8])
  go_wp2_with (go_at_call 17; refine (num_any _ _).mono ?_; rintro e w' ⟨rfl, rfl⟩)
  refine (XhP.out _ _ _ HT.out (by show cq.length ≤ _; have h : cq.length ≤ 4 := hTl; omega)).mono ?_
  rintro e wa ⟨rfl, hb⟩
  replace Kv := Lib.hid (Kv.out.go hb)
  replace HT := Lib.hid (SpAt.go HT.out hb)
  replace HB := Lib.hid (HB.out.trans (hb.mono HB.out.size))
  clear hb
  go_wp2_with (go_at_call 17; refine (num_any _ _).mono ?_; rintro e w' ⟨rfl, rfl⟩)
  go_ret
  exact ⟨rfl, HB.out⟩
set_option maxRecDepth 100000 in
set_option maxHeartbeats 6400000 in
theorem back_010 (s0 s1 s2 s3 s4 s5 : Int) (cy : List Int) (A : Option Addr) (c : Nat) (s7 s8 : Int) (p0 p1 : Bool) (p2 p3 p4 : Int) (p5 p6 : Bool) (p7 p8 : Int) (t : ByteArray) (w : World) (hs : SpAt w w.heap.size ⟨s0, s1, s2, s3, s4, s5, cy, s7, s8⟩ A) (hn : cy.length ≤ 1152921504606846976) (ht : t.size ≤ 140737488351232)
    (ha : ¬ putSpE ⟨s0, s1, s2, s3, s4, s5, cy, s7, s8⟩ = 0) (hb_ : putPpE ⟨p0, p1, p2, p3, p4, p5, p6, p7, p8⟩ = 0) (T : Sp) (E : Int) (hd : getSp (sbit t) (8 * t.size) = (T, E)) (hE : ¬ E = 0) :
    Calls Try.prog 5 #[.agg #[.int .i64 s0, .int .i64 s1, .int .i64 s2, .int .i64 s3, .int .i64 s4, .int .i64 s5, .slice A cy.length c, .int .i64 s7, .int .i64 s8], .agg #[.bool p0, .bool p1, .int .i64 p2, .int .i64 p3, .int .i64 p4, .bool p5, .bool p6, .int .i64 p7, .int .i64 p8], .string t] w fun e w' => e = .returned (.bool true) ∧ Below w.heap.size w w' := by
  have h1 := putsp_no ha A c
  have hr := putpp_yes (pp_again hb_).1
  have hq := getpp_yes (pp_again hb_).1
  have hm := maypp_is ((mayPp_iff _).2 (pp_again hb_).1)
  generalize putPpS ⟨p0, p1, p2, p3, p4, p5, p6, p7, p8⟩ = TP at hr hq
  have hG := getsp_is ht hd
  have hE' : (E != 0) = true := by simp; exact hE
  obtain ⟨q0, q1, q2, q3, q4, q5, cq, q7, q8⟩ := T
  simp only [spV, ppV] at h1 hr hq hm hG 
  have Xh1 := Lib.hid h1
  have Xhr := Lib.hid hr
  have Xhq := Lib.hid hq
  have Xhm := Lib.hid hm
  have XhG := Lib.hid hG
  have HS := Lib.hid hs
  clear hs hd ha hb_ h1 hr hq hm hG
  have HB := Lib.hid (Below.refl w.heap.size w)
  replace HS := Lib.hid (SpAt.past HS.out (.cells #[.int .i64 s0, .int .i64 s1, .int .i64 s2, .int .i64 s3, .int .i64 s4, .int .i64 s5, .slice A cy.length c, .int .i64 s7, .int .i64 s8] 24))
  replace HB := Lib.hid (HB.out.alloc HB.out.size (.cells #[.int .i64 s0, .int .i64 s1, .int .i64 s2, .int .i64 s3, .int .i64 s4, .int .i64 s5, .slice A cy.length c, .int .i64 s7, .int .i64 s8] 24))
  have Ks := Lib.hid (Bk.new w 24 #[.int .i64 s0, .int .i64 s1, .int .i64 s2, .int .i64 s3, .int .i64 s4, .int .i64 s5, .slice A cy.length c, .int .i64 s7, .int .i64 s8])
  replace Ks := Lib.hid (Ks.out.alloc (.cells #[.bool p0, .bool p1, .int .i64 p2, .int .i64 p3, .int .i64 p4, .bool p5, .bool p6, .int .i64 p7, .int .i64 p8] 43))
  replace HS := Lib.hid (SpAt.past HS.out (.cells #[.bool p0, .bool p1, .int .i64 p2, .int .i64 p3, .int .i64 p4, .bool p5, .bool p6, .int .i64 p7, .int .i64 p8] 43))
  replace HB := Lib.hid (HB.out.alloc HB.out.size (.cells #[.bool p0, .bool p1, .int .i64 p2, .int .i64 p3, .int .i64 p4, .bool p5, .bool p6, .int .i64 p7, .int .i64 p8] 43))
  have Kp := Lib.hid (Bk.new (w.alloc (.cells #[.int .i64 s0, .int .i64 s1, .int .i64 s2, .int .i64 s3, .int .i64 s4, .int .i64 s5, .slice A cy.length c, .int .i64 s7, .int .i64 s8] 24)) 43 #[.bool p0, .bool p1, .int .i64 p2, .int .i64 p3, .int .i64 p4, .bool p5, .bool p6, .int .i64 p7, .int .i64 p8])
  go_enter Try.func5, Try.ntmps5
  go_wp2_with fail
  refine (awake_any _).mono ?_
  rintro e w1 ⟨rfl, hb⟩
  replace Ks := Lib.hid (Ks.out.go hb)
  replace Kp := Lib.hid (Kp.out.go hb)
  replace HS := Lib.hid (SpAt.go HS.out hb)
  replace HB := Lib.hid (HB.out.trans (hb.mono HB.out.size))
  clear hb
  have cs_0 := Ks.out.cell 0
  have cs_1 := Ks.out.cell 1
  have cs_2 := Ks.out.cell 2
  have cs_3 := Ks.out.cell 3
  have cs_4 := Ks.out.cell 4
  have cs_5 := Ks.out.cell 5
  have cs_6 := Ks.out.cell 6
  have cs_7 := Ks.out.cell 7
  have cs_8 := Ks.out.cell 8
  simp at cs_0 cs_1 cs_2 cs_3 cs_4 cs_5 cs_6 cs_7 cs_8
  go_wp2_with fail
  clear cs_0 cs_1 cs_2 cs_3 cs_4 cs_5 cs_6 cs_7 cs_8
  refine (Xh1.out _ HS.out (by simpa using hn)).mono ?_
  rintro e w2 ⟨rfl, hb⟩
  replace Ks := Lib.hid (Ks.out.go hb)
  replace Kp := Lib.hid (Kp.out.go hb)
  replace HS := Lib.hid (SpAt.go HS.out hb)
  replace HB := Lib.hid (HB.out.trans (hb.mono HB.out.size))
  clear hb
  have cp_0 := Kp.out.cell 0
  have cp_1 := Kp.out.cell 1
  have cp_2 := Kp.out.cell 2
  have cp_3 := Kp.out.cell 3
  have cp_4 := Kp.out.cell 4
  have cp_5 := Kp.out.cell 5
  have cp_6 := Kp.out.cell 6
  have cp_7 := Kp.out.cell 7
  have cp_8 := Kp.out.cell 8
  simp at cp_0 cp_1 cp_2 cp_3 cp_4 cp_5 cp_6 cp_7 cp_8
  go_wp2_with (go_at_call 17; refine (num_any _ _).mono ?_; rintro e w' ⟨rfl, rfl⟩)
  clear cp_0 cp_1 cp_2 cp_3 cp_4 cp_5 cp_6 cp_7 cp_8
  clear HS Ks
  refine (Xhr.out _).mono ?_
  rintro e w6 ⟨rfl, hb⟩
  replace Kp := Lib.hid (Kp.out.go hb)
  replace HB := Lib.hid (HB.out.trans (hb.mono HB.out.size))
  clear hb
  go_wp2_with (go_at_call 17; refine (num_any _ _).mono ?_; rintro e w' ⟨rfl, rfl⟩)
  refine (Xhq.out _).mono ?_
  rintro e w7 ⟨rfl, hb⟩
  replace Kp := Lib.hid (Kp.out.go hb)
  replace HB := Lib.hid (HB.out.trans (hb.mono HB.out.size))
  clear hb
  have cp_0 := Kp.out.cell 0
  have cp_1 := Kp.out.cell 1
  have cp_2 := Kp.out.cell 2
  have cp_3 := Kp.out.cell 3
  have cp_4 := Kp.out.cell 4
  have cp_5 := Kp.out.cell 5
  have cp_6 := Kp.out.cell 6
  have cp_7 := Kp.out.cell 7
  have cp_8 := Kp.out.cell 8
  simp at cp_0 cp_1 cp_2 cp_3 cp_4 cp_5 cp_6 cp_7 cp_8
  have hltp := Kp.out.lt
  replace Kp := Lib.hid (Kp.out.alloc (.cells #[.bool p0, .bool p1, .int .i64 p2, .int .i64 p3, .int .i64 p4, .bool p5, .bool p6, .int .i64 p7, .int .i64 p8] 43))
  replace HB := Lib.hid (HB.out.alloc HB.out.size (.cells #[.bool p0, .bool p1, .int .i64 p2, .int .i64 p3, .int .i64 p4, .bool p5, .bool p6, .int .i64 p7, .int .i64 p8] 43))
  have Ku := Lib.hid (Bk.new w7 43 #[.bool p0, .bool p1, .int .i64 p2, .int .i64 p3, .int .i64 p4, .bool p5, .bool p6, .int .i64 p7, .int .i64 p8])
  have cpb_0 := Kp.out.cell 0
  have cpb_1 := Kp.out.cell 1
  have cpb_2 := Kp.out.cell 2
  have cpb_3 := Kp.out.cell 3
  have cpb_4 := Kp.out.cell 4
  have cpb_5 := Kp.out.cell 5
  have cpb_6 := Kp.out.cell 6
  have cpb_7 := Kp.out.cell 7
  have cpb_8 := Kp.out.cell 8
  simp at cpb_0 cpb_1 cpb_2 cpb_3 cpb_4 cpb_5 cpb_6 cpb_7 cpb_8
  go_wp2_with (go_at_call 17; refine (num_any _ _).mono ?_; rintro e w' ⟨rfl, rfl⟩)
  clear cp_0 cp_1 cp_2 cp_3 cp_4 cp_5 cp_6 cp_7 cp_8 hltp cpb_0 cpb_1 cpb_2 cpb_3 cpb_4 cpb_5 cpb_6 cpb_7 cpb_8
  clear Ku
  refine (Xhm.out _).mono ?_
  rintro e w8 ⟨rfl, hb⟩
  replace Kp := Lib.hid (Kp.out.go hb)
  replace HB := Lib.hid (HB.out.trans (hb.mono HB.out.size))
  clear hb
  clear Kp
  go_wp2_with (go_at_call 17; refine (num_any _ _).mono ?_; rintro e w' ⟨rfl, rfl⟩)
  refine (XhG.out _).mono ?_
  rintro e w9 ⟨A2, c2, rfl, hat, hown, hb⟩
  replace HB := Lib.hid (HB.out.trans (hb.mono HB.out.size))
  clear hb
  clear hat hown
  replace HB := Lib.hid (HB.out.alloc HB.out.size (.cells #[.int .i64 q0, .int .i64 q1, .int .i64 q2, .int .i64 q3, .int .i64 q4, .int .i64 q5, .slice A2 cq.length c2, .int .i64 q7, .int .i64 q8] 24))
  have Kv := Lib.hid (Bk.new w9 24 #[.int .i64 q0, .int .i64 q1, .int .i64 q2, .int .i64 q3, .int .i64 q4, .int .i64 q5, .slice A2 cq.length c2, .int .i64 q7, .int .i64 q8])
  go_wp2_with (go_at_call 17; refine (num_any _ _).mono ?_; rintro e w' ⟨rfl, rfl⟩)
  go_ret
  exact ⟨rfl, HB.out⟩
set_option maxRecDepth 100000 in
set_option maxHeartbeats 6400000 in
theorem back_011 (s0 s1 s2 s3 s4 s5 : Int) (cy : List Int) (A : Option Addr) (c : Nat) (s7 s8 : Int) (p0 p1 : Bool) (p2 p3 p4 : Int) (p5 p6 : Bool) (p7 p8 : Int) (t : ByteArray) (w : World) (hs : SpAt w w.heap.size ⟨s0, s1, s2, s3, s4, s5, cy, s7, s8⟩ A) (hn : cy.length ≤ 1152921504606846976) (ht : t.size ≤ 140737488351232)
    (ha : ¬ putSpE ⟨s0, s1, s2, s3, s4, s5, cy, s7, s8⟩ = 0) (hb_ : putPpE ⟨p0, p1, p2, p3, p4, p5, p6, p7, p8⟩ = 0) (T : Sp) (E : Int) (hd : getSp (sbit t) (8 * t.size) = (T, E)) (hE : E = 0) :
    Calls Try.prog 5 #[.agg #[.int .i64 s0, .int .i64 s1, .int .i64 s2, .int .i64 s3, .int .i64 s4, .int .i64 s5, .slice A cy.length c, .int .i64 s7, .int .i64 s8], .agg #[.bool p0, .bool p1, .int .i64 p2, .int .i64 p3, .int .i64 p4, .bool p5, .bool p6, .int .i64 p7, .int .i64 p8], .string t] w fun e w' => e = .returned (.bool true) ∧ Below w.heap.size w w' := by
  have h1 := putsp_no ha A c
  have hr := putpp_yes (pp_again hb_).1
  have hq := getpp_yes (pp_again hb_).1
  have hm := maypp_is ((mayPp_iff _).2 (pp_again hb_).1)
  generalize putPpS ⟨p0, p1, p2, p3, p4, p5, p6, p7, p8⟩ = TP at hr hq
  have hG := getsp_is ht hd
  subst hE
  have hst := sp_stands hd
  have hP := putsp_yes hst.2.2
  rw [hst.2.1] at hP
  have hTl := hst.1.2.2.2.2.2.2.1
  clear hst
  obtain ⟨q0, q1, q2, q3, q4, q5, cq, q7, q8⟩ := T
  simp only [spV, ppV] at h1 hr hq hm hG hP
  have Xh1 := Lib.hid h1
  have Xhr := Lib.hid hr
  have Xhq := Lib.hid hq
  have Xhm := Lib.hid hm
  have XhG := Lib.hid hG
  have XhP := Lib.hid hP
  have HS := Lib.hid hs
  clear hs hd ha hb_ h1 hr hq hm hG hP
  have HB := Lib.hid (Below.refl w.heap.size w)
  replace HS := Lib.hid (SpAt.past HS.out (.cells #[.int .i64 s0, .int .i64 s1, .int .i64 s2, .int .i64 s3, .int .i64 s4, .int .i64 s5, .slice A cy.length c, .int .i64 s7, .int .i64 s8] 24))
  replace HB := Lib.hid (HB.out.alloc HB.out.size (.cells #[.int .i64 s0, .int .i64 s1, .int .i64 s2, .int .i64 s3, .int .i64 s4, .int .i64 s5, .slice A cy.length c, .int .i64 s7, .int .i64 s8] 24))
  have Ks := Lib.hid (Bk.new w 24 #[.int .i64 s0, .int .i64 s1, .int .i64 s2, .int .i64 s3, .int .i64 s4, .int .i64 s5, .slice A cy.length c, .int .i64 s7, .int .i64 s8])
  replace Ks := Lib.hid (Ks.out.alloc (.cells #[.bool p0, .bool p1, .int .i64 p2, .int .i64 p3, .int .i64 p4, .bool p5, .bool p6, .int .i64 p7, .int .i64 p8] 43))
  replace HS := Lib.hid (SpAt.past HS.out (.cells #[.bool p0, .bool p1, .int .i64 p2, .int .i64 p3, .int .i64 p4, .bool p5, .bool p6, .int .i64 p7, .int .i64 p8] 43))
  replace HB := Lib.hid (HB.out.alloc HB.out.size (.cells #[.bool p0, .bool p1, .int .i64 p2, .int .i64 p3, .int .i64 p4, .bool p5, .bool p6, .int .i64 p7, .int .i64 p8] 43))
  have Kp := Lib.hid (Bk.new (w.alloc (.cells #[.int .i64 s0, .int .i64 s1, .int .i64 s2, .int .i64 s3, .int .i64 s4, .int .i64 s5, .slice A cy.length c, .int .i64 s7, .int .i64 s8] 24)) 43 #[.bool p0, .bool p1, .int .i64 p2, .int .i64 p3, .int .i64 p4, .bool p5, .bool p6, .int .i64 p7, .int .i64 p8])
  go_enter Try.func5, Try.ntmps5
  go_wp2_with fail
  refine (awake_any _).mono ?_
  rintro e w1 ⟨rfl, hb⟩
  replace Ks := Lib.hid (Ks.out.go hb)
  replace Kp := Lib.hid (Kp.out.go hb)
  replace HS := Lib.hid (SpAt.go HS.out hb)
  replace HB := Lib.hid (HB.out.trans (hb.mono HB.out.size))
  clear hb
  have cs_0 := Ks.out.cell 0
  have cs_1 := Ks.out.cell 1
  have cs_2 := Ks.out.cell 2
  have cs_3 := Ks.out.cell 3
  have cs_4 := Ks.out.cell 4
  have cs_5 := Ks.out.cell 5
  have cs_6 := Ks.out.cell 6
  have cs_7 := Ks.out.cell 7
  have cs_8 := Ks.out.cell 8
  simp at cs_0 cs_1 cs_2 cs_3 cs_4 cs_5 cs_6 cs_7 cs_8
  go_wp2_with fail
  clear cs_0 cs_1 cs_2 cs_3 cs_4 cs_5 cs_6 cs_7 cs_8
  refine (Xh1.out _ HS.out (by simpa using hn)).mono ?_
  rintro e w2 ⟨rfl, hb⟩
  replace Ks := Lib.hid (Ks.out.go hb)
  replace Kp := Lib.hid (Kp.out.go hb)
  replace HS := Lib.hid (SpAt.go HS.out hb)
  replace HB := Lib.hid (HB.out.trans (hb.mono HB.out.size))
  clear hb
  have cp_0 := Kp.out.cell 0
  have cp_1 := Kp.out.cell 1
  have cp_2 := Kp.out.cell 2
  have cp_3 := Kp.out.cell 3
  have cp_4 := Kp.out.cell 4
  have cp_5 := Kp.out.cell 5
  have cp_6 := Kp.out.cell 6
  have cp_7 := Kp.out.cell 7
  have cp_8 := Kp.out.cell 8
  simp at cp_0 cp_1 cp_2 cp_3 cp_4 cp_5 cp_6 cp_7 cp_8
  go_wp2_with (go_at_call 17; refine (num_any _ _).mono ?_; rintro e w' ⟨rfl, rfl⟩)
  clear cp_0 cp_1 cp_2 cp_3 cp_4 cp_5 cp_6 cp_7 cp_8
  clear HS Ks
  refine (Xhr.out _).mono ?_
  rintro e w6 ⟨rfl, hb⟩
  replace Kp := Lib.hid (Kp.out.go hb)
  replace HB := Lib.hid (HB.out.trans (hb.mono HB.out.size))
  clear hb
  go_wp2_with (go_at_call 17; refine (num_any _ _).mono ?_; rintro e w' ⟨rfl, rfl⟩)
  refine (Xhq.out _).mono ?_
  rintro e w7 ⟨rfl, hb⟩
  replace Kp := Lib.hid (Kp.out.go hb)
  replace HB := Lib.hid (HB.out.trans (hb.mono HB.out.size))
  clear hb
  have cp_0 := Kp.out.cell 0
  have cp_1 := Kp.out.cell 1
  have cp_2 := Kp.out.cell 2
  have cp_3 := Kp.out.cell 3
  have cp_4 := Kp.out.cell 4
  have cp_5 := Kp.out.cell 5
  have cp_6 := Kp.out.cell 6
  have cp_7 := Kp.out.cell 7
  have cp_8 := Kp.out.cell 8
  simp at cp_0 cp_1 cp_2 cp_3 cp_4 cp_5 cp_6 cp_7 cp_8
  have hltp := Kp.out.lt
  replace Kp := Lib.hid (Kp.out.alloc (.cells #[.bool p0, .bool p1, .int .i64 p2, .int .i64 p3, .int .i64 p4, .bool p5, .bool p6, .int .i64 p7, .int .i64 p8] 43))
  replace HB := Lib.hid (HB.out.alloc HB.out.size (.cells #[.bool p0, .bool p1, .int .i64 p2, .int .i64 p3, .int .i64 p4, .bool p5, .bool p6, .int .i64 p7, .int .i64 p8] 43))
  have Ku := Lib.hid (Bk.new w7 43 #[.bool p0, .bool p1, .int .i64 p2, .int .i64 p3, .int .i64 p4, .bool p5, .bool p6, .int .i64 p7, .int .i64 p8])
  have cpb_0 := Kp.out.cell 0
  have cpb_1 := Kp.out.cell 1
  have cpb_2 := Kp.out.cell 2
  have cpb_3 := Kp.out.cell 3
  have cpb_4 := Kp.out.cell 4
  have cpb_5 := Kp.out.cell 5
  have cpb_6 := Kp.out.cell 6
  have cpb_7 := Kp.out.cell 7
  have cpb_8 := Kp.out.cell 8
  simp at cpb_0 cpb_1 cpb_2 cpb_3 cpb_4 cpb_5 cpb_6 cpb_7 cpb_8
  go_wp2_with (go_at_call 17; refine (num_any _ _).mono ?_; rintro e w' ⟨rfl, rfl⟩)
  clear cp_0 cp_1 cp_2 cp_3 cp_4 cp_5 cp_6 cp_7 cp_8 hltp cpb_0 cpb_1 cpb_2 cpb_3 cpb_4 cpb_5 cpb_6 cpb_7 cpb_8
  clear Ku
  refine (Xhm.out _).mono ?_
  rintro e w8 ⟨rfl, hb⟩
  replace Kp := Lib.hid (Kp.out.go hb)
  replace HB := Lib.hid (HB.out.trans (hb.mono HB.out.size))
  clear hb
  clear Kp
  go_wp2_with (go_at_call 17; refine (num_any _ _).mono ?_; rintro e w' ⟨rfl, rfl⟩)
  refine (XhG.out _).mono ?_
  rintro e w9 ⟨A2, c2, rfl, hat, hown, hb⟩
  replace HB := Lib.hid (HB.out.trans (hb.mono HB.out.size))
  clear hb
  have HT := Lib.hid hat
  clear hat hown
  replace HT := Lib.hid (SpAt.past HT.out (.cells #[.int .i64 q0, .int .i64 q1, .int .i64 q2, .int .i64 q3, .int .i64 q4, .int .i64 q5, .slice A2 cq.length c2, .int .i64 q7, .int .i64 q8] 24))
  replace HB := Lib.hid (HB.out.alloc HB.out.size (.cells #[.int .i64 q0, .int .i64 q1, .int .i64 q2, .int .i64 q3, .int .i64 q4, .int .i64 q5, .slice A2 cq.length c2, .int .i64 q7, .int .i64 q8] 24))
  have Kv := Lib.hid (Bk.new w9 24 #[.int .i64 q0, .int .i64 q1, .int .i64 q2, .int .i64 q3, .int .i64 q4, .int .i64 q5, .slice A2 cq.length c2, .int .i64 q7, .int .i64 q8])
  go_wp2_with (go_at_call 17; refine (num_any _ _).mono ?_; rintro e w' ⟨rfl, rfl⟩)
  refine (XhP.out _ _ _ HT.out (by show cq.length ≤ _; have h : cq.length ≤ 4 := hTl; omega)).mono ?_
  rintro e wa ⟨rfl, hb⟩
  replace Kv := Lib.hid (Kv.out.go hb)
  replace HT := Lib.hid (SpAt.go HT.out hb)
  replace HB := Lib.hid (HB.out.trans (hb.mono HB.out.size))
  clear hb
  go_wp2_with (go_at_call 17; refine (num_any _ _).mono ?_; rintro e w' ⟨rfl, rfl⟩)
  go_ret
  exact ⟨rfl, HB.out⟩
set_option maxRecDepth 100000 in
set_option maxHeartbeats 6400000 in
theorem back_100 (s0 s1 s2 s3 s4 s5 : Int) (cy : List Int) (A : Option Addr) (c : Nat) (s7 s8 : Int) (p0 p1 : Bool) (p2 p3 p4 : Int) (p5 p6 : Bool) (p7 p8 : Int) (t : ByteArray) (w : World) (hs : SpAt w w.heap.size ⟨s0, s1, s2, s3, s4, s5, cy, s7, s8⟩ A) (hn : cy.length ≤ 1152921504606846976) (ht : t.size ≤ 140737488351232)
    (ha : putSpE ⟨s0, s1, s2, s3, s4, s5, cy, s7, s8⟩ = 0) (hb_ : ¬ putPpE ⟨p0, p1, p2, p3, p4, p5, p6, p7, p8⟩ = 0) (T : Sp) (E : Int) (hd : getSp (sbit t) (8 * t.size) = (T, E)) (hE : ¬ E = 0) :
    Calls Try.prog 5 #[.agg #[.int .i64 s0, .int .i64 s1, .int .i64 s2, .int .i64 s3, .int .i64 s4, .int .i64 s5, .slice A cy.length c, .int .i64 s7, .int .i64 s8], .agg #[.bool p0, .bool p1, .int .i64 p2, .int .i64 p3, .int .i64 p4, .bool p5, .bool p6, .int .i64 p7, .int .i64 p8], .string t] w fun e w' => e = .returned (.bool true) ∧ Below w.heap.size w w' := by
  have h1 := putsp_yes ha A c
  have h2 := getsp_yes ha
  have h3 := maysp_is (maySp_of ha) A c
  have h4 := fun C e w hs1 hs2 => samesps_yes ⟨s0, s1, s2, s3, s4, s5, cy, s7, s8⟩ C A e c w hs1 hs2 hn
  have hsz := putSp_size ⟨s0, s1, s2, s3, s4, s5, cy, s7, s8⟩
  generalize putSpS ⟨s0, s1, s2, s3, s4, s5, cy, s7, s8⟩ = TS at h1 h2 hsz
  have hr := putpp_no (fun ok => hb_ (by unfold putPpE; rw [if_pos ((mayPp_iff _).2 ok)]))
  have hG := getsp_is ht hd
  have hE' : (E != 0) = true := by simp; exact hE
  obtain ⟨q0, q1, q2, q3, q4, q5, cq, q7, q8⟩ := T
  simp only [spV, ppV] at h1 h2 h3 h4 hr hG 
  have Xh1 := Lib.hid h1
  have Xh2 := Lib.hid h2
  have Xh3 := Lib.hid h3
  have Xh4 := Lib.hid h4
  have Xhr := Lib.hid hr
  have XhG := Lib.hid hG
  have HS := Lib.hid hs
  clear hs hd ha hb_ h1 h2 h3 h4 hr hG
  have HB := Lib.hid (Below.refl w.heap.size w)
  replace HS := Lib.hid (SpAt.past HS.out (.cells #[.int .i64 s0, .int .i64 s1, .int .i64 s2, .int .i64 s3, .int .i64 s4, .int .i64 s5, .slice A cy.length c, .int .i64 s7, .int .i64 s8] 24))
  replace HB := Lib.hid (HB.out.alloc HB.out.size (.cells #[.int .i64 s0, .int .i64 s1, .int .i64 s2, .int .i64 s3, .int .i64 s4, .int .i64 s5, .slice A cy.length c, .int .i64 s7, .int .i64 s8] 24))
  have Ks := Lib.hid (Bk.new w 24 #[.int .i64 s0, .int .i64 s1, .int .i64 s2, .int .i64 s3, .int .i64 s4, .int .i64 s5, .slice A cy.length c, .int .i64 s7, .int .i64 s8])
  replace Ks := Lib.hid (Ks.out.alloc (.cells #[.bool p0, .bool p1, .int .i64 p2, .int .i64 p3, .int .i64 p4, .bool p5, .bool p6, .int .i64 p7, .int .i64 p8] 43))
  replace HS := Lib.hid (SpAt.past HS.out (.cells #[.bool p0, .bool p1, .int .i64 p2, .int .i64 p3, .int .i64 p4, .bool p5, .bool p6, .int .i64 p7, .int .i64 p8] 43))
  replace HB := Lib.hid (HB.out.alloc HB.out.size (.cells #[.bool p0, .bool p1, .int .i64 p2, .int .i64 p3, .int .i64 p4, .bool p5, .bool p6, .int .i64 p7, .int .i64 p8] 43))
  have Kp := Lib.hid (Bk.new (w.alloc (.cells #[.int .i64 s0, .int .i64 s1, .int .i64 s2, .int .i64 s3, .int .i64 s4, .int .i64 s5, .slice A cy.length c, .int .i64 s7, .int .i64 s8] 24)) 43 #[.bool p0, .bool p1, .int .i64 p2, .int .i64 p3, .int .i64 p4, .bool p5, .bool p6, .int .i64 p7, .int .i64 p8])
  go_enter Try.func5, Try.ntmps5
  go_wp2_with fail
  refine (awake_any _).mono ?_
  rintro e w1 ⟨rfl, hb⟩
  replace Ks := Lib.hid (Ks.out.go hb)
  replace Kp := Lib.hid (Kp.out.go hb)
  replace HS := Lib.hid (SpAt.go HS.out hb)
  replace HB := Lib.hid (HB.out.trans (hb.mono HB.out.size))
  clear hb
  have cs_0 := Ks.out.cell 0
  have cs_1 := Ks.out.cell 1
  have cs_2 := Ks.out.cell 2
  have cs_3 := Ks.out.cell 3
  have cs_4 := Ks.out.cell 4
  have cs_5 := Ks.out.cell 5
  have cs_6 := Ks.out.cell 6
  have cs_7 := Ks.out.cell 7
  have cs_8 := Ks.out.cell 8
  simp at cs_0 cs_1 cs_2 cs_3 cs_4 cs_5 cs_6 cs_7 cs_8
  go_wp2_with fail
  clear cs_0 cs_1 cs_2 cs_3 cs_4 cs_5 cs_6 cs_7 cs_8
  refine (Xh1.out _ HS.out (by simpa using hn)).mono ?_
  rintro e w2 ⟨rfl, hb⟩
  replace Ks := Lib.hid (Ks.out.go hb)
  replace Kp := Lib.hid (Kp.out.go hb)
  replace HS := Lib.hid (SpAt.go HS.out hb)
  replace HB := Lib.hid (HB.out.trans (hb.mono HB.out.size))
  clear hb
  go_wp2_with (go_at_call 17; refine (num_any _ _).mono ?_; rintro e w' ⟨rfl, rfl⟩)
  refine (Xh2.out _).mono ?_
  rintro e w3 ⟨A1, c1, rfl, hat, hown, hb⟩
  replace Ks := Lib.hid (Ks.out.go hb)
  replace Kp := Lib.hid (Kp.out.go hb)
  replace HS := Lib.hid (SpAt.go HS.out hb)
  replace HB := Lib.hid (HB.out.trans (hb.mono HB.out.size))
  clear hb
  have HT := Lib.hid hat
  clear hat hown
  have cs_0 := Ks.out.cell 0
  have cs_1 := Ks.out.cell 1
  have cs_2 := Ks.out.cell 2
  have cs_3 := Ks.out.cell 3
  have cs_4 := Ks.out.cell 4
  have cs_5 := Ks.out.cell 5
  have cs_6 := Ks.out.cell 6
  have cs_7 := Ks.out.cell 7
  have cs_8 := Ks.out.cell 8
  simp at cs_0 cs_1 cs_2 cs_3 cs_4 cs_5 cs_6 cs_7 cs_8
  have hlts := Ks.out.lt
  replace Ks := Lib.hid (Ks.out.alloc (.cells #[.int .i64 s0, .int .i64 s1, .int .i64 s2, .int .i64 s3, .int .i64 s4, .int .i64 s5, .slice A1 cy.length c1, .int .i64 s7, .int .i64 s8] 24))
  replace Kp := Lib.hid (Kp.out.alloc (.cells #[.int .i64 s0, .int .i64 s1, .int .i64 s2, .int .i64 s3, .int .i64 s4, .int .i64 s5, .slice A1 cy.length c1, .int .i64 s7, .int .i64 s8] 24))
  replace HS := Lib.hid (SpAt.past HS.out (.cells #[.int .i64 s0, .int .i64 s1, .int .i64 s2, .int .i64 s3, .int .i64 s4, .int .i64 s5, .slice A1 cy.length c1, .int .i64 s7, .int .i64 s8] 24))
  replace HT := Lib.hid (SpAt.past HT.out (.cells #[.int .i64 s0, .int .i64 s1, .int .i64 s2, .int .i64 s3, .int .i64 s4, .int .i64 s5, .slice A1 cy.length c1, .int .i64 s7, .int .i64 s8] 24))
  replace HB := Lib.hid (HB.out.alloc HB.out.size (.cells #[.int .i64 s0, .int .i64 s1, .int .i64 s2, .int .i64 s3, .int .i64 s4, .int .i64 s5, .slice A1 cy.length c1, .int .i64 s7, .int .i64 s8] 24))
  have Kt := Lib.hid (Bk.new w3 24 #[.int .i64 s0, .int .i64 s1, .int .i64 s2, .int .i64 s3, .int .i64 s4, .int .i64 s5, .slice A1 cy.length c1, .int .i64 s7, .int .i64 s8])
  have csb_0 := Ks.out.cell 0
  have csb_1 := Ks.out.cell 1
  have csb_2 := Ks.out.cell 2
  have csb_3 := Ks.out.cell 3
  have csb_4 := Ks.out.cell 4
  have csb_5 := Ks.out.cell 5
  have csb_6 := Ks.out.cell 6
  have csb_7 := Ks.out.cell 7
  have csb_8 := Ks.out.cell 8
  simp at csb_0 csb_1 csb_2 csb_3 csb_4 csb_5 csb_6 csb_7 csb_8
  go_wp2_with (go_at_call 17; refine (num_any _ _).mono ?_; rintro e w' ⟨rfl, rfl⟩)
  clear cs_0 cs_1 cs_2 cs_3 cs_4 cs_5 cs_6 cs_7 cs_8 hlts csb_0 csb_1 csb_2 csb_3 csb_4 csb_5 csb_6 csb_7 csb_8
  refine (Xh4.out _ _ _ HT.out HS.out).mono ?_
  rintro e w4 ⟨rfl, hb⟩
  replace Ks := Lib.hid (Ks.out.go hb)
  replace Kp := Lib.hid (Kp.out.go hb)
  replace Kt := Lib.hid (Kt.out.go hb)
  replace HS := Lib.hid (SpAt.go HS.out hb)
  replace HT := Lib.hid (SpAt.go HT.out hb)
  replace HB := Lib.hid (HB.out.trans (hb.mono HB.out.size))
  clear hb
  clear HT Kt
  have cs_0 := Ks.out.cell 0
  have cs_1 := Ks.out.cell 1
  have cs_2 := Ks.out.cell 2
  have cs_3 := Ks.out.cell 3
  have cs_4 := Ks.out.cell 4
  have cs_5 := Ks.out.cell 5
  have cs_6 := Ks.out.cell 6
  have cs_7 := Ks.out.cell 7
  have cs_8 := Ks.out.cell 8
  simp at cs_0 cs_1 cs_2 cs_3 cs_4 cs_5 cs_6 cs_7 cs_8
  go_wp2_with fail
  clear cs_0 cs_1 cs_2 cs_3 cs_4 cs_5 cs_6 cs_7 cs_8
  refine (Xh3.out _ HS.out (by simpa using hn)).mono ?_
  rintro e w5 ⟨rfl, hb⟩
  replace Ks := Lib.hid (Ks.out.go hb)
  replace Kp := Lib.hid (Kp.out.go hb)
  replace HS := Lib.hid (SpAt.go HS.out hb)
  replace HB := Lib.hid (HB.out.trans (hb.mono HB.out.size))
  clear hb
  have cp_0 := Kp.out.cell 0
  have cp_1 := Kp.out.cell 1
  have cp_2 := Kp.out.cell 2
  have cp_3 := Kp.out.cell 3
  have cp_4 := Kp.out.cell 4
  have cp_5 := Kp.out.cell 5
  have cp_6 := Kp.out.cell 6
  have cp_7 := Kp.out.cell 7
  have cp_8 := Kp.out.cell 8
  simp at cp_0 cp_1 cp_2 cp_3 cp_4 cp_5 cp_6 cp_7 cp_8
  go_wp2_with fail
  clear cp_0 cp_1 cp_2 cp_3 cp_4 cp_5 cp_6 cp_7 cp_8
  clear HS Ks
  refine (Xhr.out _).mono ?_
  rintro e w6 ⟨rfl, hb⟩
  replace Kp := Lib.hid (Kp.out.go hb)
  replace HB := Lib.hid (HB.out.trans (hb.mono HB.out.size))
  clear hb
  clear Kp
  go_wp2_with (go_at_call 17; refine (num_any _ _).mono ?_; rintro e w' ⟨rfl, rfl⟩)
  refine (XhG.out _).mono ?_
  rintro e w9 ⟨A2, c2, rfl, hat, hown, hb⟩
  replace HB := Lib.hid (HB.out.trans (hb.mono HB.out.size))
  clear hb
  clear hat hown
  replace HB := Lib.hid (HB.out.alloc HB.out.size (.cells #[.int .i64 q0, .int .i64 q1, .int .i64 q2, .int .i64 q3, .int .i64 q4, .int .i64 q5, .slice A2 cq.length c2, .int .i64 q7, .int .i64 q8] 24))
  have Kv := Lib.hid (Bk.new w9 24 #[.int .i64 q0, .int .i64 q1, .int .i64 q2, .int .i64 q3, .int .i64 q4, .int .i64 q5, .slice A2 cq.length c2, .int .i64 q7, .int .i64 q8])
  go_wp2_with (go_at_call 17; refine (num_any _ _).mono ?_; rintro e w' ⟨rfl, rfl⟩)
  go_ret
  exact ⟨rfl, HB.out⟩
set_option maxRecDepth 100000 in
set_option maxHeartbeats 6400000 in
theorem back_101 (s0 s1 s2 s3 s4 s5 : Int) (cy : List Int) (A : Option Addr) (c : Nat) (s7 s8 : Int) (p0 p1 : Bool) (p2 p3 p4 : Int) (p5 p6 : Bool) (p7 p8 : Int) (t : ByteArray) (w : World) (hs : SpAt w w.heap.size ⟨s0, s1, s2, s3, s4, s5, cy, s7, s8⟩ A) (hn : cy.length ≤ 1152921504606846976) (ht : t.size ≤ 140737488351232)
    (ha : putSpE ⟨s0, s1, s2, s3, s4, s5, cy, s7, s8⟩ = 0) (hb_ : ¬ putPpE ⟨p0, p1, p2, p3, p4, p5, p6, p7, p8⟩ = 0) (T : Sp) (E : Int) (hd : getSp (sbit t) (8 * t.size) = (T, E)) (hE : E = 0) :
    Calls Try.prog 5 #[.agg #[.int .i64 s0, .int .i64 s1, .int .i64 s2, .int .i64 s3, .int .i64 s4, .int .i64 s5, .slice A cy.length c, .int .i64 s7, .int .i64 s8], .agg #[.bool p0, .bool p1, .int .i64 p2, .int .i64 p3, .int .i64 p4, .bool p5, .bool p6, .int .i64 p7, .int .i64 p8], .string t] w fun e w' => e = .returned (.bool true) ∧ Below w.heap.size w w' := by
  have h1 := putsp_yes ha A c
  have h2 := getsp_yes ha
  have h3 := maysp_is (maySp_of ha) A c
  have h4 := fun C e w hs1 hs2 => samesps_yes ⟨s0, s1, s2, s3, s4, s5, cy, s7, s8⟩ C A e c w hs1 hs2 hn
  have hsz := putSp_size ⟨s0, s1, s2, s3, s4, s5, cy, s7, s8⟩
  generalize putSpS ⟨s0, s1, s2, s3, s4, s5, cy, s7, s8⟩ = TS at h1 h2 hsz
  have hr := putpp_no (fun ok => hb_ (by unfold putPpE; rw [if_pos ((mayPp_iff _).2 ok)]))
  have hG := getsp_is ht hd
  subst hE
  have hst := sp_stands hd
  have hP := putsp_yes hst.2.2
  rw [hst.2.1] at hP
  have hTl := hst.1.2.2.2.2.2.2.1
  clear hst
  obtain ⟨q0, q1, q2, q3, q4, q5, cq, q7, q8⟩ := T
  simp only [spV, ppV] at h1 h2 h3 h4 hr hG hP
  have Xh1 := Lib.hid h1
  have Xh2 := Lib.hid h2
  have Xh3 := Lib.hid h3
  have Xh4 := Lib.hid h4
  have Xhr := Lib.hid hr
  have XhG := Lib.hid hG
  have XhP := Lib.hid hP
  have HS := Lib.hid hs
  clear hs hd ha hb_ h1 h2 h3 h4 hr hG hP
  have HB := Lib.hid (Below.refl w.heap.size w)
  replace HS := Lib.hid (SpAt.past HS.out (.cells #[.int .i64 s0, .int .i64 s1, .int .i64 s2, .int .i64 s3, .int .i64 s4, .int .i64 s5, .slice A cy.length c, .int .i64 s7, .int .i64 s8] 24))
  replace HB := Lib.hid (HB.out.alloc HB.out.size (.cells #[.int .i64 s0, .int .i64 s1, .int .i64 s2, .int .i64 s3, .int .i64 s4, .int .i64 s5, .slice A cy.length c, .int .i64 s7, .int .i64 s8] 24))
  have Ks := Lib.hid (Bk.new w 24 #[.int .i64 s0, .int .i64 s1, .int .i64 s2, .int .i64 s3, .int .i64 s4, .int .i64 s5, .slice A cy.length c, .int .i64 s7, .int .i64 s8])
  replace Ks := Lib.hid (Ks.out.alloc (.cells #[.bool p0, .bool p1, .int .i64 p2, .int .i64 p3, .int .i64 p4, .bool p5, .bool p6, .int .i64 p7, .int .i64 p8] 43))
  replace HS := Lib.hid (SpAt.past HS.out (.cells #[.bool p0, .bool p1, .int .i64 p2, .int .i64 p3, .int .i64 p4, .bool p5, .bool p6, .int .i64 p7, .int .i64 p8] 43))
  replace HB := Lib.hid (HB.out.alloc HB.out.size (.cells #[.bool p0, .bool p1, .int .i64 p2, .int .i64 p3, .int .i64 p4, .bool p5, .bool p6, .int .i64 p7, .int .i64 p8] 43))
  have Kp := Lib.hid (Bk.new (w.alloc (.cells #[.int .i64 s0, .int .i64 s1, .int .i64 s2, .int .i64 s3, .int .i64 s4, .int .i64 s5, .slice A cy.length c, .int .i64 s7, .int .i64 s8] 24)) 43 #[.bool p0, .bool p1, .int .i64 p2, .int .i64 p3, .int .i64 p4, .bool p5, .bool p6, .int .i64 p7, .int .i64 p8])
  go_enter Try.func5, Try.ntmps5
  go_wp2_with fail
  refine (awake_any _).mono ?_
  rintro e w1 ⟨rfl, hb⟩
  replace Ks := Lib.hid (Ks.out.go hb)
  replace Kp := Lib.hid (Kp.out.go hb)
  replace HS := Lib.hid (SpAt.go HS.out hb)
  replace HB := Lib.hid (HB.out.trans (hb.mono HB.out.size))
  clear hb
  have cs_0 := Ks.out.cell 0
  have cs_1 := Ks.out.cell 1
  have cs_2 := Ks.out.cell 2
  have cs_3 := Ks.out.cell 3
  have cs_4 := Ks.out.cell 4
  have cs_5 := Ks.out.cell 5
  have cs_6 := Ks.out.cell 6
  have cs_7 := Ks.out.cell 7
  have cs_8 := Ks.out.cell 8
  simp at cs_0 cs_1 cs_2 cs_3 cs_4 cs_5 cs_6 cs_7 cs_8
  go_wp2_with fail
  clear cs_0 cs_1 cs_2 cs_3 cs_4 cs_5 cs_6 cs_7 cs_8
  refine (Xh1.out _ HS.out (by simpa using hn)).mono ?_
  rintro e w2 ⟨rfl, hb⟩
  replace Ks := Lib.hid (Ks.out.go hb)
  replace Kp := Lib.hid (Kp.out.go hb)
  replace HS := Lib.hid (SpAt.go HS.out hb)
  replace HB := Lib.hid (HB.out.trans (hb.mono HB.out.size))
  clear hb
  go_wp2_with (go_at_call 17; refine (num_any _ _).mono ?_; rintro e w' ⟨rfl, rfl⟩)
  refine (Xh2.out _).mono ?_
  rintro e w3 ⟨A1, c1, rfl, hat, hown, hb⟩
  replace Ks := Lib.hid (Ks.out.go hb)
  replace Kp := Lib.hid (Kp.out.go hb)
  replace HS := Lib.hid (SpAt.go HS.out hb)
  replace HB := Lib.hid (HB.out.trans (hb.mono HB.out.size))
  clear hb
  have HT := Lib.hid hat
  clear hat hown
  have cs_0 := Ks.out.cell 0
  have cs_1 := Ks.out.cell 1
  have cs_2 := Ks.out.cell 2
  have cs_3 := Ks.out.cell 3
  have cs_4 := Ks.out.cell 4
  have cs_5 := Ks.out.cell 5
  have cs_6 := Ks.out.cell 6
  have cs_7 := Ks.out.cell 7
  have cs_8 := Ks.out.cell 8
  simp at cs_0 cs_1 cs_2 cs_3 cs_4 cs_5 cs_6 cs_7 cs_8
  have hlts := Ks.out.lt
  replace Ks := Lib.hid (Ks.out.alloc (.cells #[.int .i64 s0, .int .i64 s1, .int .i64 s2, .int .i64 s3, .int .i64 s4, .int .i64 s5, .slice A1 cy.length c1, .int .i64 s7, .int .i64 s8] 24))
  replace Kp := Lib.hid (Kp.out.alloc (.cells #[.int .i64 s0, .int .i64 s1, .int .i64 s2, .int .i64 s3, .int .i64 s4, .int .i64 s5, .slice A1 cy.length c1, .int .i64 s7, .int .i64 s8] 24))
  replace HS := Lib.hid (SpAt.past HS.out (.cells #[.int .i64 s0, .int .i64 s1, .int .i64 s2, .int .i64 s3, .int .i64 s4, .int .i64 s5, .slice A1 cy.length c1, .int .i64 s7, .int .i64 s8] 24))
  replace HT := Lib.hid (SpAt.past HT.out (.cells #[.int .i64 s0, .int .i64 s1, .int .i64 s2, .int .i64 s3, .int .i64 s4, .int .i64 s5, .slice A1 cy.length c1, .int .i64 s7, .int .i64 s8] 24))
  replace HB := Lib.hid (HB.out.alloc HB.out.size (.cells #[.int .i64 s0, .int .i64 s1, .int .i64 s2, .int .i64 s3, .int .i64 s4, .int .i64 s5, .slice A1 cy.length c1, .int .i64 s7, .int .i64 s8] 24))
  have Kt := Lib.hid (Bk.new w3 24 #[.int .i64 s0, .int .i64 s1, .int .i64 s2, .int .i64 s3, .int .i64 s4, .int .i64 s5, .slice A1 cy.length c1, .int .i64 s7, .int .i64 s8])
  have csb_0 := Ks.out.cell 0
  have csb_1 := Ks.out.cell 1
  have csb_2 := Ks.out.cell 2
  have csb_3 := Ks.out.cell 3
  have csb_4 := Ks.out.cell 4
  have csb_5 := Ks.out.cell 5
  have csb_6 := Ks.out.cell 6
  have csb_7 := Ks.out.cell 7
  have csb_8 := Ks.out.cell 8
  simp at csb_0 csb_1 csb_2 csb_3 csb_4 csb_5 csb_6 csb_7 csb_8
  go_wp2_with (go_at_call 17; refine (num_any _ _).mono ?_; rintro e w' ⟨rfl, rfl⟩)
  clear cs_0 cs_1 cs_2 cs_3 cs_4 cs_5 cs_6 cs_7 cs_8 hlts csb_0 csb_1 csb_2 csb_3 csb_4 csb_5 csb_6 csb_7 csb_8
  refine (Xh4.out _ _ _ HT.out HS.out).mono ?_
  rintro e w4 ⟨rfl, hb⟩
  replace Ks := Lib.hid (Ks.out.go hb)
  replace Kp := Lib.hid (Kp.out.go hb)
  replace Kt := Lib.hid (Kt.out.go hb)
  replace HS := Lib.hid (SpAt.go HS.out hb)
  replace HT := Lib.hid (SpAt.go HT.out hb)
  replace HB := Lib.hid (HB.out.trans (hb.mono HB.out.size))
  clear hb
  clear HT Kt
  have cs_0 := Ks.out.cell 0
  have cs_1 := Ks.out.cell 1
  have cs_2 := Ks.out.cell 2
  have cs_3 := Ks.out.cell 3
  have cs_4 := Ks.out.cell 4
  have cs_5 := Ks.out.cell 5
  have cs_6 := Ks.out.cell 6
  have cs_7 := Ks.out.cell 7
  have cs_8 := Ks.out.cell 8
  simp at cs_0 cs_1 cs_2 cs_3 cs_4 cs_5 cs_6 cs_7 cs_8
  go_wp2_with fail
  clear cs_0 cs_1 cs_2 cs_3 cs_4 cs_5 cs_6 cs_7 cs_8
  refine (Xh3.out _ HS.out (by simpa using hn)).mono ?_
  rintro e w5 ⟨rfl, hb⟩
  replace Ks := Lib.hid (Ks.out.go hb)
  replace Kp := Lib.hid (Kp.out.go hb)
  replace HS := Lib.hid (SpAt.go HS.out hb)
  replace HB := Lib.hid (HB.out.trans (hb.mono HB.out.size))
  clear hb
  have cp_0 := Kp.out.cell 0
  have cp_1 := Kp.out.cell 1
  have cp_2 := Kp.out.cell 2
  have cp_3 := Kp.out.cell 3
  have cp_4 := Kp.out.cell 4
  have cp_5 := Kp.out.cell 5
  have cp_6 := Kp.out.cell 6
  have cp_7 := Kp.out.cell 7
  have cp_8 := Kp.out.cell 8
  simp at cp_0 cp_1 cp_2 cp_3 cp_4 cp_5 cp_6 cp_7 cp_8
  go_wp2_with fail
  clear cp_0 cp_1 cp_2 cp_3 cp_4 cp_5 cp_6 cp_7 cp_8
  clear HS Ks
  refine (Xhr.out _).mono ?_
  rintro e w6 ⟨rfl, hb⟩
  replace Kp := Lib.hid (Kp.out.go hb)
  replace HB := Lib.hid (HB.out.trans (hb.mono HB.out.size))
  clear hb
  clear Kp
  go_wp2_with (go_at_call 17; refine (num_any _ _).mono ?_; rintro e w' ⟨rfl, rfl⟩)
  refine (XhG.out _).mono ?_
  rintro e w9 ⟨A2, c2, rfl, hat, hown, hb⟩
  replace HB := Lib.hid (HB.out.trans (hb.mono HB.out.size))
  clear hb
  have HT := Lib.hid hat
  clear hat hown
  replace HT := Lib.hid (SpAt.past HT.out (.cells #[.int .i64 q0, .int .i64 q1, .int .i64 q2, .int .i64 q3, .int .i64 q4, .int .i64 q5, .slice A2 cq.length c2, .int .i64 q7, .int .i64 q8] 24))
  replace HB := Lib.hid (HB.out.alloc HB.out.size (.cells #[.int .i64 q0, .int .i64 q1, .int .i64 q2, .int .i64 q3, .int .i64 q4, .int .i64 q5, .slice A2 cq.length c2, .int .i64 q7, .int .i64 q8] 24))
  have Kv := Lib.hid (Bk.new w9 24 #[.int .i64 q0, .int .i64 q1, .int .i64 q2, .int .i64 q3, .int .i64 q4, .int .i64 q5, .slice A2 cq.length c2, .int .i64 q7, .int .i64 q8])
  go_wp2_with (go_at_call 17; refine (num_any _ _).mono ?_; rintro e w' ⟨rfl, rfl⟩)
  refine (XhP.out _ _ _ HT.out (by show cq.length ≤ _; have h : cq.length ≤ 4 := hTl; omega)).mono ?_
  rintro e wa ⟨rfl, hb⟩
  replace Kv := Lib.hid (Kv.out.go hb)
  replace HT := Lib.hid (SpAt.go HT.out hb)
  replace HB := Lib.hid (HB.out.trans (hb.mono HB.out.size))
  clear hb
  go_wp2_with (go_at_call 17; refine (num_any _ _).mono ?_; rintro e w' ⟨rfl, rfl⟩)
  go_ret
  exact ⟨rfl, HB.out⟩
set_option maxRecDepth 100000 in
set_option maxHeartbeats 6400000 in
theorem back_110 (s0 s1 s2 s3 s4 s5 : Int) (cy : List Int) (A : Option Addr) (c : Nat) (s7 s8 : Int) (p0 p1 : Bool) (p2 p3 p4 : Int) (p5 p6 : Bool) (p7 p8 : Int) (t : ByteArray) (w : World) (hs : SpAt w w.heap.size ⟨s0, s1, s2, s3, s4, s5, cy, s7, s8⟩ A) (hn : cy.length ≤ 1152921504606846976) (ht : t.size ≤ 140737488351232)
    (ha : putSpE ⟨s0, s1, s2, s3, s4, s5, cy, s7, s8⟩ = 0) (hb_ : putPpE ⟨p0, p1, p2, p3, p4, p5, p6, p7, p8⟩ = 0) (T : Sp) (E : Int) (hd : getSp (sbit t) (8 * t.size) = (T, E)) (hE : ¬ E = 0) :
    Calls Try.prog 5 #[.agg #[.int .i64 s0, .int .i64 s1, .int .i64 s2, .int .i64 s3, .int .i64 s4, .int .i64 s5, .slice A cy.length c, .int .i64 s7, .int .i64 s8], .agg #[.bool p0, .bool p1, .int .i64 p2, .int .i64 p3, .int .i64 p4, .bool p5, .bool p6, .int .i64 p7, .int .i64 p8], .string t] w fun e w' => e = .returned (.bool true) ∧ Below w.heap.size w w' := by
  have h1 := putsp_yes ha A c
  have h2 := getsp_yes ha
  have h3 := maysp_is (maySp_of ha) A c
  have h4 := fun C e w hs1 hs2 => samesps_yes ⟨s0, s1, s2, s3, s4, s5, cy, s7, s8⟩ C A e c w hs1 hs2 hn
  have hsz := putSp_size ⟨s0, s1, s2, s3, s4, s5, cy, s7, s8⟩
  generalize putSpS ⟨s0, s1, s2, s3, s4, s5, cy, s7, s8⟩ = TS at h1 h2 hsz
  have hr := putpp_yes (pp_again hb_).1
  have hq := getpp_yes (pp_again hb_).1
  have hm := maypp_is ((mayPp_iff _).2 (pp_again hb_).1)
  generalize putPpS ⟨p0, p1, p2, p3, p4, p5, p6, p7, p8⟩ = TP at hr hq
  have hG := getsp_is ht hd
  have hE' : (E != 0) = true := by simp; exact hE
  obtain ⟨q0, q1, q2, q3, q4, q5, cq, q7, q8⟩ := T
  simp only [spV, ppV] at h1 h2 h3 h4 hr hq hm hG 
  have Xh1 := Lib.hid h1
  have Xh2 := Lib.hid h2
  have Xh3 := Lib.hid h3
  have Xh4 := Lib.hid h4
  have Xhr := Lib.hid hr
  have Xhq := Lib.hid hq
  have Xhm := Lib.hid hm
  have XhG := Lib.hid hG
  have HS := Lib.hid hs
  clear hs hd ha hb_ h1 h2 h3 h4 hr hq hm hG
  have HB := Lib.hid (Below.refl w.heap.size w)
  replace HS := Lib.hid (SpAt.past HS.out (.cells #[.int .i64 s0, .int .i64 s1, .int .i64 s2, .int .i64 s3, .int .i64 s4, .int .i64 s5, .slice A cy.length c, .int .i64 s7, .int .i64 s8] 24))
  replace HB := Lib.hid (HB.out.alloc HB.out.size (.cells #[.int .i64 s0, .int .i64 s1, .int .i64 s2, .int .i64 s3, .int .i64 s4, .int .i64 s5, .slice A cy.length c, .int .i64 s7, .int .i64 s8] 24))
  have Ks := Lib.hid (Bk.new w 24 #[.int .i64 s0, .int .i64 s1, .int .i64 s2, .int .i64 s3, .int .i64 s4, .int .i64 s5, .slice A cy.length c, .int .i64 s7, .int .i64 s8])
  replace Ks := Lib.hid (Ks.out.alloc (.cells #[.bool p0, .bool p1, .int .i64 p2, .int .i64 p3, .int .i64 p4, .bool p5, .bool p6, .int .i64 p7, .int .i64 p8] 43))
  replace HS := Lib.hid (SpAt.past HS.out (.cells #[.bool p0, .bool p1, .int .i64 p2, .int .i64 p3, .int .i64 p4, .bool p5, .bool p6, .int .i64 p7, .int .i64 p8] 43))
  replace HB := Lib.hid (HB.out.alloc HB.out.size (.cells #[.bool p0, .bool p1, .int .i64 p2, .int .i64 p3, .int .i64 p4, .bool p5, .bool p6, .int .i64 p7, .int .i64 p8] 43))
  have Kp := Lib.hid (Bk.new (w.alloc (.cells #[.int .i64 s0, .int .i64 s1, .int .i64 s2, .int .i64 s3, .int .i64 s4, .int .i64 s5, .slice A cy.length c, .int .i64 s7, .int .i64 s8] 24)) 43 #[.bool p0, .bool p1, .int .i64 p2, .int .i64 p3, .int .i64 p4, .bool p5, .bool p6, .int .i64 p7, .int .i64 p8])
  go_enter Try.func5, Try.ntmps5
  go_wp2_with fail
  refine (awake_any _).mono ?_
  rintro e w1 ⟨rfl, hb⟩
  replace Ks := Lib.hid (Ks.out.go hb)
  replace Kp := Lib.hid (Kp.out.go hb)
  replace HS := Lib.hid (SpAt.go HS.out hb)
  replace HB := Lib.hid (HB.out.trans (hb.mono HB.out.size))
  clear hb
  have cs_0 := Ks.out.cell 0
  have cs_1 := Ks.out.cell 1
  have cs_2 := Ks.out.cell 2
  have cs_3 := Ks.out.cell 3
  have cs_4 := Ks.out.cell 4
  have cs_5 := Ks.out.cell 5
  have cs_6 := Ks.out.cell 6
  have cs_7 := Ks.out.cell 7
  have cs_8 := Ks.out.cell 8
  simp at cs_0 cs_1 cs_2 cs_3 cs_4 cs_5 cs_6 cs_7 cs_8
  go_wp2_with fail
  clear cs_0 cs_1 cs_2 cs_3 cs_4 cs_5 cs_6 cs_7 cs_8
  refine (Xh1.out _ HS.out (by simpa using hn)).mono ?_
  rintro e w2 ⟨rfl, hb⟩
  replace Ks := Lib.hid (Ks.out.go hb)
  replace Kp := Lib.hid (Kp.out.go hb)
  replace HS := Lib.hid (SpAt.go HS.out hb)
  replace HB := Lib.hid (HB.out.trans (hb.mono HB.out.size))
  clear hb
  go_wp2_with (go_at_call 17; refine (num_any _ _).mono ?_; rintro e w' ⟨rfl, rfl⟩)
  refine (Xh2.out _).mono ?_
  rintro e w3 ⟨A1, c1, rfl, hat, hown, hb⟩
  replace Ks := Lib.hid (Ks.out.go hb)
  replace Kp := Lib.hid (Kp.out.go hb)
  replace HS := Lib.hid (SpAt.go HS.out hb)
  replace HB := Lib.hid (HB.out.trans (hb.mono HB.out.size))
  clear hb
  have HT := Lib.hid hat
  clear hat hown
  have cs_0 := Ks.out.cell 0
  have cs_1 := Ks.out.cell 1
  have cs_2 := Ks.out.cell 2
  have cs_3 := Ks.out.cell 3
  have cs_4 := Ks.out.cell 4
  have cs_5 := Ks.out.cell 5
  have cs_6 := Ks.out.cell 6
  have cs_7 := Ks.out.cell 7
  have cs_8 := Ks.out.cell 8
  simp at cs_0 cs_1 cs_2 cs_3 cs_4 cs_5 cs_6 cs_7 cs_8
  have hlts := Ks.out.lt
  replace Ks := Lib.hid (Ks.out.alloc (.cells #[.int .i64 s0, .int .i64 s1, .int .i64 s2, .int .i64 s3, .int .i64 s4, .int .i64 s5, .slice A1 cy.length c1, .int .i64 s7, .int .i64 s8] 24))
  replace Kp := Lib.hid (Kp.out.alloc (.cells #[.int .i64 s0, .int .i64 s1, .int .i64 s2, .int .i64 s3, .int .i64 s4, .int .i64 s5, .slice A1 cy.length c1, .int .i64 s7, .int .i64 s8] 24))
  replace HS := Lib.hid (SpAt.past HS.out (.cells #[.int .i64 s0, .int .i64 s1, .int .i64 s2, .int .i64 s3, .int .i64 s4, .int .i64 s5, .slice A1 cy.length c1, .int .i64 s7, .int .i64 s8] 24))
  replace HT := Lib.hid (SpAt.past HT.out (.cells #[.int .i64 s0, .int .i64 s1, .int .i64 s2, .int .i64 s3, .int .i64 s4, .int .i64 s5, .slice A1 cy.length c1, .int .i64 s7, .int .i64 s8] 24))
  replace HB := Lib.hid (HB.out.alloc HB.out.size (.cells #[.int .i64 s0, .int .i64 s1, .int .i64 s2, .int .i64 s3, .int .i64 s4, .int .i64 s5, .slice A1 cy.length c1, .int .i64 s7, .int .i64 s8] 24))
  have Kt := Lib.hid (Bk.new w3 24 #[.int .i64 s0, .int .i64 s1, .int .i64 s2, .int .i64 s3, .int .i64 s4, .int .i64 s5, .slice A1 cy.length c1, .int .i64 s7, .int .i64 s8])
  have csb_0 := Ks.out.cell 0
  have csb_1 := Ks.out.cell 1
  have csb_2 := Ks.out.cell 2
  have csb_3 := Ks.out.cell 3
  have csb_4 := Ks.out.cell 4
  have csb_5 := Ks.out.cell 5
  have csb_6 := Ks.out.cell 6
  have csb_7 := Ks.out.cell 7
  have csb_8 := Ks.out.cell 8
  simp at csb_0 csb_1 csb_2 csb_3 csb_4 csb_5 csb_6 csb_7 csb_8
  go_wp2_with (go_at_call 17; refine (num_any _ _).mono ?_; rintro e w' ⟨rfl, rfl⟩)
  clear cs_0 cs_1 cs_2 cs_3 cs_4 cs_5 cs_6 cs_7 cs_8 hlts csb_0 csb_1 csb_2 csb_3 csb_4 csb_5 csb_6 csb_7 csb_8
  refine (Xh4.out _ _ _ HT.out HS.out).mono ?_
  rintro e w4 ⟨rfl, hb⟩
  replace Ks := Lib.hid (Ks.out.go hb)
  replace Kp := Lib.hid (Kp.out.go hb)
  replace Kt := Lib.hid (Kt.out.go hb)
  replace HS := Lib.hid (SpAt.go HS.out hb)
  replace HT := Lib.hid (SpAt.go HT.out hb)
  replace HB := Lib.hid (HB.out.trans (hb.mono HB.out.size))
  clear hb
  clear HT Kt
  have cs_0 := Ks.out.cell 0
  have cs_1 := Ks.out.cell 1
  have cs_2 := Ks.out.cell 2
  have cs_3 := Ks.out.cell 3
  have cs_4 := Ks.out.cell 4
  have cs_5 := Ks.out.cell 5
  have cs_6 := Ks.out.cell 6
  have cs_7 := Ks.out.cell 7
  have cs_8 := Ks.out.cell 8
  simp at cs_0 cs_1 cs_2 cs_3 cs_4 cs_5 cs_6 cs_7 cs_8
  go_wp2_with fail
  clear cs_0 cs_1 cs_2 cs_3 cs_4 cs_5 cs_6 cs_7 cs_8
  refine (Xh3.out _ HS.out (by simpa using hn)).mono ?_
  rintro e w5 ⟨rfl, hb⟩
  replace Ks := Lib.hid (Ks.out.go hb)
  replace Kp := Lib.hid (Kp.out.go hb)
  replace HS := Lib.hid (SpAt.go HS.out hb)
  replace HB := Lib.hid (HB.out.trans (hb.mono HB.out.size))
  clear hb
  have cp_0 := Kp.out.cell 0
  have cp_1 := Kp.out.cell 1
  have cp_2 := Kp.out.cell 2
  have cp_3 := Kp.out.cell 3
  have cp_4 := Kp.out.cell 4
  have cp_5 := Kp.out.cell 5
  have cp_6 := Kp.out.cell 6
  have cp_7 := Kp.out.cell 7
  have cp_8 := Kp.out.cell 8
  simp at cp_0 cp_1 cp_2 cp_3 cp_4 cp_5 cp_6 cp_7 cp_8
  go_wp2_with fail
  clear cp_0 cp_1 cp_2 cp_3 cp_4 cp_5 cp_6 cp_7 cp_8
  clear HS Ks
  refine (Xhr.out _).mono ?_
  rintro e w6 ⟨rfl, hb⟩
  replace Kp := Lib.hid (Kp.out.go hb)
  replace HB := Lib.hid (HB.out.trans (hb.mono HB.out.size))
  clear hb
  go_wp2_with (go_at_call 17; refine (num_any _ _).mono ?_; rintro e w' ⟨rfl, rfl⟩)
  refine (Xhq.out _).mono ?_
  rintro e w7 ⟨rfl, hb⟩
  replace Kp := Lib.hid (Kp.out.go hb)
  replace HB := Lib.hid (HB.out.trans (hb.mono HB.out.size))
  clear hb
  have cp_0 := Kp.out.cell 0
  have cp_1 := Kp.out.cell 1
  have cp_2 := Kp.out.cell 2
  have cp_3 := Kp.out.cell 3
  have cp_4 := Kp.out.cell 4
  have cp_5 := Kp.out.cell 5
  have cp_6 := Kp.out.cell 6
  have cp_7 := Kp.out.cell 7
  have cp_8 := Kp.out.cell 8
  simp at cp_0 cp_1 cp_2 cp_3 cp_4 cp_5 cp_6 cp_7 cp_8
  have hltp := Kp.out.lt
  replace Kp := Lib.hid (Kp.out.alloc (.cells #[.bool p0, .bool p1, .int .i64 p2, .int .i64 p3, .int .i64 p4, .bool p5, .bool p6, .int .i64 p7, .int .i64 p8] 43))
  replace HB := Lib.hid (HB.out.alloc HB.out.size (.cells #[.bool p0, .bool p1, .int .i64 p2, .int .i64 p3, .int .i64 p4, .bool p5, .bool p6, .int .i64 p7, .int .i64 p8] 43))
  have Ku := Lib.hid (Bk.new w7 43 #[.bool p0, .bool p1, .int .i64 p2, .int .i64 p3, .int .i64 p4, .bool p5, .bool p6, .int .i64 p7, .int .i64 p8])
  have cpb_0 := Kp.out.cell 0
  have cpb_1 := Kp.out.cell 1
  have cpb_2 := Kp.out.cell 2
  have cpb_3 := Kp.out.cell 3
  have cpb_4 := Kp.out.cell 4
  have cpb_5 := Kp.out.cell 5
  have cpb_6 := Kp.out.cell 6
  have cpb_7 := Kp.out.cell 7
  have cpb_8 := Kp.out.cell 8
  simp at cpb_0 cpb_1 cpb_2 cpb_3 cpb_4 cpb_5 cpb_6 cpb_7 cpb_8
  go_wp2_with (go_at_call 17; refine (num_any _ _).mono ?_; rintro e w' ⟨rfl, rfl⟩)
  clear cp_0 cp_1 cp_2 cp_3 cp_4 cp_5 cp_6 cp_7 cp_8 hltp cpb_0 cpb_1 cpb_2 cpb_3 cpb_4 cpb_5 cpb_6 cpb_7 cpb_8
  clear Ku
  refine (Xhm.out _).mono ?_
  rintro e w8 ⟨rfl, hb⟩
  replace Kp := Lib.hid (Kp.out.go hb)
  replace HB := Lib.hid (HB.out.trans (hb.mono HB.out.size))
  clear hb
  clear Kp
  go_wp2_with (go_at_call 17; refine (num_any _ _).mono ?_; rintro e w' ⟨rfl, rfl⟩)
  refine (XhG.out _).mono ?_
  rintro e w9 ⟨A2, c2, rfl, hat, hown, hb⟩
  replace HB := Lib.hid (HB.out.trans (hb.mono HB.out.size))
  clear hb
  clear hat hown
  replace HB := Lib.hid (HB.out.alloc HB.out.size (.cells #[.int .i64 q0, .int .i64 q1, .int .i64 q2, .int .i64 q3, .int .i64 q4, .int .i64 q5, .slice A2 cq.length c2, .int .i64 q7, .int .i64 q8] 24))
  have Kv := Lib.hid (Bk.new w9 24 #[.int .i64 q0, .int .i64 q1, .int .i64 q2, .int .i64 q3, .int .i64 q4, .int .i64 q5, .slice A2 cq.length c2, .int .i64 q7, .int .i64 q8])
  go_wp2_with (go_at_call 17; refine (num_any _ _).mono ?_; rintro e w' ⟨rfl, rfl⟩)
  go_ret
  exact ⟨rfl, HB.out⟩
set_option maxRecDepth 100000 in
set_option maxHeartbeats 6400000 in
theorem back_111 (s0 s1 s2 s3 s4 s5 : Int) (cy : List Int) (A : Option Addr) (c : Nat) (s7 s8 : Int) (p0 p1 : Bool) (p2 p3 p4 : Int) (p5 p6 : Bool) (p7 p8 : Int) (t : ByteArray) (w : World) (hs : SpAt w w.heap.size ⟨s0, s1, s2, s3, s4, s5, cy, s7, s8⟩ A) (hn : cy.length ≤ 1152921504606846976) (ht : t.size ≤ 140737488351232)
    (ha : putSpE ⟨s0, s1, s2, s3, s4, s5, cy, s7, s8⟩ = 0) (hb_ : putPpE ⟨p0, p1, p2, p3, p4, p5, p6, p7, p8⟩ = 0) (T : Sp) (E : Int) (hd : getSp (sbit t) (8 * t.size) = (T, E)) (hE : E = 0) :
    Calls Try.prog 5 #[.agg #[.int .i64 s0, .int .i64 s1, .int .i64 s2, .int .i64 s3, .int .i64 s4, .int .i64 s5, .slice A cy.length c, .int .i64 s7, .int .i64 s8], .agg #[.bool p0, .bool p1, .int .i64 p2, .int .i64 p3, .int .i64 p4, .bool p5, .bool p6, .int .i64 p7, .int .i64 p8], .string t] w fun e w' => e = .returned (.bool true) ∧ Below w.heap.size w w' := by
  have h1 := putsp_yes ha A c
  have h2 := getsp_yes ha
  have h3 := maysp_is (maySp_of ha) A c
  have h4 := fun C e w hs1 hs2 => samesps_yes ⟨s0, s1, s2, s3, s4, s5, cy, s7, s8⟩ C A e c w hs1 hs2 hn
  have hsz := putSp_size ⟨s0, s1, s2, s3, s4, s5, cy, s7, s8⟩
  generalize putSpS ⟨s0, s1, s2, s3, s4, s5, cy, s7, s8⟩ = TS at h1 h2 hsz
  have hr := putpp_yes (pp_again hb_).1
  have hq := getpp_yes (pp_again hb_).1
  have hm := maypp_is ((mayPp_iff _).2 (pp_again hb_).1)
  generalize putPpS ⟨p0, p1, p2, p3, p4, p5, p6, p7, p8⟩ = TP at hr hq
  have hG := getsp_is ht hd
  subst hE
  have hst := sp_stands hd
  have hP := putsp_yes hst.2.2
  rw [hst.2.1] at hP
  have hTl := hst.1.2.2.2.2.2.2.1
  clear hst
  obtain ⟨q0, q1, q2, q3, q4, q5, cq, q7, q8⟩ := T
  simp only [spV, ppV] at h1 h2 h3 h4 hr hq hm hG hP
  have Xh1 := Lib.hid h1
  have Xh2 := Lib.hid h2
  have Xh3 := Lib.hid h3
  have Xh4 := Lib.hid h4
  have Xhr := Lib.hid hr
  have Xhq := Lib.hid hq
  have Xhm := Lib.hid hm
  have XhG := Lib.hid hG
  have XhP := Lib.hid hP
  have HS := Lib.hid hs
  clear hs hd ha hb_ h1 h2 h3 h4 hr hq hm hG hP
  have HB := Lib.hid (Below.refl w.heap.size w)
  replace HS := Lib.hid (SpAt.past HS.out (.cells #[.int .i64 s0, .int .i64 s1, .int .i64 s2, .int .i64 s3, .int .i64 s4, .int .i64 s5, .slice A cy.length c, .int .i64 s7, .int .i64 s8] 24))
  replace HB := Lib.hid (HB.out.alloc HB.out.size (.cells #[.int .i64 s0, .int .i64 s1, .int .i64 s2, .int .i64 s3, .int .i64 s4, .int .i64 s5, .slice A cy.length c, .int .i64 s7, .int .i64 s8] 24))
  have Ks := Lib.hid (Bk.new w 24 #[.int .i64 s0, .int .i64 s1, .int .i64 s2, .int .i64 s3, .int .i64 s4, .int .i64 s5, .slice A cy.length c, .int .i64 s7, .int .i64 s8])
  replace Ks := Lib.hid (Ks.out.alloc (.cells #[.bool p0, .bool p1, .int .i64 p2, .int .i64 p3, .int .i64 p4, .bool p5, .bool p6, .int .i64 p7, .int .i64 p8] 43))
  replace HS := Lib.hid (SpAt.past HS.out (.cells #[.bool p0, .bool p1, .int .i64 p2, .int .i64 p3, .int .i64 p4, .bool p5, .bool p6, .int .i64 p7, .int .i64 p8] 43))
  replace HB := Lib.hid (HB.out.alloc HB.out.size (.cells #[.bool p0, .bool p1, .int .i64 p2, .int .i64 p3, .int .i64 p4, .bool p5, .bool p6, .int .i64 p7, .int .i64 p8] 43))
  have Kp := Lib.hid (Bk.new (w.alloc (.cells #[.int .i64 s0, .int .i64 s1, .int .i64 s2, .int .i64 s3, .int .i64 s4, .int .i64 s5, .slice A cy.length c, .int .i64 s7, .int .i64 s8] 24)) 43 #[.bool p0, .bool p1, .int .i64 p2, .int .i64 p3, .int .i64 p4, .bool p5, .bool p6, .int .i64 p7, .int .i64 p8])
  go_enter Try.func5, Try.ntmps5
  go_wp2_with fail
  refine (awake_any _).mono ?_
  rintro e w1 ⟨rfl, hb⟩
  replace Ks := Lib.hid (Ks.out.go hb)
  replace Kp := Lib.hid (Kp.out.go hb)
  replace HS := Lib.hid (SpAt.go HS.out hb)
  replace HB := Lib.hid (HB.out.trans (hb.mono HB.out.size))
  clear hb
  have cs_0 := Ks.out.cell 0
  have cs_1 := Ks.out.cell 1
  have cs_2 := Ks.out.cell 2
  have cs_3 := Ks.out.cell 3
  have cs_4 := Ks.out.cell 4
  have cs_5 := Ks.out.cell 5
  have cs_6 := Ks.out.cell 6
  have cs_7 := Ks.out.cell 7
  have cs_8 := Ks.out.cell 8
  simp at cs_0 cs_1 cs_2 cs_3 cs_4 cs_5 cs_6 cs_7 cs_8
  go_wp2_with fail
  clear cs_0 cs_1 cs_2 cs_3 cs_4 cs_5 cs_6 cs_7 cs_8
  refine (Xh1.out _ HS.out (by simpa using hn)).mono ?_
  rintro e w2 ⟨rfl, hb⟩
  replace Ks := Lib.hid (Ks.out.go hb)
  replace Kp := Lib.hid (Kp.out.go hb)
  replace HS := Lib.hid (SpAt.go HS.out hb)
  replace HB := Lib.hid (HB.out.trans (hb.mono HB.out.size))
  clear hb
  go_wp2_with (go_at_call 17; refine (num_any _ _).mono ?_; rintro e w' ⟨rfl, rfl⟩)
  refine (Xh2.out _).mono ?_
  rintro e w3 ⟨A1, c1, rfl, hat, hown, hb⟩
  replace Ks := Lib.hid (Ks.out.go hb)
  replace Kp := Lib.hid (Kp.out.go hb)
  replace HS := Lib.hid (SpAt.go HS.out hb)
  replace HB := Lib.hid (HB.out.trans (hb.mono HB.out.size))
  clear hb
  have HT := Lib.hid hat
  clear hat hown
  have cs_0 := Ks.out.cell 0
  have cs_1 := Ks.out.cell 1
  have cs_2 := Ks.out.cell 2
  have cs_3 := Ks.out.cell 3
  have cs_4 := Ks.out.cell 4
  have cs_5 := Ks.out.cell 5
  have cs_6 := Ks.out.cell 6
  have cs_7 := Ks.out.cell 7
  have cs_8 := Ks.out.cell 8
  simp at cs_0 cs_1 cs_2 cs_3 cs_4 cs_5 cs_6 cs_7 cs_8
  have hlts := Ks.out.lt
  replace Ks := Lib.hid (Ks.out.alloc (.cells #[.int .i64 s0, .int .i64 s1, .int .i64 s2, .int .i64 s3, .int .i64 s4, .int .i64 s5, .slice A1 cy.length c1, .int .i64 s7, .int .i64 s8] 24))
  replace Kp := Lib.hid (Kp.out.alloc (.cells #[.int .i64 s0, .int .i64 s1, .int .i64 s2, .int .i64 s3, .int .i64 s4, .int .i64 s5, .slice A1 cy.length c1, .int .i64 s7, .int .i64 s8] 24))
  replace HS := Lib.hid (SpAt.past HS.out (.cells #[.int .i64 s0, .int .i64 s1, .int .i64 s2, .int .i64 s3, .int .i64 s4, .int .i64 s5, .slice A1 cy.length c1, .int .i64 s7, .int .i64 s8] 24))
  replace HT := Lib.hid (SpAt.past HT.out (.cells #[.int .i64 s0, .int .i64 s1, .int .i64 s2, .int .i64 s3, .int .i64 s4, .int .i64 s5, .slice A1 cy.length c1, .int .i64 s7, .int .i64 s8] 24))
  replace HB := Lib.hid (HB.out.alloc HB.out.size (.cells #[.int .i64 s0, .int .i64 s1, .int .i64 s2, .int .i64 s3, .int .i64 s4, .int .i64 s5, .slice A1 cy.length c1, .int .i64 s7, .int .i64 s8] 24))
  have Kt := Lib.hid (Bk.new w3 24 #[.int .i64 s0, .int .i64 s1, .int .i64 s2, .int .i64 s3, .int .i64 s4, .int .i64 s5, .slice A1 cy.length c1, .int .i64 s7, .int .i64 s8])
  have csb_0 := Ks.out.cell 0
  have csb_1 := Ks.out.cell 1
  have csb_2 := Ks.out.cell 2
  have csb_3 := Ks.out.cell 3
  have csb_4 := Ks.out.cell 4
  have csb_5 := Ks.out.cell 5
  have csb_6 := Ks.out.cell 6
  have csb_7 := Ks.out.cell 7
  have csb_8 := Ks.out.cell 8
  simp at csb_0 csb_1 csb_2 csb_3 csb_4 csb_5 csb_6 csb_7 csb_8
  go_wp2_with (go_at_call 17; refine (num_any _ _).mono ?_; rintro e w' ⟨rfl, rfl⟩)
  clear cs_0 cs_1 cs_2 cs_3 cs_4 cs_5 cs_6 cs_7 cs_8 hlts csb_0 csb_1 csb_2 csb_3 csb_4 csb_5 csb_6 csb_7 csb_8
  refine (Xh4.out _ _ _ HT.out HS.out).mono ?_
  rintro e w4 ⟨rfl, hb⟩
  replace Ks := Lib.hid (Ks.out.go hb)
  replace Kp := Lib.hid (Kp.out.go hb)
  replace Kt := Lib.hid (Kt.out.go hb)
  replace HS := Lib.hid (SpAt.go HS.out hb)
  replace HT := Lib.hid (SpAt.go HT.out hb)
  replace HB := Lib.hid (HB.out.trans (hb.mono HB.out.size))
  clear hb
  clear HT Kt
  have cs_0 := Ks.out.cell 0
  have cs_1 := Ks.out.cell 1
  have cs_2 := Ks.out.cell 2
  have cs_3 := Ks.out.cell 3
  have cs_4 := Ks.out.cell 4
  have cs_5 := Ks.out.cell 5
  have cs_6 := Ks.out.cell 6
  have cs_7 := Ks.out.cell 7
  have cs_8 := Ks.out.cell 8
  simp at cs_0 cs_1 cs_2 cs_3 cs_4 cs_5 cs_6 cs_7 cs_8
  go_wp2_with fail
  clear cs_0 cs_1 cs_2 cs_3 cs_4 cs_5 cs_6 cs_7 cs_8
  refine (Xh3.out _ HS.out (by simpa using hn)).mono ?_
  rintro e w5 ⟨rfl, hb⟩
  replace Ks := Lib.hid (Ks.out.go hb)
  replace Kp := Lib.hid (Kp.out.go hb)
  replace HS := Lib.hid (SpAt.go HS.out hb)
  replace HB := Lib.hid (HB.out.trans (hb.mono HB.out.size))
  clear hb
  have cp_0 := Kp.out.cell 0
  have cp_1 := Kp.out.cell 1
  have cp_2 := Kp.out.cell 2
  have cp_3 := Kp.out.cell 3
  have cp_4 := Kp.out.cell 4
  have cp_5 := Kp.out.cell 5
  have cp_6 := Kp.out.cell 6
  have cp_7 := Kp.out.cell 7
  have cp_8 := Kp.out.cell 8
  simp at cp_0 cp_1 cp_2 cp_3 cp_4 cp_5 cp_6 cp_7 cp_8
  go_wp2_with fail
  clear cp_0 cp_1 cp_2 cp_3 cp_4 cp_5 cp_6 cp_7 cp_8
  clear HS Ks
  refine (Xhr.out _).mono ?_
  rintro e w6 ⟨rfl, hb⟩
  replace Kp := Lib.hid (Kp.out.go hb)
  replace HB := Lib.hid (HB.out.trans (hb.mono HB.out.size))
  clear hb
  go_wp2_with (go_at_call 17; refine (num_any _ _).mono ?_; rintro e w' ⟨rfl, rfl⟩)
  refine (Xhq.out _).mono ?_
  rintro e w7 ⟨rfl, hb⟩
  replace Kp := Lib.hid (Kp.out.go hb)
  replace HB := Lib.hid (HB.out.trans (hb.mono HB.out.size))
  clear hb
  have cp_0 := Kp.out.cell 0
  have cp_1 := Kp.out.cell 1
  have cp_2 := Kp.out.cell 2
  have cp_3 := Kp.out.cell 3
  have cp_4 := Kp.out.cell 4
  have cp_5 := Kp.out.cell 5
  have cp_6 := Kp.out.cell 6
  have cp_7 := Kp.out.cell 7
  have cp_8 := Kp.out.cell 8
  simp at cp_0 cp_1 cp_2 cp_3 cp_4 cp_5 cp_6 cp_7 cp_8
  have hltp := Kp.out.lt
  replace Kp := Lib.hid (Kp.out.alloc (.cells #[.bool p0, .bool p1, .int .i64 p2, .int .i64 p3, .int .i64 p4, .bool p5, .bool p6, .int .i64 p7, .int .i64 p8] 43))
  replace HB := Lib.hid (HB.out.alloc HB.out.size (.cells #[.bool p0, .bool p1, .int .i64 p2, .int .i64 p3, .int .i64 p4, .bool p5, .bool p6, .int .i64 p7, .int .i64 p8] 43))
  have Ku := Lib.hid (Bk.new w7 43 #[.bool p0, .bool p1, .int .i64 p2, .int .i64 p3, .int .i64 p4, .bool p5, .bool p6, .int .i64 p7, .int .i64 p8])
  have cpb_0 := Kp.out.cell 0
  have cpb_1 := Kp.out.cell 1
  have cpb_2 := Kp.out.cell 2
  have cpb_3 := Kp.out.cell 3
  have cpb_4 := Kp.out.cell 4
  have cpb_5 := Kp.out.cell 5
  have cpb_6 := Kp.out.cell 6
  have cpb_7 := Kp.out.cell 7
  have cpb_8 := Kp.out.cell 8
  simp at cpb_0 cpb_1 cpb_2 cpb_3 cpb_4 cpb_5 cpb_6 cpb_7 cpb_8
  go_wp2_with (go_at_call 17; refine (num_any _ _).mono ?_; rintro e w' ⟨rfl, rfl⟩)
  clear cp_0 cp_1 cp_2 cp_3 cp_4 cp_5 cp_6 cp_7 cp_8 hltp cpb_0 cpb_1 cpb_2 cpb_3 cpb_4 cpb_5 cpb_6 cpb_7 cpb_8
  clear Ku
  refine (Xhm.out _).mono ?_
  rintro e w8 ⟨rfl, hb⟩
  replace Kp := Lib.hid (Kp.out.go hb)
  replace HB := Lib.hid (HB.out.trans (hb.mono HB.out.size))
  clear hb
  clear Kp
  go_wp2_with (go_at_call 17; refine (num_any _ _).mono ?_; rintro e w' ⟨rfl, rfl⟩)
  refine (XhG.out _).mono ?_
  rintro e w9 ⟨A2, c2, rfl, hat, hown, hb⟩
  replace HB := Lib.hid (HB.out.trans (hb.mono HB.out.size))
  clear hb
  have HT := Lib.hid hat
  clear hat hown
  replace HT := Lib.hid (SpAt.past HT.out (.cells #[.int .i64 q0, .int .i64 q1, .int .i64 q2, .int .i64 q3, .int .i64 q4, .int .i64 q5, .slice A2 cq.length c2, .int .i64 q7, .int .i64 q8] 24))
  replace HB := Lib.hid (HB.out.alloc HB.out.size (.cells #[.int .i64 q0, .int .i64 q1, .int .i64 q2, .int .i64 q3, .int .i64 q4, .int .i64 q5, .slice A2 cq.length c2, .int .i64 q7, .int .i64 q8] 24))
  have Kv := Lib.hid (Bk.new w9 24 #[.int .i64 q0, .int .i64 q1, .int .i64 q2, .int .i64 q3, .int .i64 q4, .int .i64 q5, .slice A2 cq.length c2, .int .i64 q7, .int .i64 q8])
  go_wp2_with (go_at_call 17; refine (num_any _ _).mono ?_; rintro e w' ⟨rfl, rfl⟩)
  refine (XhP.out _ _ _ HT.out (by show cq.length ≤ _; have h : cq.length ≤ 4 := hTl; omega)).mono ?_
  rintro e wa ⟨rfl, hb⟩
  replace Kv := Lib.hid (Kv.out.go hb)
  replace HT := Lib.hid (SpAt.go HT.out hb)
  replace HB := Lib.hid (HB.out.trans (hb.mono HB.out.size))
  clear hb
  go_wp2_with (go_at_call 17; refine (num_any _ _).mono ?_; rintro e w' ⟨rfl, rfl⟩)
  go_ret
  exact ⟨rfl, HB.out⟩
theorem walk_ParamsBack (a0_Wide : Int) (a0_High : Int) (a0_FrameBits : Int) (a0_PocType : Int) (a0_PocBits : Int) (a0_NonRef : Int) (a0_Cycle : Option Addr) (len_a0_Cycle cap_a0_Cycle : Nat) (z_a0_Cycle : Nat → Int) (a0_Refs : Int) (a0_Delay : Int) (a1_Cabac : Bool) (a1_Weighted : Bool) (a1_BiPred : Int) (a1_Qp : Int) (a1_ChromaQp : Int) (a1_Constrained : Bool) (a1_Deblock : Bool) (a1_Active0 : Int) (a1_Active1 : Int) (a2 : ByteArray) (w : World) (w_a0_Wide : (Lit.int .i64 a0_Wide).wf = true) (w_a0_High : (Lit.int .i64 a0_High).wf = true) (w_a0_FrameBits : (Lit.int .i64 a0_FrameBits).wf = true) (w_a0_PocType : (Lit.int .i64 a0_PocType).wf = true) (w_a0_PocBits : (Lit.int .i64 a0_PocBits).wf = true) (w_a0_NonRef : (Lit.int .i64 a0_NonRef).wf = true) (w_a0_Cycle : IntsArg w a0_Cycle len_a0_Cycle cap_a0_Cycle z_a0_Cycle) (w_a0_Refs : (Lit.int .i64 a0_Refs).wf = true) (w_a0_Delay : (Lit.int .i64 a0_Delay).wf = true) (w_a1_BiPred : (Lit.int .i64 a1_BiPred).wf = true) (w_a1_Qp : (Lit.int .i64 a1_Qp).wf = true) (w_a1_ChromaQp : (Lit.int .i64 a1_ChromaQp).wf = true) (w_a1_Active0 : (Lit.int .i64 a1_Active0).wf = true) (w_a1_Active1 : (Lit.int .i64 a1_Active1).wf = true) (w_a2 : a2.size ≤ 140737488351232) :
    Calls Try.prog 5 #[.agg #[.int .i64 a0_Wide, .int .i64 a0_High, .int .i64 a0_FrameBits, .int .i64 a0_PocType, .int .i64 a0_PocBits, .int .i64 a0_NonRef, .slice a0_Cycle len_a0_Cycle cap_a0_Cycle, .int .i64 a0_Refs, .int .i64 a0_Delay], .agg #[.bool a1_Cabac, .bool a1_Weighted, .int .i64 a1_BiPred, .int .i64 a1_Qp, .int .i64 a1_ChromaQp, .bool a1_Constrained, .bool a1_Deblock, .int .i64 a1_Active0, .int .i64 a1_Active1], .string a2] w fun e w' => e = .returned (.bool true) ∧ Below w.heap.size w w' := by
  obtain ⟨hri, _, hnc, hc8, _⟩ := w_a0_Cycle
  obtain ⟨cy, hcy⟩ : ∃ l, l = (List.range len_a0_Cycle).map z_a0_Cycle := ⟨_, rfl⟩
  have hs : SpAt w w.heap.size ⟨a0_Wide, a0_High, a0_FrameBits, a0_PocType, a0_PocBits, a0_NonRef, cy, a0_Refs, a0_Delay⟩ a0_Cycle := SpAt.arg hri hcy
  obtain rfl : cy.length = len_a0_Cycle := by rw [hcy]; simp
  have hn : cy.length ≤ 1152921504606846976 := by omega
  clear hcy hri
  obtain ⟨T, E, hd⟩ : ∃ T E, getSp (sbit a2) (8 * a2.size) = (T, E) := ⟨_, _, rfl⟩
  by_cases h1 : putSpE ⟨a0_Wide, a0_High, a0_FrameBits, a0_PocType, a0_PocBits, a0_NonRef, cy, a0_Refs, a0_Delay⟩ = 0 <;>
    by_cases h2 : putPpE ⟨a1_Cabac, a1_Weighted, a1_BiPred, a1_Qp, a1_ChromaQp, a1_Constrained, a1_Deblock, a1_Active0, a1_Active1⟩ = 0 <;> by_cases h3 : E = 0
  · exact back_111 _ _ _ _ _ _ cy _ _ _ _ _ _ _ _ _ _ _ _ _ a2 w hs hn w_a2 h1 h2 T E hd h3
  · exact back_110 _ _ _ _ _ _ cy _ _ _ _ _ _ _ _ _ _ _ _ _ a2 w hs hn w_a2 h1 h2 T E hd h3
  · exact back_101 _ _ _ _ _ _ cy _ _ _ _ _ _ _ _ _ _ _ _ _ a2 w hs hn w_a2 h1 h2 T E hd h3
  · exact back_100 _ _ _ _ _ _ cy _ _ _ _ _ _ _ _ _ _ _ _ _ a2 w hs hn w_a2 h1 h2 T E hd h3
  · exact back_011 _ _ _ _ _ _ cy _ _ _ _ _ _ _ _ _ _ _ _ _ a2 w hs hn w_a2 h1 h2 T E hd h3
  · exact back_010 _ _ _ _ _ _ cy _ _ _ _ _ _ _ _ _ _ _ _ _ a2 w hs hn w_a2 h1 h2 T E hd h3
  · exact back_001 _ _ _ _ _ _ cy _ _ _ _ _ _ _ _ _ _ _ _ _ a2 w hs hn w_a2 h1 h2 T E hd h3
  · exact back_000 _ _ _ _ _ _ cy _ _ _ _ _ _ _ _ _ _ _ _ _ a2 w hs hn w_a2 h1 h2 T E hd h3
end Go.Proofs.Ytegfglpaabddlaa
