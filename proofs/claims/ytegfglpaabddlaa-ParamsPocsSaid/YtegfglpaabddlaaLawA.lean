/- ParamsPocs. Printed by gen-pocs.py. -/
import Derived.Test.YtegfglpaabddlaaParZ
import Derived.Test.YtegfglpaabddlaaMask
namespace Go.Proofs.Ytegfglpaabddlaa
open Go.RowKit
set_option linter.unusedVariables false
set_option linter.unusedSimpArgs false
attribute [local go_sem] and_255

theorem mayS_any (p : Sp) (A : Option Addr) (c : Nat) (b : Bool) (w : World) (hp : maySp p = b) (hs : SpAt w w.heap.size p A) (hn : p.cy.length ≤ 10) :
    Calls Try.prog 15 #[.agg (spV p A c)] w fun e w' => e = .returned (.bool b) ∧ Below w.heap.size w w' := by
  subst hp; exact maysp_any p A c w hs (by omega)
theorem SpAt.lit {w : World} {M : Nat} {t : TypeId} {p : Sp} (h : Bk w M t ((p.cy.map (Value.int .i64)).toArray)) : SpAt w w.heap.size p (some ⟨M, 0, none⟩) := fun hn => by
  refine ⟨⟨M, 0, none⟩, rfl, h.lt, fun k hk => ?_⟩
  rw [add_new, h.cell k]
  simp [hk]
theorem nr_may (k x : Int) (h : 1 ≤ x ∧ x ≤ 256) (hk : k = 0 ∨ k = 1 ∨ k = 2) : maySp ⟨1, 1, 4, k, 4, x, [], 2, 0⟩ = (k == 1) := by
  rcases hk with rfl | rfl | rfl
  · refine maySp_no _ fun q => ?_
    have := q.2.2.2.2.2.2.2.2.1
    simp at this
    omega
  · refine (maySp_iff _).2 ⟨?_, ?_, ?_, ?_, ?_, ?_, ?_, ?_, ?_, ?_, ?_, ?_, ?_⟩ <;> simp [cyOk] <;> omega
  · refine maySp_no _ fun q => ?_
    have := q.2.2.2.2.2.2.2.2.1
    simp at this
    omega
set_option maxRecDepth 100000 in
set_option maxHeartbeats 6400000 in
theorem pocs_0 (a0 : Int) (a1 : Int) (w : World) (hk : (IntKind.u64.wrap a0).tmod 3 = 0) :
    Calls Try.prog 7 #[.int .i64 a0, .int .i64 a1] w fun e w' => e = .returned (.bool true) ∧ Below w.heap.size w w' := by
  go_enter Try.func7, Try.ntmps7
  go_wp2_with fail
  refine (awake_any w).mono ?_
  rintro e w1 ⟨rfl, hb⟩
  have HB := Lib.hid hb
  have bb := HB.out
  have bb := bb.alloc bb.size (.cells #[.int .i64 1, .int .i64 1, .int .i64 4, .int .i64 0, .int .i64 4, .int .i64 0, .slice none 0 0, .int .i64 2, .int .i64 0] 24)
  replace HB := Lib.hid bb
  have KG := Lib.hid (Bk.new w1 24 #[.int .i64 1, .int .i64 1, .int .i64 4, .int .i64 0, .int .i64 4, .int .i64 0, .slice none 0 0, .int .i64 2, .int .i64 0])
  obtain ⟨g, hg⟩ : ∃ g, g = w1.heap.size := ⟨_, rfl⟩
  rw [← hg] at KG
  have hgB : w.heap.size ≤ g := by have := hb.size; omega
  have HG := Lib.hid hg
  clear hb bb hg
  go_wp2_with fail
  rw [← HG.out]
  clear hk
  refine (mayS_any ⟨1, 1, 4, 0, 4, 0, [], 2, 0⟩ (none) 0 true _ (by decide +kernel) (SpAt.nil _ _ _ rfl _) (by simp)).mono ?_
  rintro e w2 ⟨rfl, hb⟩
  replace KG : Hid (Bk w2 g 24 #[.int .i64 1, .int .i64 1, .int .i64 4, .int .i64 0, .int .i64 4, .int .i64 0, .slice none 0 0, .int .i64 2, .int .i64 0]) := Lib.hid (by have kk := KG.out.go hb; simpa using kk)
  replace HB := Lib.hid (HB.out.trans (hb.mono HB.out.size))
  clear hb
  have c0 := KG.out.cell 0
  have f0 := KG.out.frozen 0
  have c1 := KG.out.cell 1
  have f1 := KG.out.frozen 1
  have c2 := KG.out.cell 2
  have f2 := KG.out.frozen 2
  have c3 := KG.out.cell 3
  have f3 := KG.out.frozen 3
  have c4 := KG.out.cell 4
  have f4 := KG.out.frozen 4
  have c5 := KG.out.cell 5
  have f5 := KG.out.frozen 5
  have c6 := KG.out.cell 6
  have f6 := KG.out.frozen 6
  have c7 := KG.out.cell 7
  have f7 := KG.out.frozen 7
  have c8 := KG.out.cell 8
  have f8 := KG.out.frozen 8
  simp at c0 c1 c2 c3 c4 c5 c6 c7 c8
  go_wp2_with fail
  clear c0 f0 c1 f1 c2 f2 c3 f3 c4 f4 c5 f5 c6 f6 c7 f7 c8 f8
  replace KG := Lib.hid (KG.out.set_ 4 (.int .i64 5))
  replace HB := Lib.hid (HB.out.setCell (p := ⟨g, 4, none⟩) hgB (.int .i64 5))
  refine (mayS_any ⟨1, 1, 4, 0, 5, 0, [], 2, 0⟩ (none) 0 true _ (by decide +kernel) (SpAt.nil _ _ _ rfl _) (by simp)).mono ?_
  rintro e w3 ⟨rfl, hb⟩
  replace KG : Hid (Bk w3 g 24 #[.int .i64 1, .int .i64 1, .int .i64 4, .int .i64 0, .int .i64 5, .int .i64 0, .slice none 0 0, .int .i64 2, .int .i64 0]) := Lib.hid (by have kk := KG.out.go hb; simpa using kk)
  replace HB := Lib.hid (HB.out.trans (hb.mono HB.out.size))
  clear hb
  have hx0 : 0 ≤ a1 % 256 := by omega
  have hx1 : a1 % 256 < 256 := by omega
  obtain ⟨y, hy⟩ : ∃ y, a1 % 256 = y := ⟨_, rfl⟩
  rw [hy] at hx0 hx1
  have c0 := KG.out.cell 0
  have f0 := KG.out.frozen 0
  have c1 := KG.out.cell 1
  have f1 := KG.out.frozen 1
  have c2 := KG.out.cell 2
  have f2 := KG.out.frozen 2
  have c3 := KG.out.cell 3
  have f3 := KG.out.frozen 3
  have c4 := KG.out.cell 4
  have f4 := KG.out.frozen 4
  have c5 := KG.out.cell 5
  have f5 := KG.out.frozen 5
  have c6 := KG.out.cell 6
  have f6 := KG.out.frozen 6
  have c7 := KG.out.cell 7
  have f7 := KG.out.frozen 7
  have c8 := KG.out.cell 8
  have f8 := KG.out.frozen 8
  simp at c0 c1 c2 c3 c4 c5 c6 c7 c8
  go_wp2_with fail
  clear c0 f0 c1 f1 c2 f2 c3 f3 c4 f4 c5 f5 c6 f6 c7 f7 c8 f8
  replace KG := Lib.hid (KG.out.set_ 4 (.int .i64 4))
  replace HB := Lib.hid (HB.out.setCell (p := ⟨g, 4, none⟩) hgB (.int .i64 4))
  replace KG := Lib.hid (KG.out.set_ 5 (.int .i64 (1 + y)))
  replace HB := Lib.hid (HB.out.setCell (p := ⟨g, 5, none⟩) hgB (.int .i64 (1 + y)))
  refine (mayS_any ⟨1, 1, 4, 0, 4, 1 + y, [], 2, 0⟩ (none) 0 false _ (nr_may 0 (1 + y) (by omega) (by omega)) (SpAt.nil _ _ _ rfl _) (by simp)).mono ?_
  rintro e w4 ⟨rfl, hb⟩
  replace KG : Hid (Bk w4 g 24 #[.int .i64 1, .int .i64 1, .int .i64 4, .int .i64 0, .int .i64 4, .int .i64 (1 + y), .slice none 0 0, .int .i64 2, .int .i64 0]) := Lib.hid (by have kk := KG.out.go hb; simpa using kk)
  replace HB := Lib.hid (HB.out.trans (hb.mono HB.out.size))
  clear hb
  clear hy
  have c0 := KG.out.cell 0
  have f0 := KG.out.frozen 0
  have c1 := KG.out.cell 1
  have f1 := KG.out.frozen 1
  have c2 := KG.out.cell 2
  have f2 := KG.out.frozen 2
  have c3 := KG.out.cell 3
  have f3 := KG.out.frozen 3
  have c4 := KG.out.cell 4
  have f4 := KG.out.frozen 4
  have c5 := KG.out.cell 5
  have f5 := KG.out.frozen 5
  have c6 := KG.out.cell 6
  have f6 := KG.out.frozen 6
  have c7 := KG.out.cell 7
  have f7 := KG.out.frozen 7
  have c8 := KG.out.cell 8
  have f8 := KG.out.frozen 8
  simp at c0 c1 c2 c3 c4 c5 c6 c7 c8
  have hlt := KG.out.lt
  go_wp2_with fail
  clear c0 f0 c1 f1 c2 f2 c3 f3 c4 f4 c5 f5 c6 f6 c7 f7 c8 f8
  replace KG := Lib.hid (KG.out.set_ 5 (.int .i64 0))
  replace HB := Lib.hid (HB.out.setCell (p := ⟨g, 5, none⟩) hgB (.int .i64 0))
  replace KG := Lib.hid (KG.out.set_ 6 (.slice (some ⟨w4.heap.size, 0, none⟩) 4 4))
  replace HB := Lib.hid (HB.out.setCell (p := ⟨g, 6, none⟩) hgB (.slice (some ⟨w4.heap.size, 0, none⟩) 4 4))
  have km := Bk.new ((w4.setCell ⟨g, 5, none⟩ (.int .i64 0)).setCell ⟨g, 6, none⟩ (.slice (some ⟨w4.heap.size, 0, none⟩) 4 4)) 3 #[.int .i64 1, .int .i64 2, .int .i64 3, .int .i64 4]
  rw [show ((w4.setCell ⟨g, 5, none⟩ (.int .i64 0)).setCell ⟨g, 6, none⟩ (.slice (some ⟨w4.heap.size, 0, none⟩) 4 4)).heap.size = w4.heap.size by simp [World.setCell]] at km
  have KM := Lib.hid km
  replace KG := Lib.hid (KG.out.alloc (.cells #[.int .i64 1, .int .i64 2, .int .i64 3, .int .i64 4] 3))
  replace HB := Lib.hid (HB.out.alloc HB.out.size (.cells #[.int .i64 1, .int .i64 2, .int .i64 3, .int .i64 4] 3))
  clear km hlt
  refine (mayS_any ⟨1, 1, 4, 0, 4, 0, [1, 2, 3, 4], 2, 0⟩ (some ⟨w4.heap.size, 0, none⟩) 4 false _ (by decide +kernel) (SpAt.lit KM.out) (by simp)).mono ?_
  rintro e w5 ⟨rfl, hb⟩
  replace KG : Hid (Bk w5 g 24 #[.int .i64 1, .int .i64 1, .int .i64 4, .int .i64 0, .int .i64 4, .int .i64 0, .slice (some ⟨w4.heap.size, 0, none⟩) 4 4, .int .i64 2, .int .i64 0]) := Lib.hid (by have kk := KG.out.go hb; simpa using kk)
  replace HB := Lib.hid (HB.out.trans (hb.mono HB.out.size))
  clear hb
  clear KM
  have c0 := KG.out.cell 0
  have f0 := KG.out.frozen 0
  have c1 := KG.out.cell 1
  have f1 := KG.out.frozen 1
  have c2 := KG.out.cell 2
  have f2 := KG.out.frozen 2
  have c3 := KG.out.cell 3
  have f3 := KG.out.frozen 3
  have c4 := KG.out.cell 4
  have f4 := KG.out.frozen 4
  have c5 := KG.out.cell 5
  have f5 := KG.out.frozen 5
  have c6 := KG.out.cell 6
  have f6 := KG.out.frozen 6
  have c7 := KG.out.cell 7
  have f7 := KG.out.frozen 7
  have c8 := KG.out.cell 8
  have f8 := KG.out.frozen 8
  simp at c0 c1 c2 c3 c4 c5 c6 c7 c8
  have hlt := KG.out.lt
  go_wp2_with fail
  clear c0 f0 c1 f1 c2 f2 c3 f3 c4 f4 c5 f5 c6 f6 c7 f7 c8 f8
  replace KG := Lib.hid (KG.out.set_ 6 (.slice (some ⟨w5.heap.size, 0, none⟩) 5 5))
  replace HB := Lib.hid (HB.out.setCell (p := ⟨g, 6, none⟩) hgB (.slice (some ⟨w5.heap.size, 0, none⟩) 5 5))
  have km := Bk.new (w5.setCell ⟨g, 6, none⟩ (.slice (some ⟨w5.heap.size, 0, none⟩) 5 5)) 3 #[.int .i64 1, .int .i64 2, .int .i64 3, .int .i64 4, .int .i64 5]
  rw [show (w5.setCell ⟨g, 6, none⟩ (.slice (some ⟨w5.heap.size, 0, none⟩) 5 5)).heap.size = w5.heap.size by simp [World.setCell]] at km
  have KM := Lib.hid km
  replace KG := Lib.hid (KG.out.alloc (.cells #[.int .i64 1, .int .i64 2, .int .i64 3, .int .i64 4, .int .i64 5] 3))
  replace HB := Lib.hid (HB.out.alloc HB.out.size (.cells #[.int .i64 1, .int .i64 2, .int .i64 3, .int .i64 4, .int .i64 5] 3))
  clear km hlt
  refine (mayS_any ⟨1, 1, 4, 0, 4, 0, [1, 2, 3, 4, 5], 2, 0⟩ (some ⟨w5.heap.size, 0, none⟩) 5 false _ (by decide +kernel) (SpAt.lit KM.out) (by simp)).mono ?_
  rintro e w6 ⟨rfl, hb⟩
  replace KG : Hid (Bk w6 g 24 #[.int .i64 1, .int .i64 1, .int .i64 4, .int .i64 0, .int .i64 4, .int .i64 0, .slice (some ⟨w5.heap.size, 0, none⟩) 5 5, .int .i64 2, .int .i64 0]) := Lib.hid (by have kk := KG.out.go hb; simpa using kk)
  replace HB := Lib.hid (HB.out.trans (hb.mono HB.out.size))
  clear hb
  clear KM
  have c0 := KG.out.cell 0
  have f0 := KG.out.frozen 0
  have c1 := KG.out.cell 1
  have f1 := KG.out.frozen 1
  have c2 := KG.out.cell 2
  have f2 := KG.out.frozen 2
  have c3 := KG.out.cell 3
  have f3 := KG.out.frozen 3
  have c4 := KG.out.cell 4
  have f4 := KG.out.frozen 4
  have c5 := KG.out.cell 5
  have f5 := KG.out.frozen 5
  have c6 := KG.out.cell 6
  have f6 := KG.out.frozen 6
  have c7 := KG.out.cell 7
  have f7 := KG.out.frozen 7
  have c8 := KG.out.cell 8
  have f8 := KG.out.frozen 8
  simp at c0 c1 c2 c3 c4 c5 c6 c7 c8
  go_wp2_with fail
  clear c0 f0 c1 f1 c2 f2 c3 f3 c4 f4 c5 f5 c6 f6 c7 f7 c8 f8
  replace KG := Lib.hid (KG.out.set_ 6 (.slice none 0 0))
  replace HB := Lib.hid (HB.out.setCell (p := ⟨g, 6, none⟩) hgB (.slice none 0 0))
  replace KG := Lib.hid (KG.out.set_ 8 (.int .i64 1))
  replace HB := Lib.hid (HB.out.setCell (p := ⟨g, 8, none⟩) hgB (.int .i64 1))
  refine (mayS_any ⟨1, 1, 4, 0, 4, 0, [], 2, 1⟩ (none) 0 true _ (by decide +kernel) (SpAt.nil _ _ _ rfl _) (by simp)).mono ?_
  rintro e w7 ⟨rfl, hb⟩
  replace KG : Hid (Bk w7 g 24 #[.int .i64 1, .int .i64 1, .int .i64 4, .int .i64 0, .int .i64 4, .int .i64 0, .slice none 0 0, .int .i64 2, .int .i64 1]) := Lib.hid (by have kk := KG.out.go hb; simpa using kk)
  replace HB := Lib.hid (HB.out.trans (hb.mono HB.out.size))
  clear hb
  go_wp2_with (go_at_call 17; refine (num_any _ _).mono ?_; rintro e w' ⟨rfl, rfl⟩)
  go_ret
  exact ⟨rfl, HB.out⟩
set_option maxRecDepth 100000 in
set_option maxHeartbeats 6400000 in
theorem pocs_1 (a0 : Int) (a1 : Int) (w : World) (hk : (IntKind.u64.wrap a0).tmod 3 = 1) :
    Calls Try.prog 7 #[.int .i64 a0, .int .i64 a1] w fun e w' => e = .returned (.bool true) ∧ Below w.heap.size w w' := by
  go_enter Try.func7, Try.ntmps7
  go_wp2_with fail
  refine (awake_any w).mono ?_
  rintro e w1 ⟨rfl, hb⟩
  have HB := Lib.hid hb
  have bb := HB.out
  have bb := bb.alloc bb.size (.cells #[.int .i64 1, .int .i64 1, .int .i64 4, .int .i64 1, .int .i64 4, .int .i64 0, .slice none 0 0, .int .i64 2, .int .i64 0] 24)
  replace HB := Lib.hid bb
  have KG := Lib.hid (Bk.new w1 24 #[.int .i64 1, .int .i64 1, .int .i64 4, .int .i64 1, .int .i64 4, .int .i64 0, .slice none 0 0, .int .i64 2, .int .i64 0])
  obtain ⟨g, hg⟩ : ∃ g, g = w1.heap.size := ⟨_, rfl⟩
  rw [← hg] at KG
  have hgB : w.heap.size ≤ g := by have := hb.size; omega
  have HG := Lib.hid hg
  clear hb bb hg
  go_wp2_with fail
  rw [← HG.out]
  clear hk
  refine (mayS_any ⟨1, 1, 4, 1, 4, 0, [], 2, 0⟩ (none) 0 true _ (by decide +kernel) (SpAt.nil _ _ _ rfl _) (by simp)).mono ?_
  rintro e w2 ⟨rfl, hb⟩
  replace KG : Hid (Bk w2 g 24 #[.int .i64 1, .int .i64 1, .int .i64 4, .int .i64 1, .int .i64 4, .int .i64 0, .slice none 0 0, .int .i64 2, .int .i64 0]) := Lib.hid (by have kk := KG.out.go hb; simpa using kk)
  replace HB := Lib.hid (HB.out.trans (hb.mono HB.out.size))
  clear hb
  have c0 := KG.out.cell 0
  have f0 := KG.out.frozen 0
  have c1 := KG.out.cell 1
  have f1 := KG.out.frozen 1
  have c2 := KG.out.cell 2
  have f2 := KG.out.frozen 2
  have c3 := KG.out.cell 3
  have f3 := KG.out.frozen 3
  have c4 := KG.out.cell 4
  have f4 := KG.out.frozen 4
  have c5 := KG.out.cell 5
  have f5 := KG.out.frozen 5
  have c6 := KG.out.cell 6
  have f6 := KG.out.frozen 6
  have c7 := KG.out.cell 7
  have f7 := KG.out.frozen 7
  have c8 := KG.out.cell 8
  have f8 := KG.out.frozen 8
  simp at c0 c1 c2 c3 c4 c5 c6 c7 c8
  go_wp2_with fail
  clear c0 f0 c1 f1 c2 f2 c3 f3 c4 f4 c5 f5 c6 f6 c7 f7 c8 f8
  replace KG := Lib.hid (KG.out.set_ 4 (.int .i64 5))
  replace HB := Lib.hid (HB.out.setCell (p := ⟨g, 4, none⟩) hgB (.int .i64 5))
  refine (mayS_any ⟨1, 1, 4, 1, 5, 0, [], 2, 0⟩ (none) 0 false _ (by decide +kernel) (SpAt.nil _ _ _ rfl _) (by simp)).mono ?_
  rintro e w3 ⟨rfl, hb⟩
  replace KG : Hid (Bk w3 g 24 #[.int .i64 1, .int .i64 1, .int .i64 4, .int .i64 1, .int .i64 5, .int .i64 0, .slice none 0 0, .int .i64 2, .int .i64 0]) := Lib.hid (by have kk := KG.out.go hb; simpa using kk)
  replace HB := Lib.hid (HB.out.trans (hb.mono HB.out.size))
  clear hb
  have hx0 : 0 ≤ a1 % 256 := by omega
  have hx1 : a1 % 256 < 256 := by omega
  obtain ⟨y, hy⟩ : ∃ y, a1 % 256 = y := ⟨_, rfl⟩
  rw [hy] at hx0 hx1
  have c0 := KG.out.cell 0
  have f0 := KG.out.frozen 0
  have c1 := KG.out.cell 1
  have f1 := KG.out.frozen 1
  have c2 := KG.out.cell 2
  have f2 := KG.out.frozen 2
  have c3 := KG.out.cell 3
  have f3 := KG.out.frozen 3
  have c4 := KG.out.cell 4
  have f4 := KG.out.frozen 4
  have c5 := KG.out.cell 5
  have f5 := KG.out.frozen 5
  have c6 := KG.out.cell 6
  have f6 := KG.out.frozen 6
  have c7 := KG.out.cell 7
  have f7 := KG.out.frozen 7
  have c8 := KG.out.cell 8
  have f8 := KG.out.frozen 8
  simp at c0 c1 c2 c3 c4 c5 c6 c7 c8
  go_wp2_with fail
  clear c0 f0 c1 f1 c2 f2 c3 f3 c4 f4 c5 f5 c6 f6 c7 f7 c8 f8
  replace KG := Lib.hid (KG.out.set_ 4 (.int .i64 4))
  replace HB := Lib.hid (HB.out.setCell (p := ⟨g, 4, none⟩) hgB (.int .i64 4))
  replace KG := Lib.hid (KG.out.set_ 5 (.int .i64 (1 + y)))
  replace HB := Lib.hid (HB.out.setCell (p := ⟨g, 5, none⟩) hgB (.int .i64 (1 + y)))
  refine (mayS_any ⟨1, 1, 4, 1, 4, 1 + y, [], 2, 0⟩ (none) 0 true _ (nr_may 1 (1 + y) (by omega) (by omega)) (SpAt.nil _ _ _ rfl _) (by simp)).mono ?_
  rintro e w4 ⟨rfl, hb⟩
  replace KG : Hid (Bk w4 g 24 #[.int .i64 1, .int .i64 1, .int .i64 4, .int .i64 1, .int .i64 4, .int .i64 (1 + y), .slice none 0 0, .int .i64 2, .int .i64 0]) := Lib.hid (by have kk := KG.out.go hb; simpa using kk)
  replace HB := Lib.hid (HB.out.trans (hb.mono HB.out.size))
  clear hb
  clear hy
  have c0 := KG.out.cell 0
  have f0 := KG.out.frozen 0
  have c1 := KG.out.cell 1
  have f1 := KG.out.frozen 1
  have c2 := KG.out.cell 2
  have f2 := KG.out.frozen 2
  have c3 := KG.out.cell 3
  have f3 := KG.out.frozen 3
  have c4 := KG.out.cell 4
  have f4 := KG.out.frozen 4
  have c5 := KG.out.cell 5
  have f5 := KG.out.frozen 5
  have c6 := KG.out.cell 6
  have f6 := KG.out.frozen 6
  have c7 := KG.out.cell 7
  have f7 := KG.out.frozen 7
  have c8 := KG.out.cell 8
  have f8 := KG.out.frozen 8
  simp at c0 c1 c2 c3 c4 c5 c6 c7 c8
  have hlt := KG.out.lt
  go_wp2_with fail
  clear c0 f0 c1 f1 c2 f2 c3 f3 c4 f4 c5 f5 c6 f6 c7 f7 c8 f8
  replace KG := Lib.hid (KG.out.set_ 5 (.int .i64 0))
  replace HB := Lib.hid (HB.out.setCell (p := ⟨g, 5, none⟩) hgB (.int .i64 0))
  replace KG := Lib.hid (KG.out.set_ 6 (.slice (some ⟨w4.heap.size, 0, none⟩) 4 4))
  replace HB := Lib.hid (HB.out.setCell (p := ⟨g, 6, none⟩) hgB (.slice (some ⟨w4.heap.size, 0, none⟩) 4 4))
  have km := Bk.new ((w4.setCell ⟨g, 5, none⟩ (.int .i64 0)).setCell ⟨g, 6, none⟩ (.slice (some ⟨w4.heap.size, 0, none⟩) 4 4)) 3 #[.int .i64 1, .int .i64 2, .int .i64 3, .int .i64 4]
  rw [show ((w4.setCell ⟨g, 5, none⟩ (.int .i64 0)).setCell ⟨g, 6, none⟩ (.slice (some ⟨w4.heap.size, 0, none⟩) 4 4)).heap.size = w4.heap.size by simp [World.setCell]] at km
  have KM := Lib.hid km
  replace KG := Lib.hid (KG.out.alloc (.cells #[.int .i64 1, .int .i64 2, .int .i64 3, .int .i64 4] 3))
  replace HB := Lib.hid (HB.out.alloc HB.out.size (.cells #[.int .i64 1, .int .i64 2, .int .i64 3, .int .i64 4] 3))
  clear km hlt
  refine (mayS_any ⟨1, 1, 4, 1, 4, 0, [1, 2, 3, 4], 2, 0⟩ (some ⟨w4.heap.size, 0, none⟩) 4 true _ (by decide +kernel) (SpAt.lit KM.out) (by simp)).mono ?_
  rintro e w5 ⟨rfl, hb⟩
  replace KG : Hid (Bk w5 g 24 #[.int .i64 1, .int .i64 1, .int .i64 4, .int .i64 1, .int .i64 4, .int .i64 0, .slice (some ⟨w4.heap.size, 0, none⟩) 4 4, .int .i64 2, .int .i64 0]) := Lib.hid (by have kk := KG.out.go hb; simpa using kk)
  replace HB := Lib.hid (HB.out.trans (hb.mono HB.out.size))
  clear hb
  clear KM
  have c0 := KG.out.cell 0
  have f0 := KG.out.frozen 0
  have c1 := KG.out.cell 1
  have f1 := KG.out.frozen 1
  have c2 := KG.out.cell 2
  have f2 := KG.out.frozen 2
  have c3 := KG.out.cell 3
  have f3 := KG.out.frozen 3
  have c4 := KG.out.cell 4
  have f4 := KG.out.frozen 4
  have c5 := KG.out.cell 5
  have f5 := KG.out.frozen 5
  have c6 := KG.out.cell 6
  have f6 := KG.out.frozen 6
  have c7 := KG.out.cell 7
  have f7 := KG.out.frozen 7
  have c8 := KG.out.cell 8
  have f8 := KG.out.frozen 8
  simp at c0 c1 c2 c3 c4 c5 c6 c7 c8
  have hlt := KG.out.lt
  go_wp2_with fail
  clear c0 f0 c1 f1 c2 f2 c3 f3 c4 f4 c5 f5 c6 f6 c7 f7 c8 f8
  replace KG := Lib.hid (KG.out.set_ 6 (.slice (some ⟨w5.heap.size, 0, none⟩) 5 5))
  replace HB := Lib.hid (HB.out.setCell (p := ⟨g, 6, none⟩) hgB (.slice (some ⟨w5.heap.size, 0, none⟩) 5 5))
  have km := Bk.new (w5.setCell ⟨g, 6, none⟩ (.slice (some ⟨w5.heap.size, 0, none⟩) 5 5)) 3 #[.int .i64 1, .int .i64 2, .int .i64 3, .int .i64 4, .int .i64 5]
  rw [show (w5.setCell ⟨g, 6, none⟩ (.slice (some ⟨w5.heap.size, 0, none⟩) 5 5)).heap.size = w5.heap.size by simp [World.setCell]] at km
  have KM := Lib.hid km
  replace KG := Lib.hid (KG.out.alloc (.cells #[.int .i64 1, .int .i64 2, .int .i64 3, .int .i64 4, .int .i64 5] 3))
  replace HB := Lib.hid (HB.out.alloc HB.out.size (.cells #[.int .i64 1, .int .i64 2, .int .i64 3, .int .i64 4, .int .i64 5] 3))
  clear km hlt
  refine (mayS_any ⟨1, 1, 4, 1, 4, 0, [1, 2, 3, 4, 5], 2, 0⟩ (some ⟨w5.heap.size, 0, none⟩) 5 false _ (by decide +kernel) (SpAt.lit KM.out) (by simp)).mono ?_
  rintro e w6 ⟨rfl, hb⟩
  replace KG : Hid (Bk w6 g 24 #[.int .i64 1, .int .i64 1, .int .i64 4, .int .i64 1, .int .i64 4, .int .i64 0, .slice (some ⟨w5.heap.size, 0, none⟩) 5 5, .int .i64 2, .int .i64 0]) := Lib.hid (by have kk := KG.out.go hb; simpa using kk)
  replace HB := Lib.hid (HB.out.trans (hb.mono HB.out.size))
  clear hb
  clear KM
  have c0 := KG.out.cell 0
  have f0 := KG.out.frozen 0
  have c1 := KG.out.cell 1
  have f1 := KG.out.frozen 1
  have c2 := KG.out.cell 2
  have f2 := KG.out.frozen 2
  have c3 := KG.out.cell 3
  have f3 := KG.out.frozen 3
  have c4 := KG.out.cell 4
  have f4 := KG.out.frozen 4
  have c5 := KG.out.cell 5
  have f5 := KG.out.frozen 5
  have c6 := KG.out.cell 6
  have f6 := KG.out.frozen 6
  have c7 := KG.out.cell 7
  have f7 := KG.out.frozen 7
  have c8 := KG.out.cell 8
  have f8 := KG.out.frozen 8
  simp at c0 c1 c2 c3 c4 c5 c6 c7 c8
  go_wp2_with fail
  clear c0 f0 c1 f1 c2 f2 c3 f3 c4 f4 c5 f5 c6 f6 c7 f7 c8 f8
  replace KG := Lib.hid (KG.out.set_ 6 (.slice none 0 0))
  replace HB := Lib.hid (HB.out.setCell (p := ⟨g, 6, none⟩) hgB (.slice none 0 0))
  replace KG := Lib.hid (KG.out.set_ 8 (.int .i64 1))
  replace HB := Lib.hid (HB.out.setCell (p := ⟨g, 8, none⟩) hgB (.int .i64 1))
  refine (mayS_any ⟨1, 1, 4, 1, 4, 0, [], 2, 1⟩ (none) 0 true _ (by decide +kernel) (SpAt.nil _ _ _ rfl _) (by simp)).mono ?_
  rintro e w7 ⟨rfl, hb⟩
  replace KG : Hid (Bk w7 g 24 #[.int .i64 1, .int .i64 1, .int .i64 4, .int .i64 1, .int .i64 4, .int .i64 0, .slice none 0 0, .int .i64 2, .int .i64 1]) := Lib.hid (by have kk := KG.out.go hb; simpa using kk)
  replace HB := Lib.hid (HB.out.trans (hb.mono HB.out.size))
  clear hb
  go_wp2_with (go_at_call 17; refine (num_any _ _).mono ?_; rintro e w' ⟨rfl, rfl⟩)
  go_ret
  exact ⟨rfl, HB.out⟩
set_option maxRecDepth 100000 in
set_option maxHeartbeats 6400000 in
theorem pocs_2 (a0 : Int) (a1 : Int) (w : World) (hk : (IntKind.u64.wrap a0).tmod 3 = 2) :
    Calls Try.prog 7 #[.int .i64 a0, .int .i64 a1] w fun e w' => e = .returned (.bool true) ∧ Below w.heap.size w w' := by
  go_enter Try.func7, Try.ntmps7
  go_wp2_with fail
  refine (awake_any w).mono ?_
  rintro e w1 ⟨rfl, hb⟩
  have HB := Lib.hid hb
  have bb := HB.out
  have bb := bb.alloc bb.size (.cells #[.int .i64 1, .int .i64 1, .int .i64 4, .int .i64 2, .int .i64 4, .int .i64 0, .slice none 0 0, .int .i64 2, .int .i64 0] 24)
  replace HB := Lib.hid bb
  have KG := Lib.hid (Bk.new w1 24 #[.int .i64 1, .int .i64 1, .int .i64 4, .int .i64 2, .int .i64 4, .int .i64 0, .slice none 0 0, .int .i64 2, .int .i64 0])
  obtain ⟨g, hg⟩ : ∃ g, g = w1.heap.size := ⟨_, rfl⟩
  rw [← hg] at KG
  have hgB : w.heap.size ≤ g := by have := hb.size; omega
  have HG := Lib.hid hg
  clear hb bb hg
  go_wp2_with fail
  rw [← HG.out]
  clear hk
  refine (mayS_any ⟨1, 1, 4, 2, 4, 0, [], 2, 0⟩ (none) 0 true _ (by decide +kernel) (SpAt.nil _ _ _ rfl _) (by simp)).mono ?_
  rintro e w2 ⟨rfl, hb⟩
  replace KG : Hid (Bk w2 g 24 #[.int .i64 1, .int .i64 1, .int .i64 4, .int .i64 2, .int .i64 4, .int .i64 0, .slice none 0 0, .int .i64 2, .int .i64 0]) := Lib.hid (by have kk := KG.out.go hb; simpa using kk)
  replace HB := Lib.hid (HB.out.trans (hb.mono HB.out.size))
  clear hb
  have c0 := KG.out.cell 0
  have f0 := KG.out.frozen 0
  have c1 := KG.out.cell 1
  have f1 := KG.out.frozen 1
  have c2 := KG.out.cell 2
  have f2 := KG.out.frozen 2
  have c3 := KG.out.cell 3
  have f3 := KG.out.frozen 3
  have c4 := KG.out.cell 4
  have f4 := KG.out.frozen 4
  have c5 := KG.out.cell 5
  have f5 := KG.out.frozen 5
  have c6 := KG.out.cell 6
  have f6 := KG.out.frozen 6
  have c7 := KG.out.cell 7
  have f7 := KG.out.frozen 7
  have c8 := KG.out.cell 8
  have f8 := KG.out.frozen 8
  simp at c0 c1 c2 c3 c4 c5 c6 c7 c8
  go_wp2_with fail
  clear c0 f0 c1 f1 c2 f2 c3 f3 c4 f4 c5 f5 c6 f6 c7 f7 c8 f8
  replace KG := Lib.hid (KG.out.set_ 4 (.int .i64 5))
  replace HB := Lib.hid (HB.out.setCell (p := ⟨g, 4, none⟩) hgB (.int .i64 5))
  refine (mayS_any ⟨1, 1, 4, 2, 5, 0, [], 2, 0⟩ (none) 0 false _ (by decide +kernel) (SpAt.nil _ _ _ rfl _) (by simp)).mono ?_
  rintro e w3 ⟨rfl, hb⟩
  replace KG : Hid (Bk w3 g 24 #[.int .i64 1, .int .i64 1, .int .i64 4, .int .i64 2, .int .i64 5, .int .i64 0, .slice none 0 0, .int .i64 2, .int .i64 0]) := Lib.hid (by have kk := KG.out.go hb; simpa using kk)
  replace HB := Lib.hid (HB.out.trans (hb.mono HB.out.size))
  clear hb
  have hx0 : 0 ≤ a1 % 256 := by omega
  have hx1 : a1 % 256 < 256 := by omega
  obtain ⟨y, hy⟩ : ∃ y, a1 % 256 = y := ⟨_, rfl⟩
  rw [hy] at hx0 hx1
  have c0 := KG.out.cell 0
  have f0 := KG.out.frozen 0
  have c1 := KG.out.cell 1
  have f1 := KG.out.frozen 1
  have c2 := KG.out.cell 2
  have f2 := KG.out.frozen 2
  have c3 := KG.out.cell 3
  have f3 := KG.out.frozen 3
  have c4 := KG.out.cell 4
  have f4 := KG.out.frozen 4
  have c5 := KG.out.cell 5
  have f5 := KG.out.frozen 5
  have c6 := KG.out.cell 6
  have f6 := KG.out.frozen 6
  have c7 := KG.out.cell 7
  have f7 := KG.out.frozen 7
  have c8 := KG.out.cell 8
  have f8 := KG.out.frozen 8
  simp at c0 c1 c2 c3 c4 c5 c6 c7 c8
  go_wp2_with fail
  clear c0 f0 c1 f1 c2 f2 c3 f3 c4 f4 c5 f5 c6 f6 c7 f7 c8 f8
  replace KG := Lib.hid (KG.out.set_ 4 (.int .i64 4))
  replace HB := Lib.hid (HB.out.setCell (p := ⟨g, 4, none⟩) hgB (.int .i64 4))
  replace KG := Lib.hid (KG.out.set_ 5 (.int .i64 (1 + y)))
  replace HB := Lib.hid (HB.out.setCell (p := ⟨g, 5, none⟩) hgB (.int .i64 (1 + y)))
  refine (mayS_any ⟨1, 1, 4, 2, 4, 1 + y, [], 2, 0⟩ (none) 0 false _ (nr_may 2 (1 + y) (by omega) (by omega)) (SpAt.nil _ _ _ rfl _) (by simp)).mono ?_
  rintro e w4 ⟨rfl, hb⟩
  replace KG : Hid (Bk w4 g 24 #[.int .i64 1, .int .i64 1, .int .i64 4, .int .i64 2, .int .i64 4, .int .i64 (1 + y), .slice none 0 0, .int .i64 2, .int .i64 0]) := Lib.hid (by have kk := KG.out.go hb; simpa using kk)
  replace HB := Lib.hid (HB.out.trans (hb.mono HB.out.size))
  clear hb
  clear hy
  have c0 := KG.out.cell 0
  have f0 := KG.out.frozen 0
  have c1 := KG.out.cell 1
  have f1 := KG.out.frozen 1
  have c2 := KG.out.cell 2
  have f2 := KG.out.frozen 2
  have c3 := KG.out.cell 3
  have f3 := KG.out.frozen 3
  have c4 := KG.out.cell 4
  have f4 := KG.out.frozen 4
  have c5 := KG.out.cell 5
  have f5 := KG.out.frozen 5
  have c6 := KG.out.cell 6
  have f6 := KG.out.frozen 6
  have c7 := KG.out.cell 7
  have f7 := KG.out.frozen 7
  have c8 := KG.out.cell 8
  have f8 := KG.out.frozen 8
  simp at c0 c1 c2 c3 c4 c5 c6 c7 c8
  have hlt := KG.out.lt
  go_wp2_with fail
  clear c0 f0 c1 f1 c2 f2 c3 f3 c4 f4 c5 f5 c6 f6 c7 f7 c8 f8
  replace KG := Lib.hid (KG.out.set_ 5 (.int .i64 0))
  replace HB := Lib.hid (HB.out.setCell (p := ⟨g, 5, none⟩) hgB (.int .i64 0))
  replace KG := Lib.hid (KG.out.set_ 6 (.slice (some ⟨w4.heap.size, 0, none⟩) 4 4))
  replace HB := Lib.hid (HB.out.setCell (p := ⟨g, 6, none⟩) hgB (.slice (some ⟨w4.heap.size, 0, none⟩) 4 4))
  have km := Bk.new ((w4.setCell ⟨g, 5, none⟩ (.int .i64 0)).setCell ⟨g, 6, none⟩ (.slice (some ⟨w4.heap.size, 0, none⟩) 4 4)) 3 #[.int .i64 1, .int .i64 2, .int .i64 3, .int .i64 4]
  rw [show ((w4.setCell ⟨g, 5, none⟩ (.int .i64 0)).setCell ⟨g, 6, none⟩ (.slice (some ⟨w4.heap.size, 0, none⟩) 4 4)).heap.size = w4.heap.size by simp [World.setCell]] at km
  have KM := Lib.hid km
  replace KG := Lib.hid (KG.out.alloc (.cells #[.int .i64 1, .int .i64 2, .int .i64 3, .int .i64 4] 3))
  replace HB := Lib.hid (HB.out.alloc HB.out.size (.cells #[.int .i64 1, .int .i64 2, .int .i64 3, .int .i64 4] 3))
  clear km hlt
  refine (mayS_any ⟨1, 1, 4, 2, 4, 0, [1, 2, 3, 4], 2, 0⟩ (some ⟨w4.heap.size, 0, none⟩) 4 false _ (by decide +kernel) (SpAt.lit KM.out) (by simp)).mono ?_
  rintro e w5 ⟨rfl, hb⟩
  replace KG : Hid (Bk w5 g 24 #[.int .i64 1, .int .i64 1, .int .i64 4, .int .i64 2, .int .i64 4, .int .i64 0, .slice (some ⟨w4.heap.size, 0, none⟩) 4 4, .int .i64 2, .int .i64 0]) := Lib.hid (by have kk := KG.out.go hb; simpa using kk)
  replace HB := Lib.hid (HB.out.trans (hb.mono HB.out.size))
  clear hb
  clear KM
  have c0 := KG.out.cell 0
  have f0 := KG.out.frozen 0
  have c1 := KG.out.cell 1
  have f1 := KG.out.frozen 1
  have c2 := KG.out.cell 2
  have f2 := KG.out.frozen 2
  have c3 := KG.out.cell 3
  have f3 := KG.out.frozen 3
  have c4 := KG.out.cell 4
  have f4 := KG.out.frozen 4
  have c5 := KG.out.cell 5
  have f5 := KG.out.frozen 5
  have c6 := KG.out.cell 6
  have f6 := KG.out.frozen 6
  have c7 := KG.out.cell 7
  have f7 := KG.out.frozen 7
  have c8 := KG.out.cell 8
  have f8 := KG.out.frozen 8
  simp at c0 c1 c2 c3 c4 c5 c6 c7 c8
  have hlt := KG.out.lt
  go_wp2_with fail
  clear c0 f0 c1 f1 c2 f2 c3 f3 c4 f4 c5 f5 c6 f6 c7 f7 c8 f8
  replace KG := Lib.hid (KG.out.set_ 6 (.slice (some ⟨w5.heap.size, 0, none⟩) 5 5))
  replace HB := Lib.hid (HB.out.setCell (p := ⟨g, 6, none⟩) hgB (.slice (some ⟨w5.heap.size, 0, none⟩) 5 5))
  have km := Bk.new (w5.setCell ⟨g, 6, none⟩ (.slice (some ⟨w5.heap.size, 0, none⟩) 5 5)) 3 #[.int .i64 1, .int .i64 2, .int .i64 3, .int .i64 4, .int .i64 5]
  rw [show (w5.setCell ⟨g, 6, none⟩ (.slice (some ⟨w5.heap.size, 0, none⟩) 5 5)).heap.size = w5.heap.size by simp [World.setCell]] at km
  have KM := Lib.hid km
  replace KG := Lib.hid (KG.out.alloc (.cells #[.int .i64 1, .int .i64 2, .int .i64 3, .int .i64 4, .int .i64 5] 3))
  replace HB := Lib.hid (HB.out.alloc HB.out.size (.cells #[.int .i64 1, .int .i64 2, .int .i64 3, .int .i64 4, .int .i64 5] 3))
  clear km hlt
  refine (mayS_any ⟨1, 1, 4, 2, 4, 0, [1, 2, 3, 4, 5], 2, 0⟩ (some ⟨w5.heap.size, 0, none⟩) 5 false _ (by decide +kernel) (SpAt.lit KM.out) (by simp)).mono ?_
  rintro e w6 ⟨rfl, hb⟩
  replace KG : Hid (Bk w6 g 24 #[.int .i64 1, .int .i64 1, .int .i64 4, .int .i64 2, .int .i64 4, .int .i64 0, .slice (some ⟨w5.heap.size, 0, none⟩) 5 5, .int .i64 2, .int .i64 0]) := Lib.hid (by have kk := KG.out.go hb; simpa using kk)
  replace HB := Lib.hid (HB.out.trans (hb.mono HB.out.size))
  clear hb
  clear KM
  have c0 := KG.out.cell 0
  have f0 := KG.out.frozen 0
  have c1 := KG.out.cell 1
  have f1 := KG.out.frozen 1
  have c2 := KG.out.cell 2
  have f2 := KG.out.frozen 2
  have c3 := KG.out.cell 3
  have f3 := KG.out.frozen 3
  have c4 := KG.out.cell 4
  have f4 := KG.out.frozen 4
  have c5 := KG.out.cell 5
  have f5 := KG.out.frozen 5
  have c6 := KG.out.cell 6
  have f6 := KG.out.frozen 6
  have c7 := KG.out.cell 7
  have f7 := KG.out.frozen 7
  have c8 := KG.out.cell 8
  have f8 := KG.out.frozen 8
  simp at c0 c1 c2 c3 c4 c5 c6 c7 c8
  go_wp2_with fail
  clear c0 f0 c1 f1 c2 f2 c3 f3 c4 f4 c5 f5 c6 f6 c7 f7 c8 f8
  replace KG := Lib.hid (KG.out.set_ 6 (.slice none 0 0))
  replace HB := Lib.hid (HB.out.setCell (p := ⟨g, 6, none⟩) hgB (.slice none 0 0))
  replace KG := Lib.hid (KG.out.set_ 8 (.int .i64 1))
  replace HB := Lib.hid (HB.out.setCell (p := ⟨g, 8, none⟩) hgB (.int .i64 1))
  refine (mayS_any ⟨1, 1, 4, 2, 4, 0, [], 2, 1⟩ (none) 0 false _ (by decide +kernel) (SpAt.nil _ _ _ rfl _) (by simp)).mono ?_
  rintro e w7 ⟨rfl, hb⟩
  replace KG : Hid (Bk w7 g 24 #[.int .i64 1, .int .i64 1, .int .i64 4, .int .i64 2, .int .i64 4, .int .i64 0, .slice none 0 0, .int .i64 2, .int .i64 1]) := Lib.hid (by have kk := KG.out.go hb; simpa using kk)
  replace HB := Lib.hid (HB.out.trans (hb.mono HB.out.size))
  clear hb
  go_wp2_with (go_at_call 17; refine (num_any _ _).mono ?_; rintro e w' ⟨rfl, rfl⟩)
  go_ret
  exact ⟨rfl, HB.out⟩
theorem walk_ParamsPocs (a0 : Int) (a1 : Int) (w : World) (w_a0 : (Lit.int .i64 a0).wf = true) (w_a1 : (Lit.int .i64 a1).wf = true) :
    Calls Try.prog 7 #[.int .i64 a0, .int .i64 a1] w fun e w' => e = .returned (.bool true) ∧ Below w.heap.size w w' := by
  have hu := u64_tmod_bd a0 3 (by omega)
  obtain ⟨k, hk⟩ : ∃ k, (IntKind.u64.wrap a0).tmod 3 = k := ⟨_, rfl⟩
  rw [hk] at hu
  have hc : k = 0 ∨ k = 1 ∨ k = 2 := by omega
  rcases hc with rfl | rfl | rfl
  · exact pocs_0 a0 a1 w hk
  · exact pocs_1 a0 a1 w hk
  · exact pocs_2 a0 a1 w hk
end Go.Proofs.Ytegfglpaabddlaa
