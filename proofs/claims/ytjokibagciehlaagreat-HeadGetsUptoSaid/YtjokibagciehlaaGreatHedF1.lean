/- May: parameters that may not be. Printed by gen-hedo.py. -/
import Derived.Test.YtjokibagciehlaaGreatHedF
namespace Go.Proofs.YtjokibagciehlaaGreat
open Go.RowKit
set_option linter.unusedVariables false
set_option linter.unusedSimpArgs false

set_option maxRecDepth 100000 in
set_option maxHeartbeats 12800000 in
theorem may_1 (h : Hd) (q : Ha) (s : Sp) (A : Option Addr) (c : Nat) (p : Pp) (ref : Int) (key : Bool) (w : World) (H : HdAt w w.heap.size h q) (L : HdLen h) (hs : SpAt w w.heap.size s A) (hn : s.cy.length ≤ 1152921504606846976)
     (h0 : ¬ (maySp s = true ∧ mayPp p = true ∧ inR 0 3 ref = true)) :
    Calls Tryz.prog 11 #[.agg (hdV h q), .agg (spV s A c), .agg (ppV p), .int .i64 ref, .bool key] w fun e w' => e = .returned (.bool (false)) ∧ Below w.heap.size w w' := by
  have HM := Lib.hid (MayAt.start (c := c) (p := p) H hs)
  have D1 : Hid (∀ w, SpAt w w.heap.size s A → Calls Tryz.prog 40 #[.agg (spV s A c)] w fun e w' => e = .returned (.bool (maySp s)) ∧ Below w.heap.size w w') := Lib.hid (fun w hs => maysp_any s A c w hs hn)
  have D2 : Hid (∀ w, Calls Tryz.prog 41 #[.agg (ppV p)] w fun e w' => e = .returned (.bool (mayPp p)) ∧ Below w.heap.size w w') := Lib.hid (fun w => maypp_any p w)
  have D3 : Hid (∀ w, Calls Tryz.prog 42 #[.int .i64 ref, .int .i64 0, .int .i64 3] w fun e w' => e = .returned (.bool (inR 0 3 ref)) ∧ w = w') := Lib.hid (fun w => hin_any ref 0 3 w)
  have HR := Lib.hid h0
  obtain ⟨z1, hz1⟩ : ∃ b, maySp s = b := ⟨_, rfl⟩
  obtain ⟨z2, hz2⟩ : ∃ b, mayPp p = b := ⟨_, rfl⟩
  obtain ⟨z3, hz3⟩ : ∃ b, inR 0 3 ref = b := ⟨_, rfl⟩
  rw [hz1, hz2, hz3] at HR
  rw [hz1] at D1
  rw [hz2] at D2
  rw [hz3] at D3
  clear h0 hz1 hz2 hz3 hs H L
  unfold hdV spV ppV at HM
  simp only [hdV, spV, ppV] at D1 D2 ⊢
  have d0 := HM.out.k2.cell 0
  have d1 := HM.out.k2.cell 1
  have d2 := HM.out.k2.cell 2
  have d3 := HM.out.k2.cell 3
  have d4 := HM.out.k2.cell 4
  have d5 := HM.out.k2.cell 5
  have d6 := HM.out.k2.cell 6
  have d7 := HM.out.k2.cell 7
  have d8 := HM.out.k2.cell 8
  simp [spV] at d0 d1 d2 d3 d4 d5 d6 d7 d8
  have g0 := HM.out.k3.cell 0
  have g1 := HM.out.k3.cell 1
  have g2 := HM.out.k3.cell 2
  have g3 := HM.out.k3.cell 3
  have g4 := HM.out.k3.cell 4
  have g5 := HM.out.k3.cell 5
  have g6 := HM.out.k3.cell 6
  have g7 := HM.out.k3.cell 7
  have g8 := HM.out.k3.cell 8
  simp [ppV] at g0 g1 g2 g3 g4 g5 g6 g7 g8
  cases z1
  · skip
    go_enter Tryz.func11, Tryz.ntmps11
    go_wp2_with fail
    refine (D1.out _ HM.out.sp).mono ?_
    rintro e wa ⟨rfl, hb⟩
    replace HM := Lib.hid (HM.out.go hb)
    clear hb
    clear d0 d1 d2 d3 d4 d5 d6 d7 d8 g0 g1 g2 g3 g4 g5 g6 g7 g8
    go_wp2_with fail
    go_ret
    refine ⟨?_, HM.out.below⟩
    first | rfl | (simp; done) | (simp; omega)
  cases z2
  · skip
    go_enter Tryz.func11, Tryz.ntmps11
    go_wp2_with fail
    refine (D1.out _ HM.out.sp).mono ?_
    rintro e wa ⟨rfl, hb⟩
    replace HM := Lib.hid (HM.out.go hb)
    clear hb
    clear d0 d1 d2 d3 d4 d5 d6 d7 d8 g0 g1 g2 g3 g4 g5 g6 g7 g8
    have g0 := HM.out.k3.cell 0
    have g1 := HM.out.k3.cell 1
    have g2 := HM.out.k3.cell 2
    have g3 := HM.out.k3.cell 3
    have g4 := HM.out.k3.cell 4
    have g5 := HM.out.k3.cell 5
    have g6 := HM.out.k3.cell 6
    have g7 := HM.out.k3.cell 7
    have g8 := HM.out.k3.cell 8
    simp [ppV] at g0 g1 g2 g3 g4 g5 g6 g7 g8
    go_wp2_with fail
    refine (D2.out _).mono ?_
    rintro e wb ⟨rfl, hb⟩
    replace HM := Lib.hid (HM.out.go hb)
    clear hb
    go_wp2_with fail
    go_ret
    refine ⟨?_, HM.out.below⟩
    first | rfl | (simp; done) | (simp; omega)
  cases z3
  · skip
    go_enter Tryz.func11, Tryz.ntmps11
    go_wp2_with fail
    refine (D1.out _ HM.out.sp).mono ?_
    rintro e wa ⟨rfl, hb⟩
    replace HM := Lib.hid (HM.out.go hb)
    clear hb
    clear d0 d1 d2 d3 d4 d5 d6 d7 d8 g0 g1 g2 g3 g4 g5 g6 g7 g8
    have g0 := HM.out.k3.cell 0
    have g1 := HM.out.k3.cell 1
    have g2 := HM.out.k3.cell 2
    have g3 := HM.out.k3.cell 3
    have g4 := HM.out.k3.cell 4
    have g5 := HM.out.k3.cell 5
    have g6 := HM.out.k3.cell 6
    have g7 := HM.out.k3.cell 7
    have g8 := HM.out.k3.cell 8
    simp [ppV] at g0 g1 g2 g3 g4 g5 g6 g7 g8
    go_wp2_with fail
    refine (D2.out _).mono ?_
    rintro e wb ⟨rfl, hb⟩
    replace HM := Lib.hid (HM.out.go hb)
    clear hb
    go_wp2_with fail
    refine (D3.out _).mono ?_
    rintro e wc ⟨rfl, rfl⟩
    go_wp2_with fail
    go_ret
    refine ⟨?_, HM.out.below⟩
    first | rfl | (simp; done) | (simp; omega)
  exact absurd ⟨rfl, rfl, rfl⟩ HR.out
end Go.Proofs.YtjokibagciehlaaGreat
