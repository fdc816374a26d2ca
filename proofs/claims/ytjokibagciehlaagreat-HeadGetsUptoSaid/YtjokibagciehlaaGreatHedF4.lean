/- May: region 4 fails. Printed by gen-hedo.py. -/
import Derived.Test.YtjokibagciehlaaGreatHedF
namespace Go.Proofs.YtjokibagciehlaaGreat
open Go.RowKit
set_option linter.unusedVariables false
set_option linter.unusedSimpArgs false

set_option maxRecDepth 100000 in
set_option maxHeartbeats 12800000 in
theorem may_4 (h : Hd) (q : Ha) (s : Sp) (A : Option Addr) (c : Nat) (p : Pp) (ref : Int) (key : Bool) (w : World) (H : HdAt w w.heap.size h q) (L : HdLen h) (hs : SpAt w w.heap.size s A) (hn : s.cy.length ≤ 1152921504606846976)
    (hms : maySp s = true) (hmp : mayPp p = true) (hi3 : inR 0 3 ref = true) (hr4 : r4 h s key = false) :
    Calls Tryz.prog 11 #[.agg (hdV h q), .agg (spV s A c), .agg (ppV p), .int .i64 ref, .bool key] w fun e w' => e = .returned (.bool (false)) ∧ Below w.heap.size w w' := by
  have HM := Lib.hid (MayAt.start (c := c) (p := p) H hs)
  have HSP := Lib.hid ((maySp_iff s).1 hms)
  have D1 : Hid (∀ w, SpAt w w.heap.size s A → Calls Tryz.prog 40 #[.agg (spV s A c)] w fun e w' => e = .returned (.bool true) ∧ Below w.heap.size w w') := Lib.hid (fun w hs => hms ▸ maysp_any s A c w hs hn)
  have D2 : Hid (∀ w, Calls Tryz.prog 41 #[.agg (ppV p)] w fun e w' => e = .returned (.bool true) ∧ Below w.heap.size w w') := Lib.hid (fun w => hmp ▸ maypp_any p w)
  have D3 : Hid (∀ w, Calls Tryz.prog 42 #[.int .i64 ref, .int .i64 0, .int .i64 3] w fun e w' => e = .returned (.bool true) ∧ w = w') := Lib.hid (fun w => hi3 ▸ hin_any ref 0 3 w)
  have HQ4 := Lib.hid hr4
  clear hms hmp hi3 hs hr4
  have HOL := Lib.hid L.ops
  unfold hdV spV ppV at HM
  simp only [hdV, spV, ppV] at D1 D2  ⊢
  clear H L
  go_enter Tryz.func11, Tryz.ntmps11
  go_wp2_with fail
  refine (D1.out _ HM.out.sp).mono ?_
  rintro e wa ⟨rfl, hb⟩
  replace HM : Hid (MayAt w wa h q s A c p) := Lib.hid (HM.out.go hb)
  clear hb D1
  have g0 := HM.out.k3.cell 0
  have g1 := HM.out.k3.cell 1
  have g2 := HM.out.k3.cell 2
  have g3 := HM.out.k3.cell 3
  have g4 := HM.out.k3.cell 4
  have g5 := HM.out.k3.cell 5
  have g6 := HM.out.k3.cell 6
  have g7 := HM.out.k3.cell 7
  have g8 := HM.out.k3.cell 8
  simp [ppV] at g0 g1 g2 g3 g4 g5 g6 g7 g8
  go_wp2_with fail
  clear g0 g1 g2 g3 g4 g5 g6 g7 g8
  refine (D2.out _).mono ?_
  rintro e wb ⟨rfl, hb⟩
  replace HM := Lib.hid (HM.out.go hb)
  clear hb D2
  go_wp2_with fail
  refine (D3.out _).mono ?_
  rintro e wb' ⟨rfl, rfl⟩
  have hall : 1 ≤ s.wide * s.high ∧ s.wide * s.high ≤ 64 := by
    obtain ⟨⟨q1, q2⟩, ⟨q3, q4⟩, _⟩ := HSP.out
    have hw : s.wide = 1 ∨ s.wide = 2 ∨ s.wide = 3 ∨ s.wide = 4 ∨ s.wide = 5 ∨ s.wide = 6 ∨ s.wide = 7 ∨ s.wide = 8 := by omega
    rcases hw with e | e | e | e | e | e | e | e <;> rw [e] <;> omega
  obtain ⟨all, hAll⟩ : ∃ x, x = s.wide * s.high := ⟨_, rfl⟩
  have hwr : IntKind.i64.wrap (s.wide * s.high) = all := by rw [hAll]; exact IntWalk.i64_in _ (by omega)
  rw [← hAll] at hall
  obtain ⟨hal1, hal2⟩ := hall
  have HAll := Lib.hid hAll
  clear hAll D3
  have d0 := HM.out.k2.cell 0
  have d1 := HM.out.k2.cell 1
  simp [spV] at d0 d1
  go_upto_region 4 with fail
  clear d0 d1
  clear hwr
  have c0 := HM.out.k1.cell 0
  have c1 := HM.out.k1.cell 1
  have c2 := HM.out.k1.cell 2
  simp [hdV] at c0 c1 c2
  obtain ⟨f0, hf0⟩ : ∃ b, inR 0 all h.first = b := ⟨_, rfl⟩
  obtain ⟨f1, hf1⟩ : ∃ b, inR 1 (all - h.first) h.count = b := ⟨_, rfl⟩
  obtain ⟨f2, hf2⟩ : ∃ b, inR 0 2 h.type = b := ⟨_, rfl⟩
  obtain ⟨ty, hty⟩ : ∃ b, (h.type != 2) = b := ⟨_, rfl⟩
  have HR := Lib.hid (show (f0 && f1 && f2 && !(key && ty)) = false by rw [← HQ4.out]; unfold r4; rw [← HAll.out, hf0, hf1, hf2, hty])
  have E0 := Lib.hid (fun w => hf0 ▸ hin_any h.first 0 all w)
  have E1 := Lib.hid (fun w => hf1 ▸ hin_any h.count 1 (all - h.first) w)
  have E2 := Lib.hid (fun w => hf2 ▸ hin_any h.type 0 2 w)
  have HB0 := Lib.hid (fun e : f0 = true => inR_iff.1 (hf0.trans e))
  clear hf0 hf1 hf2
  have hw := (by intro f0 f1 f2 key ty; cases f0 <;> cases f1 <;> cases f2 <;> cases key <;> cases ty <;> simp : ∀ (f0 f1 f2 key ty : Bool), (f0 && f1 && f2 && !(key && ty)) = false → (f0 = false) ∨ (f0 = true ∧ f1 = false) ∨ (f0 = true ∧ f1 = true ∧ f2 = false) ∨ (f0 = true ∧ f1 = true ∧ f2 = true ∧ key = true ∧ ty = true)) f0 f1 f2 key ty HR.out
  rcases hw with rfl | ⟨rfl, rfl⟩ | ⟨rfl, rfl, rfl⟩ | ⟨rfl, rfl, rfl, rfl, rfl⟩
  · skip
    go_wp2_with (go_at_call 42; first | (with_reducible refine (E0.out _).mono ?_; rintro e w' ⟨rfl, rfl⟩) | (with_reducible refine (E1.out _).mono ?_; rintro e w' ⟨rfl, rfl⟩) | (with_reducible refine (E2.out _).mono ?_; rintro e w' ⟨rfl, rfl⟩))
    go_ret
    exact ⟨rfl, HM.out.below⟩
  · skip
    obtain ⟨hz1, hz2⟩ := HB0.out rfl
    go_wp2_with (go_at_call 42; first | (with_reducible refine (E0.out _).mono ?_; rintro e w' ⟨rfl, rfl⟩) | (with_reducible refine (E1.out _).mono ?_; rintro e w' ⟨rfl, rfl⟩) | (with_reducible refine (E2.out _).mono ?_; rintro e w' ⟨rfl, rfl⟩))
    go_ret
    exact ⟨rfl, HM.out.below⟩
  · skip
    obtain ⟨hz1, hz2⟩ := HB0.out rfl
    go_wp2_with (go_at_call 42; first | (with_reducible refine (E0.out _).mono ?_; rintro e w' ⟨rfl, rfl⟩) | (with_reducible refine (E1.out _).mono ?_; rintro e w' ⟨rfl, rfl⟩) | (with_reducible refine (E2.out _).mono ?_; rintro e w' ⟨rfl, rfl⟩))
    go_ret
    exact ⟨rfl, HM.out.below⟩
  · skip
    obtain ⟨hz1, hz2⟩ := HB0.out rfl
    go_wp2_with (go_at_call 42; first | (with_reducible refine (E0.out _).mono ?_; rintro e w' ⟨rfl, rfl⟩) | (with_reducible refine (E1.out _).mono ?_; rintro e w' ⟨rfl, rfl⟩) | (with_reducible refine (E2.out _).mono ?_; rintro e w' ⟨rfl, rfl⟩))
    go_ret
    exact ⟨rfl, HM.out.below⟩
end Go.Proofs.YtjokibagciehlaaGreat
