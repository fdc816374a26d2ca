/- The statement PlanAll: the walk. -/
import Derived.Test.YtoniejneoibpoaaPlanK
namespace Go.Proofs.Ytoniejneoibpoaa
open Go.RowKit
set_option linter.unusedVariables false
set_option linter.unusedSimpArgs false
attribute [local go_sem] ite_max ite_min

theorem Pocs.of {w w1 : World} {A : Option Addr} {L : List Pic} (h : Rp w A L) (hf : ∀ a, A = some a → ∃ g, a = ⟨g, 0, none⟩ ∧ ∀ o, w.frozen? ⟨g, o, none⟩ = false) (h0 : 0 < L.length) :
    ∃ g, A = some ⟨g, 0, none⟩ ∧ Pocs w g L.length := by
  obtain ⟨g, rfl, hg, _⟩ := h.at_ h0
  refine ⟨g, rfl, fun j hj => ?_, ?_⟩
  · obtain ⟨g', e, _, _, _, _, _, hc⟩ := h.at_ hj
    obtain rfl : g = g' := by injection e with e; injection e
    exact ⟨_, hc⟩
  · obtain ⟨g', e, hq⟩ := hf _ rfl
    obtain rfl : g = g' := by injection e
    exact hq

set_option maxRecDepth 100000 in
set_option maxHeartbeats 3200000 in
theorem walk_PlanAll (wide high refs qp bs period : Int) (cabac : Bool) (slices : Int) (pcm deblock : Bool) (poc bits many : Int) (w : World) (_ : (Lit.int .i64 wide).wf = true) (_ : (Lit.int .i64 high).wf = true) (_ : (Lit.int .i64 refs).wf = true) (_ : (Lit.int .i64 qp).wf = true) (_ : (Lit.int .i64 bs).wf = true) (_ : (Lit.int .i64 period).wf = true) (_ : (Lit.int .i64 slices).wf = true) (_ : (Lit.int .i64 poc).wf = true) (_ : (Lit.int .i64 bits).wf = true) (_ : (Lit.int .i64 many).wf = true) :
    Calls Try.prog 4 #[.agg #[.int .i64 wide, .int .i64 high, .int .i64 refs, .int .i64 qp, .int .i64 bs, .int .i64 period, .bool cabac, .int .i64 slices, .bool pcm, .bool deblock, .int .i64 poc, .int .i64 bits], .int .i64 many] w fun e w' => e = .returned (.bool true) ∧ Below w.heap.size w w' := by
  have H1 := plan_any wide high refs qp bs period cabac slices pcm deblock poc bits many
  have H2 := plan2_any wide high refs qp bs period cabac slices pcm deblock poc bits many
  have hL := resL_len (okP wide high refs qp bs period slices poc bits many) bs period many (fun h => by have := okP_bd h; omega)
  generalize resL (okP wide high refs qp bs period slices poc bits many) bs period many = L at *
  generalize resC (okP wide high refs qp bs period slices poc bits many) = C at *
  unfold cfgV at H1 H2
  have H1 := Lib.hid H1
  have H2 := Lib.hid H2
  go_enter Try.func4, Try.ntmps4
  go_wp2_with fail
  refine (H1.out _).mono ?_
  rintro e w1 hq
  obtain ⟨A1, p1, rfl, c1, d1, hr, hl1, hn1, hf1, hb⟩ := Row.open_ hq
  have BB := Lib.hid (((Below.refl w.heap.size w).alloc (Nat.le_refl _) _).trans (hb.mono (by simp)))
  have KC : Hid (Bk w1 w.heap.size 24 (cfgV wide high refs qp bs period cabac slices pcm deblock poc bits)) := Lib.hid ((Bk.new _ _ _).go hb)
  have R1 := Lib.hid hr
  have hl1 : ∀ g, A1 = some ⟨g, 0, none⟩ → w.heap.size + 1 ≤ g ∧ g < w1.heap.size := fun g q => by have := hl1 g q; simpa using this
  have L1 := Lib.hid hl1
  have F1 := Lib.hid hf1
  clear hb hq hr hn1 hl1 hf1
  have g0 : w1.cell? ⟨w.heap.size, 0, none⟩ = _ := KC.out.cell 0
  have g1 : w1.cell? ⟨w.heap.size, 1, none⟩ = _ := KC.out.cell 1
  have g2 : w1.cell? ⟨w.heap.size, 2, none⟩ = _ := KC.out.cell 2
  have g3 : w1.cell? ⟨w.heap.size, 3, none⟩ = _ := KC.out.cell 3
  have g4 : w1.cell? ⟨w.heap.size, 4, none⟩ = _ := KC.out.cell 4
  have g5 : w1.cell? ⟨w.heap.size, 5, none⟩ = _ := KC.out.cell 5
  have g6 : w1.cell? ⟨w.heap.size, 6, none⟩ = _ := KC.out.cell 6
  have g7 : w1.cell? ⟨w.heap.size, 7, none⟩ = _ := KC.out.cell 7
  have g8 : w1.cell? ⟨w.heap.size, 8, none⟩ = _ := KC.out.cell 8
  have g9 : w1.cell? ⟨w.heap.size, 9, none⟩ = _ := KC.out.cell 9
  have g10 : w1.cell? ⟨w.heap.size, 10, none⟩ = _ := KC.out.cell 10
  have g11 : w1.cell? ⟨w.heap.size, 11, none⟩ = _ := KC.out.cell 11
  simp [cfgV] at g0 g1 g2 g3 g4 g5 g6 g7 g8 g9 g10 g11
  go_wp2_with fail
  refine (H1.out _).mono ?_
  rintro e w2 hq
  obtain ⟨A2, p2, rfl, c2, d2, hr, hl2, hn2, hf2, hb⟩ := Row.open_ hq
  have BB := Lib.hid (BB.out.trans (hb.mono BB.out.size))
  have KC := Lib.hid (KC.out.go hb)
  have R1 := Lib.hid (R1.out.go hb)
  have R2 := Lib.hid hr
  have L2 := Lib.hid hl2
  have F1 : Hid (∀ a, A1 = some a → ∃ g, a = ⟨g, 0, none⟩ ∧ ∀ o, w2.frozen? ⟨g, o, none⟩ = false) := Lib.hid fun a q => by
    obtain ⟨g, rfl, hz⟩ := F1.out a q
    exact ⟨g, rfl, fun o => (hb.frozen (p := ⟨g, o, none⟩) (L1.out g q).2).trans (hz o)⟩
  have S2 := Lib.hid hb.size
  clear hb hq hr hn2 hl2 hf2 g0 g1 g2 g3 g4 g5 g6 g7 g8 g9 g10 g11
  have g0 : w2.cell? ⟨w.heap.size, 0, none⟩ = _ := KC.out.cell 0
  have g1 : w2.cell? ⟨w.heap.size, 1, none⟩ = _ := KC.out.cell 1
  have g2 : w2.cell? ⟨w.heap.size, 2, none⟩ = _ := KC.out.cell 2
  have g3 : w2.cell? ⟨w.heap.size, 3, none⟩ = _ := KC.out.cell 3
  have g4 : w2.cell? ⟨w.heap.size, 4, none⟩ = _ := KC.out.cell 4
  have g5 : w2.cell? ⟨w.heap.size, 5, none⟩ = _ := KC.out.cell 5
  have g6 : w2.cell? ⟨w.heap.size, 6, none⟩ = _ := KC.out.cell 6
  have g7 : w2.cell? ⟨w.heap.size, 7, none⟩ = _ := KC.out.cell 7
  have g8 : w2.cell? ⟨w.heap.size, 8, none⟩ = _ := KC.out.cell 8
  have g9 : w2.cell? ⟨w.heap.size, 9, none⟩ = _ := KC.out.cell 9
  have g10 : w2.cell? ⟨w.heap.size, 10, none⟩ = _ := KC.out.cell 10
  have g11 : w2.cell? ⟨w.heap.size, 11, none⟩ = _ := KC.out.cell 11
  simp [cfgV] at g0 g1 g2 g3 g4 g5 g6 g7 g8 g9 g10 g11
  go_wp2_with fail
  refine (H2.out _).mono ?_
  rintro e w3 hq
  obtain ⟨A3, p3, rfl, c3, d3, hr, hl3, hn3, hf3, hb⟩ := Row.open_ hq
  have BB := Lib.hid (BB.out.trans (hb.mono BB.out.size))
  have R1 := Lib.hid (R1.out.go hb)
  have R2 := Lib.hid (R2.out.go hb)
  have R3 := Lib.hid hr
  have L3 := Lib.hid hl3
  have F1 : Hid (∀ a, A1 = some a → ∃ g, a = ⟨g, 0, none⟩ ∧ ∀ o, w3.frozen? ⟨g, o, none⟩ = false) := Lib.hid fun a q => by
    obtain ⟨g, rfl, hz⟩ := F1.out a q
    exact ⟨g, rfl, fun o => (hb.frozen (p := ⟨g, o, none⟩) (Nat.lt_of_lt_of_le (L1.out g q).2 S2.out)).trans (hz o)⟩
  have S3 := Lib.hid hb.size
  clear hb hq hr hn3 hl3 hf3 g0 g1 g2 g3 g4 g5 g6 g7 g8 g9 g10 g11 H1 H2
  go_wp2_with fail
  refine (samep_yes _ _ _ _ L _ R1.out R3.out (by omega)).mono ?_
  rintro e w4 ⟨rfl, hb⟩
  have BB := Lib.hid (BB.out.trans (hb.mono BB.out.size))
  have R1 := Lib.hid (R1.out.go hb)
  have R2 := Lib.hid (R2.out.go hb)
  have R3 := Lib.hid (R3.out.go hb)
  have F1 : Hid (∀ a, A1 = some a → ∃ g, a = ⟨g, 0, none⟩ ∧ ∀ o, w4.frozen? ⟨g, o, none⟩ = false) := Lib.hid fun a q => by
    obtain ⟨g, rfl, hz⟩ := F1.out a q
    exact ⟨g, rfl, fun o => (hb.frozen (p := ⟨g, o, none⟩) (Nat.lt_of_lt_of_le (Nat.lt_of_lt_of_le (L1.out g q).2 S2.out) S3.out)).trans (hz o)⟩
  clear hb
  go_wp2_with (go_at_call 22; refine (num_any _ _).mono ?_; rintro e w' ⟨rfl, rfl⟩)
  refine (spoil_any A1 L.length p1 w4 (fun h => Pocs.of (w1 := w4) R1.out F1.out h) (by omega)).mono ?_
  rintro e w5 ⟨rfl, ht⟩
  have R2 : Hid (Rp w5 A2 L) := Lib.hid (R2.out.touch ht fun g q q' => by have := (L1.out g q').2; have := (L2.out g q).1; omega)
  have R3 : Hid (Rp w5 A3 L) := Lib.hid (R3.out.touch ht fun g q q' => by have := (L1.out g q').2; have := (L3.out g q).1; have := S2.out; omega)
  have BB : Hid (Below w.heap.size w w5) := Lib.hid (Below.touch BB.out ht (fun i hi q => by have := (L1.out i q).1; omega) (Nat.le_refl _))
  clear ht
  go_wp2_with fail
  refine (samep_yes _ _ _ _ L _ R2.out R3.out (by omega)).mono ?_
  rintro e w6 ⟨rfl, hb⟩
  have BB := Lib.hid (BB.out.trans (hb.mono BB.out.size))
  clear hb
  go_wp2_with fail
  refine (awake_any _).mono ?_
  rintro e w7 ⟨rfl, hb⟩
  have BB := Lib.hid (BB.out.trans (hb.mono BB.out.size))
  clear hb
  go_wp2_with fail
  go_ret
  exact ⟨rfl, BB.out⟩

end Go.Proofs.Ytoniejneoibpoaa
