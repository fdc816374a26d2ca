/- The statement InterpFar: the walk. -/
import Derived.Test.YtoagihocibeidaaIntN
import Derived.Test.YtoagihocibeidaaIntP
namespace Go.Proofs.Ytoagihocibeidaa
open Go.RowKit
set_option linter.unusedVariables false
set_option linter.unusedSimpArgs false
attribute [local go_sem] ite_max ite_min and_3 and_7 and_255

theorem fair_mk {n W H x y bw bh : Int} (h : (1 ≤ W ∧ W ≤ 128) ∧ (1 ≤ H ∧ H ≤ 128) ∧ n = W * H ∧ (1 ≤ bw ∧ bw ≤ 16) ∧ (1 ≤ bh ∧ bh ≤ 16) ∧ (-4096 ≤ x ∧ x ≤ 4096) ∧ (-4096 ≤ y ∧ y ≤ 4096)) : fairB n W H x y bw bh = true := decide_eq_true h

/-- a block of 4 by 4 -/
theorem luma44 (A : Option Addr) (n c : Nat) (s : Nat → Int) (W H x y : Int) (w : World) (hr : Rb w A n s) (hs : ∀ k, 0 ≤ s k ∧ s k ≤ 255) (hn : (n : Int) = W * H) (hW : 1 ≤ W ∧ W ≤ 128) (hH : 1 ≤ H ∧ H ≤ 128) (hx : -4096 ≤ x ∧ x ≤ 4096) (hy : -4096 ≤ y ∧ y ≤ 4096) :
    Calls Try.prog 11 #[.slice A n c, .int .i64 W, .int .i64 H, .int .i64 x, .int .i64 y, .int .i64 4, .int .i64 4] w (Gives w 16 (lumF s W H x y 4) 0) :=
  luma_yes A n c s W H x y 4 4 w hr hs (fair_mk ⟨hW, hH, hn, by omega, by omega, hx, hy⟩)
theorem chroma44 (A : Option Addr) (n c : Nat) (s : Nat → Int) (W H x y : Int) (w : World) (hr : Rb w A n s) (hs : ∀ k, 0 ≤ s k ∧ s k ≤ 255) (hn : (n : Int) = W * H) (hW : 1 ≤ W ∧ W ≤ 128) (hH : 1 ≤ H ∧ H ≤ 128) (hx : -4096 ≤ x ∧ x ≤ 4096) (hy : -4096 ≤ y ∧ y ≤ 4096) :
    Calls Try.prog 13 #[.slice A n c, .int .i64 W, .int .i64 H, .int .i64 x, .int .i64 y, .int .i64 4, .int .i64 4] w (Gives w 16 (chrF s W H x y 4) 0) :=
  chroma_yes A n c s W H x y 4 4 w hr hs (fair_mk ⟨hW, hH, hn, by omega, by omega, hx, hy⟩)

theorem Rb.cell {w : World} {g n : Nat} {s : Nat → Int} (h : Rb w (some ⟨g, 0, none⟩) n s) {k : Nat} (hk : k < n) : w.cell? ⟨g, k, none⟩ = some (.int .u8 (s k)) := by
  obtain ⟨ad, e, _, hc⟩ := h (by omega)
  obtain rfl : (⟨g, 0, none⟩ : Addr) = ad := by injection e
  have := hc k hk
  rwa [add_new] at this

theorem far_lum1 (s : Nat → Int) (hs : ∀ k, 0 ≤ s k ∧ s k ≤ 255) (X Y : Int) (hX : 400 ≤ X) (hY : 400 ≤ Y) (k : Nat) (hk : k < 16) : lumF s 5 5 X Y 4 k = s 24 := by
  unfold lumF
  refine near_lum (fun i j hi hj => ?_) (hs 24) _
  unfold atS
  congr 1
  unfold atI cl
  omega
theorem far_lum2 (s : Nat → Int) (hs : ∀ k, 0 ≤ s k ∧ s k ≤ 255) (X Y : Int) (hX : X ≤ -300) (hY : Y ≤ -300) (k : Nat) (hk : k < 16) : lumF s 5 5 X Y 4 k = s 0 := by
  unfold lumF
  refine near_lum (fun i j hi hj => ?_) (hs 0) _
  unfold atS
  congr 1
  unfold atI cl
  omega
theorem far_chr (s : Nat → Int) (hs : ∀ k, 0 ≤ s k ∧ s k ≤ 255) (X Y : Int) (hX : 800 ≤ X) (hY : Y ≤ -700) (k : Nat) (hk : k < 16) : chrF s 5 5 X Y 4 k = s 4 := by
  unfold chrF
  refine near_chr (c := s 4) (fun i j hi hj => ?_) _ _ (by omega) (by omega)
  unfold atS
  congr 1
  unfold atI cl
  omega

set_option maxRecDepth 100000 in
set_option maxHeartbeats 3200000 in
theorem walk_InterpFar (a0 : Option Addr) (n0 c0 : Nat) (z : Nat → Int) (x y : Int) (w : World) (w_a0 : BytesArg w a0 n0 c0 z) (w_a1 : (Lit.int .i64 x).wf = true) (w_a2 : (Lit.int .i64 y).wf = true) :
    Calls Try.prog 8 #[.slice a0 n0 c0, .int .i64 x, .int .i64 y] w fun e w' => e = .returned (.bool true) ∧ Below w.heap.size w w' := by
  obtain ⟨hr0, hnil, hnc, hcm, hz⟩ := w_a0
  have hn0 : n0 ≤ 140737488351232 := by omega
  have hsb := fun k => plane_bd (n := n0) hz 5 k
  have HZ := Lib.hid hr0
  have b1 : 0 ≤ x % 256 ∧ x % 256 ≤ 255 := by omega
  have b2 : 0 ≤ y % 256 ∧ y % 256 ≤ 255 := by omega
  have b3 : 0 ≤ x % 4 ∧ x % 4 ≤ 3 := by omega
  have b4 : 0 ≤ y % 4 ∧ y % 4 ≤ 3 := by omega
  have b5 : 0 ≤ x % 8 ∧ x % 8 ≤ 7 := by omega
  have b6 : 0 ≤ y % 8 ∧ y % 8 ≤ 7 := by omega
  clear w_a1 w_a2 hr0 hnil
  have BB := Lib.hid (Below.refl w.heap.size w)
  go_enter Try.func8, Try.ntmps8
  go_wp2_with fail
  refine (awake_any _).mono ?_
  rintro e w1 ⟨rfl, hb⟩
  have HZ : Hid (Rb w1 a0 n0 z) := Lib.hid (Rd.go HZ.out hb)
  have BB := Lib.hid (BB.out.trans (hb.mono BB.out.size))
  clear hb
  go_wp2_with fail
  refine (plane_any a0 n0 c0 z 5 5 w1 HZ.out (by omega) (by omega) (by omega)).mono ?_
  rintro e w2 ⟨rfl, har, hb⟩
  have RP : Hid (Rb w2 (some ⟨w1.heap.size, 0, none⟩) 25 (planeF n0 z 5)) := Lib.hid har.rd
  clear har
  have BB := Lib.hid (BB.out.trans (hb.mono BB.out.size))
  clear hb
  obtain ⟨s, hs⟩ : ∃ s, s = planeF n0 z 5 := ⟨_, rfl⟩
  rw [← hs] at hsb RP
  clear hs
  have HS := Lib.hid hsb
  have s24 := hsb 24
  have s0 := hsb 0
  have s4 := hsb 4
  clear hsb
  go_wp2_with fail
  refine Calls.mono (luma44 _ 25 _ s 5 5 _ _ _ RP.out HS.out (by omega) (by omega) (by omega) (by omega) (by omega)) ?_
  rintro e w3 hq
  obtain ⟨A1, p1, rfl, hr, -, -, hb⟩ := gives_at hq
  clear hq
  have BB := Lib.hid (BB.out.trans (hb.mono BB.out.size))
  have RP := Lib.hid (Rd.go RP.out hb)
  clear hb
  have R1 := Lib.hid (Rd.congr hr fun k hk => (congrArg (Value.int .i64) (far_lum1 s HS.out _ _ (by omega) (by omega) k hk)))
  clear hr
  go_wp2_with fail
  refine Calls.mono (luma44 _ 25 _ s 5 5 _ _ _ RP.out HS.out (by omega) (by omega) (by omega) (by omega) (by omega)) ?_
  rintro e w4 hq
  obtain ⟨A2, p2, rfl, hr, -, -, hb⟩ := gives_at hq
  clear hq
  have BB := Lib.hid (BB.out.trans (hb.mono BB.out.size))
  have RP := Lib.hid (Rd.go RP.out hb)
  have R1 := Lib.hid (Rd.go R1.out hb)
  clear hb
  have R2 := Lib.hid (Rd.congr hr fun k hk => (congrArg (Value.int .i64) (far_lum2 s HS.out _ _ (by omega) (by omega) k hk)))
  clear hr
  go_wp2_with fail
  refine Calls.mono (chroma44 _ 25 _ s 5 5 _ _ _ RP.out HS.out (by omega) (by omega) (by omega) (by omega) (by omega)) ?_
  rintro e w5 hq
  obtain ⟨A3, p3, rfl, hr, -, -, hb⟩ := gives_at hq
  clear hq
  have BB := Lib.hid (BB.out.trans (hb.mono BB.out.size))
  have RP := Lib.hid (Rd.go RP.out hb)
  have R1 := Lib.hid (Rd.go R1.out hb)
  have R2 := Lib.hid (Rd.go R2.out hb)
  clear hb
  have R3 := Lib.hid (Rd.congr hr fun k hk => (congrArg (Value.int .i64) (far_chr s HS.out _ _ (by omega) (by omega) k hk)))
  clear hr
  go_wp2_with (go_at_call 16; refine (num_any _ _).mono ?_; rintro e w' ⟨rfl, rfl⟩)
  go_loopw [16] (fun t wr => ∃ k : Nat, k ≤ 16 ∧ t = .int .i64 k ∧ Below w5.heap.size w5 wr) (fun t _ => 16 - (intOf t).toNat)
  case atStart => exact ⟨0, Nat.zero_le _, rfl, Below.refl _ _⟩
  case round =>
    obtain ⟨k, hk, rfl, hbl⟩ := hrel
    by_cases hlt : k < 16
    · obtain ⟨d1, rfl, -, c1⟩ := (Rd.go R1.out hbl).at_ hlt
      obtain ⟨d2, rfl, -, c2⟩ := (Rd.go R2.out hbl).at_ hlt
      obtain ⟨d3, rfl, -, c3⟩ := (Rd.go R3.out hbl).at_ hlt
      have q1 := Rb.cell (Rd.go RP.out hbl) (show 24 < 25 by omega)
      have q2 := Rb.cell (Rd.go RP.out hbl) (show 0 < 25 by omega)
      have q3 := Rb.cell (Rd.go RP.out hbl) (show 4 < 25 by omega)
      have HB := Lib.hid hbl
      clear hbl
      have hi0 : (0 : Int) ≤ (k : Int) := Int.natCast_nonneg _
      go_wp2_with fail
      go_quiet (fail)
      go_wp2_with fail
      go_roundw
      case rel => exact ⟨k + 1, by omega, by go_num, ⟨HB.out.os, HB.out.tape, HB.out.output, HB.out.size, HB.out.block⟩⟩
      case measure => simp [intOf]; omega
    · go_wp2_with fail
      go_ret
      exact ⟨rfl, BB.out.trans (hbl.mono BB.out.size)⟩

end Go.Proofs.Ytoagihocibeidaa
