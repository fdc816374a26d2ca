/- The statement Weights: the walk. -/
import Derived.Test.YtadinglpkphpgaaWgtM
import Derived.Test.YtadinglpkphpgaaRow
namespace Go.Proofs.Ytadinglpkphpgaa
open Go.RowKit
set_option linter.unusedVariables false
set_option linter.unusedSimpArgs false
attribute [local go_sem] ite_max ite_min

theorem Rd.lent {w : World} {g n : Nat} {z : Nat → Int} (h : Ri w w.heap.size (some ⟨g, 0, none⟩) (n + 2) (lentF n z)) : Ri w w.heap.size (some ⟨g, 0, none⟩) n z :=
  (Rd.less h (by omega)).congr fun k hk => by unfold lentF; rw [if_pos hk]

set_option maxRecDepth 100000 in
set_option maxHeartbeats 3200000 in
theorem walk_Weights (a0 : Option Addr) (len_a0 cap_a0 : Nat) (z_a0 : Nat → Int) (a1 : Option Addr) (len_a1 cap_a1 : Nat) (z_a1 : Nat → Int) (a2 : Int) (a3 : Int) (a4 : Int) (a5 : Int) (w : World) (w_a0 : IntsArg w a0 len_a0 cap_a0 z_a0) (w_a1 : IntsArg w a1 len_a1 cap_a1 z_a1) (w_a2 : (Lit.int .i64 a2).wf = true) (w_a3 : (Lit.int .i64 a3).wf = true) (w_a4 : (Lit.int .i64 a4).wf = true) (w_a5 : (Lit.int .i64 a5).wf = true) :
    Calls Try.prog 3 #[.slice a0 len_a0 cap_a0, .slice a1 len_a1 cap_a1, .int .i64 a2, .int .i64 a3, .int .i64 a4, .int .i64 a5] w fun e w' => e = .returned (.bool true) ∧ Below w.heap.size w w' := by
  clear w_a2 w_a3 w_a4 w_a5
  obtain ⟨ra, na, la, sa, _⟩ := w_a0
  obtain ⟨rb, nb, lb, sb, _⟩ := w_a1
  have BB := Lib.hid (Below.refl w.heap.size w)
  have RA := Lib.hid ra
  have RB := Lib.hid rb
  have NA := Lib.hid na
  have NB := Lib.hid nb
  clear ra rb na nb
  have hclip : (clip a4 == max 0 (min 255 a4)) = true := by rw [beq_iff_eq]; unfold clip; omega
  go_enter Try.func3, Try.ntmps3
  go_wp2_with fail
  refine (lend_any _ _ _ z_a0 _ RA.out NA.out (by omega)).mono ?_
  rintro e w1 ⟨v, rfl, ⟨g1, p1, rfl, hc1, hc2, _, hg, hr⟩, hb⟩
  have RA := Lib.hid (Rd.go RA.out hb)
  have RB := Lib.hid (Rd.go RB.out hb)
  have BB := Lib.hid (BB.out.trans (hb.mono BB.out.size))
  have RX : Hid (Ri w1 w1.heap.size (some ⟨g1, 0, none⟩) (len_a0 + 2) (lentF len_a0 z_a0)) := Lib.hid hr
  have CRX := Lib.hid hc1
  have DRX := Lib.hid hc2
  have GRX := Lib.hid (show g1 < w1.heap.size from hg)
  clear hr hb hc1 hc2 hg
  go_wp2_with fail
  refine (lend_any _ _ _ z_a1 _ RB.out NB.out (by omega)).mono ?_
  rintro e w2 ⟨v, rfl, ⟨g2, p2, rfl, hc1, hc2, _, hg, hr⟩, hb⟩
  have RA := Lib.hid (Rd.go RA.out hb)
  have RB := Lib.hid (Rd.go RB.out hb)
  have RX := Lib.hid (Rd.go RX.out hb)
  have BB := Lib.hid (BB.out.trans (hb.mono BB.out.size))
  have RY : Hid (Ri w2 w2.heap.size (some ⟨g2, 0, none⟩) (len_a1 + 2) (lentF len_a1 z_a1)) := Lib.hid hr
  have CRY := Lib.hid hc1
  have DRY := Lib.hid hc2
  have GRY := Lib.hid (show g2 < w2.heap.size from hg)
  clear hr hb hc1 hc2 hg
  go_wp2_with fail
  refine (one_any _ _ _ z_a0 _ _ _ _ (Rd.lent RX.out) (by omega)).mono ?_
  rintro e w3 hq
  obtain ⟨A3, c3, rfl, hr, hb⟩ := gives_sl hq
  clear hq
  have RA := Lib.hid (Rd.go RA.out hb)
  have RB := Lib.hid (Rd.go RB.out hb)
  have RX := Lib.hid (Rd.go RX.out hb)
  have RY := Lib.hid (Rd.go RY.out hb)
  have BB := Lib.hid (BB.out.trans (hb.mono BB.out.size))
  have R3 := Lib.hid hr
  clear hr hb
  go_wp2_with fail
  refine (one2_any _ _ _ z_a0 _ _ _ _ RA.out (by omega)).mono ?_
  rintro e w4 hq
  obtain ⟨A4, c4, rfl, hr, hb⟩ := gives_sl hq
  clear hq
  have RA := Lib.hid (Rd.go RA.out hb)
  have RB := Lib.hid (Rd.go RB.out hb)
  have RX := Lib.hid (Rd.go RX.out hb)
  have RY := Lib.hid (Rd.go RY.out hb)
  have R3 := Lib.hid (Rd.go R3.out hb)
  have BB := Lib.hid (BB.out.trans (hb.mono BB.out.size))
  have R4 := Lib.hid hr
  clear hr hb
  go_wp2_with fail
  refine (two_any _ _ _ _ _ _ z_a0 z_a1 _ _ _ _ _ (Rd.lent RX.out) (Rd.lent RY.out) (by omega) (by omega)).mono ?_
  rintro e w5 hq
  obtain ⟨A5, c5, rfl, hr, hb⟩ := gives_sl hq
  clear hq
  have RA := Lib.hid (Rd.go RA.out hb)
  have RB := Lib.hid (Rd.go RB.out hb)
  have RX := Lib.hid (Rd.go RX.out hb)
  have RY := Lib.hid (Rd.go RY.out hb)
  have R3 := Lib.hid (Rd.go R3.out hb)
  have R4 := Lib.hid (Rd.go R4.out hb)
  have BB := Lib.hid (BB.out.trans (hb.mono BB.out.size))
  have R5 := Lib.hid hr
  clear hr hb
  go_wp2_with fail
  refine (two2_any _ _ _ _ _ _ z_a0 z_a1 _ _ _ _ _ RA.out RB.out (by omega) (by omega)).mono ?_
  rintro e w6 hq
  obtain ⟨A6, c6, rfl, hr, hb⟩ := gives_sl hq
  clear hq
  have RA := Lib.hid (Rd.go RA.out hb)
  have RB := Lib.hid (Rd.go RB.out hb)
  have RX := Lib.hid (Rd.go RX.out hb)
  have RY := Lib.hid (Rd.go RY.out hb)
  have R3 := Lib.hid (Rd.go R3.out hb)
  have R4 := Lib.hid (Rd.go R4.out hb)
  have R5 := Lib.hid (Rd.go R5.out hb)
  have BB := Lib.hid (BB.out.trans (hb.mono BB.out.size))
  have R6 := Lib.hid hr
  clear hr hb
  go_wp2_with fail
  refine (mean_any _ _ _ _ _ _ z_a0 z_a1 _ (Rd.lent RX.out) (Rd.lent RY.out) (by omega) (by omega)).mono ?_
  rintro e w7 hq
  obtain ⟨A7, c7, rfl, hr, hb⟩ := gives_sl hq
  clear hq
  have RA := Lib.hid (Rd.go RA.out hb)
  have RB := Lib.hid (Rd.go RB.out hb)
  have RX := Lib.hid (Rd.go RX.out hb)
  have RY := Lib.hid (Rd.go RY.out hb)
  have R3 := Lib.hid (Rd.go R3.out hb)
  have R4 := Lib.hid (Rd.go R4.out hb)
  have R5 := Lib.hid (Rd.go R5.out hb)
  have R6 := Lib.hid (Rd.go R6.out hb)
  have BB := Lib.hid (BB.out.trans (hb.mono BB.out.size))
  have R7 := Lib.hid hr
  clear hr hb
  go_wp2_with fail
  refine (mean2_any _ _ _ _ _ _ z_a0 z_a1 _ RA.out RB.out (by omega) (by omega)).mono ?_
  rintro e w8 hq
  obtain ⟨A8, c8, rfl, hr, hb⟩ := gives_sl hq
  clear hq
  have RA := Lib.hid (Rd.go RA.out hb)
  have RB := Lib.hid (Rd.go RB.out hb)
  have RX := Lib.hid (Rd.go RX.out hb)
  have RY := Lib.hid (Rd.go RY.out hb)
  have R3 := Lib.hid (Rd.go R3.out hb)
  have R4 := Lib.hid (Rd.go R4.out hb)
  have R5 := Lib.hid (Rd.go R5.out hb)
  have R6 := Lib.hid (Rd.go R6.out hb)
  have R7 := Lib.hid (Rd.go R7.out hb)
  have BB := Lib.hid (BB.out.trans (hb.mono BB.out.size))
  have R8 := Lib.hid hr
  clear hr hb
  go_wp2_with fail
  refine (same_ok _ _ _ _ _ _ _ _ R3.out R4.out (by unfold many; split <;> omega) (fun _ _ => rfl)).mono ?_
  rintro e w9 ⟨rfl, hb⟩
  have RA := Lib.hid (Rd.go RA.out hb)
  have RB := Lib.hid (Rd.go RB.out hb)
  have RX := Lib.hid (Rd.go RX.out hb)
  have RY := Lib.hid (Rd.go RY.out hb)
  have R3 := Lib.hid (Rd.go R3.out hb)
  have R4 := Lib.hid (Rd.go R4.out hb)
  have R5 := Lib.hid (Rd.go R5.out hb)
  have R6 := Lib.hid (Rd.go R6.out hb)
  have R7 := Lib.hid (Rd.go R7.out hb)
  have R8 := Lib.hid (Rd.go R8.out hb)
  have BB := Lib.hid (BB.out.trans (hb.mono BB.out.size))
  clear hb
  go_wp2_with fail
  refine (num_any _ _).mono ?_
  rintro e w' ⟨rfl, rfl⟩
  go_wp2_with fail
  refine (same_ok _ _ _ _ _ _ _ _ R5.out R6.out (by unfold many; split <;> omega) (fun _ _ => rfl)).mono ?_
  rintro e w10 ⟨rfl, hb⟩
  have RA := Lib.hid (Rd.go RA.out hb)
  have RB := Lib.hid (Rd.go RB.out hb)
  have RX := Lib.hid (Rd.go RX.out hb)
  have RY := Lib.hid (Rd.go RY.out hb)
  have R3 := Lib.hid (Rd.go R3.out hb)
  have R4 := Lib.hid (Rd.go R4.out hb)
  have R5 := Lib.hid (Rd.go R5.out hb)
  have R6 := Lib.hid (Rd.go R6.out hb)
  have R7 := Lib.hid (Rd.go R7.out hb)
  have R8 := Lib.hid (Rd.go R8.out hb)
  have BB := Lib.hid (BB.out.trans (hb.mono BB.out.size))
  clear hb
  go_wp2_with fail
  refine (num_any _ _).mono ?_
  rintro e w' ⟨rfl, rfl⟩
  go_wp2_with fail
  refine (same_ok _ _ _ _ _ _ _ _ R7.out R8.out (by unfold many; split <;> omega) (fun _ _ => rfl)).mono ?_
  rintro e w11 ⟨rfl, hb⟩
  have RA := Lib.hid (Rd.go RA.out hb)
  have RB := Lib.hid (Rd.go RB.out hb)
  have RX := Lib.hid (Rd.go RX.out hb)
  have RY := Lib.hid (Rd.go RY.out hb)
  have R3 := Lib.hid (Rd.go R3.out hb)
  have R4 := Lib.hid (Rd.go R4.out hb)
  have R5 := Lib.hid (Rd.go R5.out hb)
  have R6 := Lib.hid (Rd.go R6.out hb)
  have R7 := Lib.hid (Rd.go R7.out hb)
  have R8 := Lib.hid (Rd.go R8.out hb)
  have BB := Lib.hid (BB.out.trans (hb.mono BB.out.size))
  clear hb
  go_wp2_with fail
  refine (num_any _ _).mono ?_
  rintro e w' ⟨rfl, rfl⟩
  go_wp2_with fail
  refine (clip_any _ _).mono ?_
  rintro e w' ⟨rfl, rfl⟩
  go_wp2_with fail
  refine (kept_yes _ _ _ _ _ _ _ CRX.out DRX.out ?k12 (by omega) RX.out RA.out).mono ?_
  case k12 =>
    obtain ⟨ad, e, hq, _⟩ := RX.out (by omega)
    obtain rfl : (⟨g1, 0, none⟩ : Addr) = ad := by injection e
    exact hq
  rintro e w12 ⟨rfl, hb⟩
  have RA := Lib.hid (Rd.go RA.out hb)
  have RB := Lib.hid (Rd.go RB.out hb)
  have RX := Lib.hid (Rd.go RX.out hb)
  have RY := Lib.hid (Rd.go RY.out hb)
  have R3 := Lib.hid (Rd.go R3.out hb)
  have R4 := Lib.hid (Rd.go R4.out hb)
  have R5 := Lib.hid (Rd.go R5.out hb)
  have R6 := Lib.hid (Rd.go R6.out hb)
  have R7 := Lib.hid (Rd.go R7.out hb)
  have R8 := Lib.hid (Rd.go R8.out hb)
  have BB := Lib.hid (BB.out.trans (hb.mono BB.out.size))
  clear hb
  go_wp2_with fail
  refine (kept_yes _ _ _ _ _ _ _ CRY.out DRY.out ?k13 (by omega) RY.out RB.out).mono ?_
  case k13 =>
    obtain ⟨ad, e, hq, _⟩ := RY.out (by omega)
    obtain rfl : (⟨g2, 0, none⟩ : Addr) = ad := by injection e
    exact hq
  rintro e w13 ⟨rfl, hb⟩
  have RA := Lib.hid (Rd.go RA.out hb)
  have RB := Lib.hid (Rd.go RB.out hb)
  have RX := Lib.hid (Rd.go RX.out hb)
  have RY := Lib.hid (Rd.go RY.out hb)
  have R3 := Lib.hid (Rd.go R3.out hb)
  have R4 := Lib.hid (Rd.go R4.out hb)
  have R5 := Lib.hid (Rd.go R5.out hb)
  have R6 := Lib.hid (Rd.go R6.out hb)
  have R7 := Lib.hid (Rd.go R7.out hb)
  have R8 := Lib.hid (Rd.go R8.out hb)
  have BB := Lib.hid (BB.out.trans (hb.mono BB.out.size))
  clear hb
  go_wp2_with fail
  refine (awake_any _).mono ?_
  rintro e w14 ⟨rfl, hb⟩
  have BB := Lib.hid (BB.out.trans (hb.mono BB.out.size))
  clear hb
  go_wp2_with fail
  go_ret
  exact ⟨rfl, BB.out⟩

end Go.Proofs.Ytadinglpkphpgaa
