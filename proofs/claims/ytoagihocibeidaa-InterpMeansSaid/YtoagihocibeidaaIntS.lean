/- The statement InterpFlat: the walk. -/
import Derived.Test.YtoagihocibeidaaIntR
namespace Go.Proofs.Ytoagihocibeidaa
open Go.RowKit
set_option linter.unusedVariables false
set_option linter.unusedSimpArgs false
attribute [local go_sem] ite_max ite_min and_3 and_7 and_63

theorem flat_lum {c : Int} (hc : 0 ≤ c ∧ c ≤ 255) (W H x y : Int) (B k : Nat) : lumF (fun _ => c) W H x y B k = c := near_lum (fun _ _ _ _ => rfl) hc _
theorem flat_chr {c : Int} (W H x y : Int) (B k : Nat) : chrF (fun _ => c) W H x y B k = c := near_chr (c := c) (fun _ _ _ _ => rfl) _ _ (by omega) (by omega)
theorem whole_lum (s : Nat → Int) (a b : Int) (ha : 0 ≤ a ∧ a ≤ 3) (hb : 0 ≤ b ∧ b ≤ 3) (k : Nat) (hk : k < 16) : lumF s 8 8 (4 * a) (4 * b) 4 k = s ((b.toNat + k / 4) * 8 + a.toNat + k % 4) := by
  unfold lumF
  have h0 : dOf (4 * a) (4 * b) = 0 := by unfold dOf; omega
  rw [h0]
  show atS s 8 8 _ _ = _
  unfold atS
  congr 1
  unfold atI cl
  omega
theorem whole_chr (s : Nat → Int) (a b : Int) (ha : 0 ≤ a ∧ a ≤ 3) (hb : 0 ≤ b ∧ b ≤ 3) (k : Nat) (hk : k < 16) : chrF s 8 8 (8 * a) (8 * b) 4 k = s ((b.toNat + k / 4) * 8 + a.toNat + k % 4) := by
  unfold chrF
  have h0 : (8 * a) % 8 = 0 := by omega
  have h1 : (8 * b) % 8 = 0 := by omega
  rw [h0, h1]
  have e : atS s 8 8 (8 * a / 8 + ((k % 4 : Nat) : Int)) (8 * b / 8 + ((k / 4 : Nat) : Int)) = s ((b.toNat + k / 4) * 8 + a.toNat + k % 4) := by
    unfold atS
    congr 1
    unfold atI cl
    omega
  unfold chrV
  rw [e]
  omega

set_option maxRecDepth 100000 in
set_option maxHeartbeats 6400000 in
theorem walk_InterpFlat (a0 : Option Addr) (n0 c0 : Nat) (z : Nat → Int) (v x y : Int) (w : World) (w_a0 : BytesArg w a0 n0 c0 z) (_ : (Lit.int .i64 v).wf = true) (_ : (Lit.int .i64 x).wf = true) (_ : (Lit.int .i64 y).wf = true) :
    Calls Try.prog 4 #[.slice a0 n0 c0, .int .i64 v, .int .i64 x, .int .i64 y] w fun e w' => e = .returned (.bool true) ∧ Below w.heap.size w w' := by
  obtain ⟨hr0, hnil, hnc, hcm, hz⟩ := w_a0
  have hn0 : n0 ≤ 140737488351232 := by omega
  have hsb := fun k => plane_bd (n := n0) hz 8 k
  have HS := Lib.hid hsb
  have HZ := Lib.hid hr0
  obtain ⟨i0, hi, hz0, hz1, hz2⟩ := info_parts u8_info
  have hmk : ∀ w : World, (Instr.makeSlice 22 (.int .i64 64) (.int .i64 64)).run Try.prog w = .ok (.slice (some ⟨w.heap.size, 0, none⟩) 64 64) (w.alloc (.cells (Array.replicate 64 (.int .u8 0)) 5)) := run_make_one (P := Try.prog) 22 5 i0 (.int .u8 0) Try.underlying22 hi hz0 hz1 rfl 64 (by rw [hz2]; omega) (by omega)
  obtain ⟨cv, hcv⟩ : ∃ cv, IntKind.u8.wrap v = cv := ⟨_, rfl⟩
  have hcb : 0 ≤ cv ∧ cv ≤ 255 := by rw [u8_wrap] at hcv; omega
  have hab := tmod_bd x 300 (by omega)
  have hbb := tmod_bd y 300 (by omega)
  have x4 : 0 ≤ x % 4 ∧ x % 4 ≤ 3 := by omega
  have y4 : 0 ≤ y % 4 ∧ y % 4 ≤ 3 := by omega
  clear hr0 hnil hsb hz
  have BB := Lib.hid (Below.refl w.heap.size w)
  go_enter Try.func4, Try.ntmps4
  go_wp2_with fail
  refine (awake_any _).mono ?_
  rintro e w1 ⟨rfl, hb⟩
  have BB := Lib.hid (BB.out.trans (hb.mono BB.out.size))
  have HZ := Lib.hid (Rd.go HZ.out hb)
  clear hb
  go_wp2_with fail
  clear hmk
  have sz1 := BB.out.size
  go_loopw [13] (fun t wr => ∃ k : Nat, k ≤ 64 ∧ t = .int .i64 k ∧ Ar wr w1.heap.size 64 (fun i => if i < k then .int .u8 cv else .int .u8 0) ∧ Below w1.heap.size w1 wr) (fun t _ => 64 - (intOf t).toNat)
  case atStart => exact ⟨0, Nat.zero_le _, rfl, (Ar.made _ _ _ _).congr fun i hi => by rw [if_neg (by omega)], (Below.refl _ _).alloc (Nat.le_refl _) _⟩
  case round =>
    obtain ⟨k, hk, rfl, har, hbl⟩ := hrel
    have HA := Lib.hid har
    have HB := Lib.hid hbl
    by_cases hlt : k < 64
    · have c1 := har.1 k hlt
      have c2 := har.2.1 k
      simp only [Nat.lt_irrefl, if_false] at c1
      have kl := har.2.2
      have hi0 : (0 : Int) ≤ (k : Int) := Int.natCast_nonneg _
      clear har hbl
      go_wp2_with fail
      go_roundw
      case rel =>
        refine ⟨k + 1, by omega, by go_num, (HA.out.set_ hlt _).congr fun i hi => ?_, HB.out.setCell (Nat.le_refl _) _⟩
        by_cases hik : i = k
        · subst hik
          show (if i = i then _ else _) = if i < i + 1 then _ else _
          rw [if_pos rfl, if_pos (by omega)]
        · show (if i = k then _ else _) = if i < k + 1 then _ else _
          rw [if_neg hik]
          by_cases h5 : i < k
          · rw [if_pos h5, if_pos (by omega)]
          · rw [if_neg h5, if_neg (by omega)]
      case measure => simp [intOf]; omega
    · obtain rfl : k = 64 := by omega
      have RP : Hid (Rb wr (some ⟨w1.heap.size, 0, none⟩) 64 (fun _ => cv)) := Lib.hid ((HA.out.congr fun i hi => if_pos hi).rd)
      have BB := Lib.hid (BB.out.trans (hbl.mono BB.out.size))
      have HZ := Lib.hid (Rd.go HZ.out hbl)
      clear hbl
      have HC := Lib.hid hcb
      clear har HB HA
      go_wp2_with fail
      refine Calls.mono (luma44 _ 64 _ (fun _ => cv) 8 8 _ _ _ RP.out (fun _ => HC.out) (by omega) (by omega) (by omega) (by omega) (by omega)) ?_
      rintro e w3 hq
      obtain ⟨A1, p1, rfl, hr, -, -, hb⟩ := gives_at hq
      clear hq
      have BB := Lib.hid (BB.out.trans (hb.mono BB.out.size))
      have HZ := Lib.hid (Rd.go HZ.out hb)
      have RP := Lib.hid (Rd.go RP.out hb)
      clear hb
      have R1 := Lib.hid (Rd.congr hr fun k hk => (congrArg (Value.int .i64) (flat_lum HC.out _ _ _ _ _ k)))
      clear hr
      go_wp2_with fail
      refine Calls.mono (chroma44 _ 64 _ (fun _ => cv) 8 8 _ _ _ RP.out (fun _ => HC.out) (by omega) (by omega) (by omega) (by omega) (by omega)) ?_
      rintro e w4 hq
      obtain ⟨A2, p2, rfl, hr, -, -, hb⟩ := gives_at hq
      clear hq
      have BB := Lib.hid (BB.out.trans (hb.mono BB.out.size))
      have HZ := Lib.hid (Rd.go HZ.out hb)
      have RP := Lib.hid (Rd.go RP.out hb)
      have R1 := Lib.hid (Rd.go R1.out hb)
      clear hb
      have R2 := Lib.hid (Rd.congr hr fun k hk => (congrArg (Value.int .i64) (flat_chr _ _ _ _ _ k)))
      clear hr
      go_wp2_with (go_at_call 16; refine (num_any _ _).mono ?_; rintro e w' ⟨rfl, rfl⟩)
      go_loopw [18] (fun t wr => ∃ k : Nat, k ≤ 16 ∧ t = .int .i64 k ∧ Below w4.heap.size w4 wr) (fun t _ => 16 - (intOf t).toNat)
      case atStart => exact ⟨0, Nat.zero_le _, rfl, Below.refl _ _⟩
      case round =>
        obtain ⟨k, hk, rfl, hbl⟩ := hrel
        by_cases hlt : k < 16
        · obtain ⟨d1, rfl, -, c1⟩ := (Rd.go R1.out hbl).at_ hlt
          obtain ⟨d2, rfl, -, c2⟩ := (Rd.go R2.out hbl).at_ hlt
          have HB := Lib.hid hbl
          clear hbl
          have hi0 : (0 : Int) ≤ (k : Int) := Int.natCast_nonneg _
          go_wp2_with fail
          try go_quiet (fail)
          go_wp2_with fail
          go_roundw
          case rel => exact ⟨k + 1, by omega, by go_num, ⟨HB.out.os, HB.out.tape, HB.out.output, HB.out.size, HB.out.block⟩⟩
          case measure => simp [intOf]; omega
        · skip
          have BB := Lib.hid (BB.out.trans (hbl.mono BB.out.size))
          have HZ := Lib.hid (Rd.go HZ.out hbl)
          have RP := Lib.hid (Rd.go RP.out hbl)
          have R1 := Lib.hid (Rd.go R1.out hbl)
          have R2 := Lib.hid (Rd.go R2.out hbl)
          clear hbl
          go_wp2_with fail
          refine (plane_any a0 n0 c0 z 8 8 _ HZ.out (by omega) (by omega) (by omega)).mono ?_
          rintro e w5 ⟨rfl, har, hb⟩
          have RQ : Hid (Rb w5 (some ⟨_, 0, none⟩) 64 (planeF n0 z 8)) := Lib.hid har.rd
          clear har
          have BB := Lib.hid (BB.out.trans (hb.mono BB.out.size))
          have HZ := Lib.hid (Rd.go HZ.out hb)
          clear hb
          go_wp2_with fail
          refine Calls.mono (luma44 _ 64 _ (planeF n0 z 8) 8 8 _ _ _ RQ.out HS.out (by omega) (by omega) (by omega) (by omega) (by omega)) ?_
          rintro e w6 hq
          obtain ⟨A3, p3, rfl, hr, -, -, hb⟩ := gives_at hq
          clear hq
          have BB := Lib.hid (BB.out.trans (hb.mono BB.out.size))
          have HZ := Lib.hid (Rd.go HZ.out hb)
          have RQ := Lib.hid (Rd.go RQ.out hb)
          clear hb
          have R3 := Lib.hid (Rd.congr hr fun k hk => (congrArg (Value.int .i64) (whole_lum _ _ _ x4 y4 k hk)))
          clear hr
          go_wp2_with fail
          refine Calls.mono (chroma44 _ 64 _ (planeF n0 z 8) 8 8 _ _ _ RQ.out HS.out (by omega) (by omega) (by omega) (by omega) (by omega)) ?_
          rintro e w7 hq
          obtain ⟨A4, p4, rfl, hr, -, -, hb⟩ := gives_at hq
          clear hq
          have BB := Lib.hid (BB.out.trans (hb.mono BB.out.size))
          have HZ := Lib.hid (Rd.go HZ.out hb)
          have RQ := Lib.hid (Rd.go RQ.out hb)
          have R3 := Lib.hid (Rd.go R3.out hb)
          clear hb
          have R4 := Lib.hid (Rd.congr hr fun k hk => (congrArg (Value.int .i64) (whole_chr _ _ _ x4 y4 k hk)))
          clear hr
          go_wp2_with (go_at_call 16; refine (num_any _ _).mono ?_; rintro e w' ⟨rfl, rfl⟩)
          go_loopw [24] (fun t wr => ∃ k : Nat, k ≤ 16 ∧ t = .int .i64 k ∧ Below w7.heap.size w7 wr) (fun t _ => 16 - (intOf t).toNat)
          case atStart => exact ⟨0, Nat.zero_le _, rfl, Below.refl _ _⟩
          case round =>
            obtain ⟨k, hk, rfl, hbl⟩ := hrel
            by_cases hlt : k < 16
            · obtain ⟨d1, rfl, -, c1⟩ := (Rd.go R3.out hbl).at_ hlt
              obtain ⟨d2, rfl, -, c2⟩ := (Rd.go R4.out hbl).at_ hlt
              obtain ⟨j, hj⟩ : ∃ j, j = ((y % 4).toNat + k / 4) * 8 + (x % 4).toNat + k % 4 := ⟨_, rfl⟩
              have hjb : j < 64 := by omega
              have q1 := Rb.cell (Rd.go RQ.out hbl) hjb
              rw [← hj] at c1 c2
              have sj := HS.out j
              obtain ⟨r, hr⟩ : ∃ r, r = k % 4 := ⟨_, rfl⟩
              obtain ⟨q, hq⟩ : ∃ q, q = k / 4 := ⟨_, rfl⟩
              have t1 : (k : Int) % 4 = (r : Int) := by rw [hr]; omega
              have t2 : (k : Int).tmod 4 = (r : Int) := by rw [Int.tmod_eq_emod_of_nonneg (by omega)]; exact t1
              have t3 : (k : Int) / 4 = (q : Int) := by rw [hq]; omega
              have t4 : (k : Int).tdiv 4 = (q : Int) := by rw [Int.tdiv_eq_ediv_of_nonneg (by omega)]; exact t3
              have hrb : r ≤ 3 ∧ q ≤ 3 := by omega
              have t5 : (y % 4 + (q : Int)) * 8 + x % 4 + (r : Int) = (j : Int) := by rw [hj, hr, hq]; omega
              generalize planeF n0 z 8 j = sv at *
              have HB := Lib.hid hbl
              clear hbl hj hr hq
              have hi0 : (0 : Int) ≤ (k : Int) := Int.natCast_nonneg _
              have hj0 : (0 : Int) ≤ (j : Int) := Int.natCast_nonneg _
              have hj1 : (j : Int) < 64 := by omega
              go_wp2_with fail
              try go_quiet (fail)
              go_wp2_with fail
              go_roundw
              case rel => exact ⟨k + 1, by omega, by go_num, ⟨HB.out.os, HB.out.tape, HB.out.output, HB.out.size, HB.out.block⟩⟩
              case measure => simp [intOf]; omega
            · go_wp2_with fail
              go_ret
              exact ⟨rfl, BB.out.trans (hbl.mono BB.out.size)⟩

end Go.Proofs.Ytoagihocibeidaa
