/- The statement InterpRamps: the walk. -/
import Derived.Test.YtoagihocibeidaaIntQ
namespace Go.Proofs.Ytoagihocibeidaa
open Go.RowKit
set_option linter.unusedVariables false
set_option linter.unusedSimpArgs false
attribute [local go_sem] ite_max ite_min and_3 and_7 and_63

def rampF (f d : Int) (i : Nat) : Int := f + ((i % 16 : Nat) : Int) * d
theorem ramp_bd {f d : Int} (hf : 0 ≤ f ∧ f ≤ 63) (hd : d = 2 ∨ d = 4 ∨ d = 6 ∨ d = 8) (i : Nat) : 0 ≤ rampF f d i ∧ rampF f d i ≤ 255 := by
  unfold rampF
  have : i % 16 < 16 := Nat.mod_lt _ (by omega)
  rcases hd with rfl | rfl | rfl | rfl <;> omega
theorem ramp_near {f d : Int} (hd : d = 2 ∨ d = 4 ∨ d = 6 ∨ d = 8) (u v : Int) (hu : 2 ≤ u ∧ u ≤ 12) (hv : 2 ≤ v ∧ v ≤ 12) (i j : Int) (hi : -2 ≤ i ∧ i ≤ 3) (hj : -2 ≤ j ∧ j ≤ 3) :
    atS (rampF f d) 16 16 (u + i) (v + j) = f + u * d + i * d := by
  have h1 : atI 16 16 (u + i) (v + j) % 16 = (u + i).toNat := by unfold atI cl; omega
  unfold atS rampF
  rw [h1, Int.toNat_of_nonneg (by omega), Int.add_mul]
  omega
section
variable {f d : Int} (hf : 0 ≤ f ∧ f ≤ 63) (hd : d = 2 ∨ d = 4 ∨ d = 6 ∨ d = 8) (k : Nat) (hk : k < 16)
include hf hd hk
omit hk in
theorem ramp_v : 0 ≤ f + (5 + ((k % 4 : Nat) : Int)) * d ∧ f + (5 + ((k % 4 : Nat) : Int)) * d ≤ 190 := by
  have : k % 4 < 4 := Nat.mod_lt _ (by omega)
  rcases hd with rfl | rfl | rfl | rfl <;> omega
theorem ramp_l1 : lumF (rampF f d) 16 16 22 20 4 k = f + (5 + ((k % 4 : Nat) : Int)) * d + d / 2 := by
  have h : k % 4 < 4 ∧ k / 4 < 4 := by omega
  exact ramp_2 (fun i j hi hj => ramp_near hd (5 + ((k % 4 : Nat) : Int)) (5 + ((k / 4 : Nat) : Int)) (by omega) (by omega) i j hi hj) (ramp_v hf hd k) hd
theorem ramp_l2 : lumF (rampF f d) 16 16 20 22 4 k = f + (5 + ((k % 4 : Nat) : Int)) * d := by
  have h : k % 4 < 4 ∧ k / 4 < 4 := by omega
  exact ramp_8 (fun i j hi hj => ramp_near hd (5 + ((k % 4 : Nat) : Int)) (5 + ((k / 4 : Nat) : Int)) (by omega) (by omega) i j hi hj) (ramp_v hf hd k)
omit hf in
theorem ramp_l3 : chrF (rampF f d) 16 16 44 43 4 k = f + (5 + ((k % 4 : Nat) : Int)) * d + d / 2 := by
  have h : k % 4 < 4 ∧ k / 4 < 4 := by omega
  exact ramp_c (fun i j hi hj => ramp_near hd (5 + ((k % 4 : Nat) : Int)) (5 + ((k / 4 : Nat) : Int)) (by omega) (by omega) i j hi hj) hd
end

set_option maxRecDepth 100000 in
set_option maxHeartbeats 6400000 in
theorem walk_InterpRamps (x y : Int) (w : World) (_ : (Lit.int .i64 x).wf = true) (_ : (Lit.int .i64 y).wf = true) :
    Calls Try.prog 7 #[.int .i64 x, .int .i64 y] w fun e w' => e = .returned (.bool true) ∧ Below w.heap.size w w' := by
  obtain ⟨i0, hi, hz0, hz1, hz2⟩ := info_parts u8_info
  have hmk : ∀ w : World, (Instr.makeSlice 22 (.int .i64 256) (.int .i64 256)).run Try.prog w = .ok (.slice (some ⟨w.heap.size, 0, none⟩) 256 256) (w.alloc (.cells (Array.replicate 256 (.int .u8 0)) 5)) := run_make_one (P := Try.prog) 22 5 i0 (.int .u8 0) Try.underlying22 hi hz0 hz1 rfl 256 (by rw [hz2]; omega) (by omega)
  have hdd : 2 * (1 + x % 4) = 2 ∨ 2 * (1 + x % 4) = 4 ∨ 2 * (1 + x % 4) = 6 ∨ 2 * (1 + x % 4) = 8 := by omega
  obtain ⟨d, hd⟩ : ∃ d, 2 * (1 + x % 4) = d := ⟨_, rfl⟩
  obtain ⟨f, hf⟩ : ∃ f, y % 64 = f := ⟨_, rfl⟩
  have hfb : 0 ≤ f ∧ f ≤ 63 := by omega
  rw [hd] at hdd
  have HDD := Lib.hid hdd
  have hdb : 2 ≤ d ∧ d ≤ 8 := by omega
  have x4 : 0 ≤ x % 4 ∧ x % 4 ≤ 3 := by omega
  clear hdd
  have BB := Lib.hid (Below.refl w.heap.size w)
  go_enter Try.func7, Try.ntmps7
  go_wp2_with fail
  refine (awake_any _).mono ?_
  rintro e w1 ⟨rfl, hb⟩
  have BB := Lib.hid (BB.out.trans (hb.mono BB.out.size))
  clear hb
  go_wp2_with fail
  clear hmk
  have sz1 := BB.out.size
  go_loopw [8] (fun t wr => ∃ k : Nat, k ≤ 256 ∧ t = .int .i64 k ∧ Ar wr w1.heap.size 256 (fun i => if i < k then .int .u8 (rampF f d i) else .int .u8 0) ∧ Below w.heap.size w wr) (fun t _ => 256 - (intOf t).toNat)
  case atStart => exact ⟨0, Nat.zero_le _, rfl, (Ar.made _ _ _ _).congr fun i hi => by rw [if_neg (by omega)], BB.out.alloc sz1 _⟩
  case round =>
    obtain ⟨k, hk, rfl, har, hbl⟩ := hrel
    have HA := Lib.hid har
    have HB := Lib.hid hbl
    by_cases hlt : k < 256
    · have c1 := har.1 k hlt
      have c2 := har.2.1 k
      simp only [Nat.lt_irrefl, if_false] at c1
      have kl := har.2.2
      obtain ⟨r, hr⟩ : ∃ r, r = k % 16 := ⟨_, rfl⟩
      have hrb : r ≤ 15 := by omega
      have t1 : (k : Int) % 16 = (r : Int) := by rw [hr]; omega
      have t2 : (k : Int).tmod 16 = (r : Int) := by rw [Int.tmod_eq_emod_of_nonneg (by omega)]; exact t1
      obtain ⟨q, hq⟩ : ∃ q, q = (r : Int) * d := ⟨_, rfl⟩
      have hqb : 0 ≤ q ∧ q ≤ 120 := by rw [hq]; rcases HDD.out with e | e | e | e <;> rw [e] <;> omega
      have hv : f + q = rampF f d k := by unfold rampF; rw [hq, hr]
      have hqw : wrap64 ((r : Int) * d) = q := by rw [← hq]; unfold wrap64; omega
      have hi0 : (0 : Int) ≤ (k : Int) := Int.natCast_nonneg _
      have hu8 : IntKind.u8.wrap (f + q) = f + q := by rw [u8_wrap]; omega
      have HV := Lib.hid hv
      clear har hbl hr hq hv
      go_wp2_with fail
      go_roundw
      case rel =>
        refine ⟨k + 1, by omega, by go_num, (HA.out.set_ hlt _).congr fun i hi => ?_, HB.out.setCell sz1 _⟩
        by_cases hik : i = k
        · subst hik
          show (if i = i then _ else _) = if i < i + 1 then _ else _
          rw [if_pos rfl, if_pos (by omega), ← HV.out]
        · show (if i = k then _ else _) = if i < k + 1 then _ else _
          rw [if_neg hik]
          by_cases h5 : i < k
          · rw [if_pos h5, if_pos (by omega)]
          · rw [if_neg h5, if_neg (by omega)]
      case measure => simp [intOf]; omega
    · obtain rfl : k = 256 := by omega
      have RP : Hid (Rb wr (some ⟨w1.heap.size, 0, none⟩) 256 (rampF f d)) := Lib.hid ((HA.out.congr fun i hi => if_pos hi).rd)
      have BB : Hid (Below w.heap.size w wr) := HB
      have HS := Lib.hid (ramp_bd (f := f) hfb HDD.out)
      have HF := Lib.hid hfb
      clear har hbl HB HA
      go_wp2_with fail
      refine Calls.mono (luma44 _ 256 _ (rampF f d) 16 16 _ _ _ RP.out HS.out (by omega) (by omega) (by omega) (by omega) (by omega)) ?_
      rintro e w3 hq
      obtain ⟨A1, p1, rfl, hr, -, -, hb⟩ := gives_at hq
      clear hq
      have BB := Lib.hid (BB.out.trans (hb.mono BB.out.size))
      have RP := Lib.hid (Rd.go RP.out hb)
      clear hb
      have R1 := Lib.hid (Rd.congr hr fun k hk => (congrArg (Value.int .i64) (ramp_l1 HF.out HDD.out k hk)))
      clear hr
      go_wp2_with fail
      refine Calls.mono (luma44 _ 256 _ (rampF f d) 16 16 _ _ _ RP.out HS.out (by omega) (by omega) (by omega) (by omega) (by omega)) ?_
      rintro e w4 hq
      obtain ⟨A2, p2, rfl, hr, -, -, hb⟩ := gives_at hq
      clear hq
      have BB := Lib.hid (BB.out.trans (hb.mono BB.out.size))
      have RP := Lib.hid (Rd.go RP.out hb)
      have R1 := Lib.hid (Rd.go R1.out hb)
      clear hb
      have R2 := Lib.hid (Rd.congr hr fun k hk => (congrArg (Value.int .i64) (ramp_l2 HF.out HDD.out k hk)))
      clear hr
      go_wp2_with fail
      refine Calls.mono (chroma44 _ 256 _ (rampF f d) 16 16 _ _ _ RP.out HS.out (by omega) (by omega) (by omega) (by omega) (by omega)) ?_
      rintro e w5 hq
      obtain ⟨A3, p3, rfl, hr, -, -, hb⟩ := gives_at hq
      clear hq
      have BB := Lib.hid (BB.out.trans (hb.mono BB.out.size))
      have RP := Lib.hid (Rd.go RP.out hb)
      have R1 := Lib.hid (Rd.go R1.out hb)
      have R2 := Lib.hid (Rd.go R2.out hb)
      clear hb
      have R3 := Lib.hid (Rd.congr hr fun k hk => (congrArg (Value.int .i64) (ramp_l3 HDD.out k hk)))
      clear hr
      go_wp2_with (go_at_call 16; refine (num_any _ _).mono ?_; rintro e w' ⟨rfl, rfl⟩)
      go_loopw [15] (fun t wr => ∃ k : Nat, k ≤ 16 ∧ t = .int .i64 k ∧ Below w5.heap.size w5 wr) (fun t _ => 16 - (intOf t).toNat)
      case atStart => exact ⟨0, Nat.zero_le _, rfl, Below.refl _ _⟩
      case round =>
        obtain ⟨k, hk, rfl, hbl⟩ := hrel
        by_cases hlt : k < 16
        · obtain ⟨d1, rfl, -, c1⟩ := (Rd.go R1.out hbl).at_ hlt
          obtain ⟨d2, rfl, -, c2⟩ := (Rd.go R2.out hbl).at_ hlt
          obtain ⟨d3, rfl, -, c3⟩ := (Rd.go R3.out hbl).at_ hlt
          have HB := Lib.hid hbl
          obtain ⟨r, hr⟩ : ∃ r, r = k % 4 := ⟨_, rfl⟩
          have hrb : r ≤ 3 := by omega
          have t1 : (k : Int) % 4 = (r : Int) := by rw [hr]; omega
          have t2 : (k : Int).tmod 4 = (r : Int) := by rw [Int.tmod_eq_emod_of_nonneg (by omega)]; exact t1
          rw [← hr] at c1 c2 c3
          obtain ⟨q, hq⟩ : ∃ q, q = (5 + (r : Int)) * d := ⟨_, rfl⟩
          have hqb : 0 ≤ q ∧ q ≤ 120 := by rw [hq]; rcases HDD.out with e | e | e | e <;> rw [e] <;> omega
          rw [← hq] at c1 c2 c3
          have hqw : wrap64 ((5 + (r : Int)) * d) = q := by rw [← hq]; unfold wrap64; omega
          have t3 : d.tdiv 2 = d / 2 := Int.tdiv_eq_ediv_of_nonneg (by omega)
          clear hbl hr hq
          have hi0 : (0 : Int) ≤ (k : Int) := Int.natCast_nonneg _
          go_wp2_with fail
          try go_quiet (fail)
          go_wp2_with fail
          go_roundw
          case rel => exact ⟨k + 1, by omega, by go_num, ⟨HB.out.os, HB.out.tape, HB.out.output, HB.out.size, HB.out.block⟩⟩
          case measure => simp [intOf]; omega
        · go_wp2_with fail
          go_ret
          exact ⟨rfl, BB.out.trans (hbl.mono BB.out.size)⟩

end Go.Proofs.Ytoagihocibeidaa
