/- The statement InterpTurned: the walk. -/
import Derived.Test.YtoagihocibeidaaIntS
namespace Go.Proofs.Ytoagihocibeidaa
open Go.RowKit
set_option linter.unusedVariables false
set_option linter.unusedSimpArgs false
attribute [local go_sem] ite_max ite_min and_3 and_7 and_63

def tpos (m : Nat) : Nat := m % 9 * 9 + m / 9
theorem tpos_tpos {m : Nat} (h : m < 81) : tpos (tpos m) = m ∧ tpos m < 81 := by unfold tpos; omega
def turned (s : Nat → Int) (m : Nat) : Int := s (tpos m)
theorem at_turned (s : Nat → Int) : atS (turned s) 9 9 = trn (atS s 9 9) := by
  funext u v
  show s (tpos (atI 9 9 u v)) = s (atI 9 9 v u)
  congr 1
  unfold tpos atI cl
  omega
theorem turn_lum (s : Nat → Int) (a b : Int) (k : Nat) (hk : k < 16) : lumF (turned s) 9 9 b a 4 (k % 4 * 4 + k / 4) = lumF s 9 9 a b 4 k := by
  unfold lumF
  rw [at_turned, ← trn_lum (atS s 9 9) (dOf a b) (by unfold dOf; omega)]
  have e1 : dOf b a = swp (dOf a b) := by unfold dOf swp; omega
  have e2 : (k % 4 * 4 + k / 4) % 4 = k / 4 := by omega
  have e3 : (k % 4 * 4 + k / 4) / 4 = k % 4 := by omega
  rw [e1, e2, e3]
theorem turn_chr (s : Nat → Int) (a b : Int) (k : Nat) (hk : k < 16) : chrF (turned s) 9 9 b a 4 (k % 4 * 4 + k / 4) = chrF s 9 9 a b 4 k := by
  unfold chrF
  rw [at_turned, ← trn_chr (atS s 9 9)]
  have e2 : (k % 4 * 4 + k / 4) % 4 = k / 4 := by omega
  have e3 : (k % 4 * 4 + k / 4) / 4 = k % 4 := by omega
  rw [e2, e3]

set_option maxRecDepth 100000 in
set_option maxHeartbeats 6400000 in
theorem walk_InterpTurned (a0 : Option Addr) (n0 c0 : Nat) (z : Nat → Int) (x y : Int) (w : World) (w_a0 : BytesArg w a0 n0 c0 z) (_ : (Lit.int .i64 x).wf = true) (_ : (Lit.int .i64 y).wf = true) :
    Calls Try.prog 5 #[.slice a0 n0 c0, .int .i64 x, .int .i64 y] w fun e w' => e = .returned (.bool true) ∧ Below w.heap.size w w' := by
  obtain ⟨hr0, hnil, hnc, hcm, hz⟩ := w_a0
  have hn0 : n0 ≤ 140737488351232 := by omega
  have hsb := fun k => plane_bd (n := n0) hz 9 k
  have HZ := Lib.hid hr0
  obtain ⟨i0, hi, hz0, hz1, hz2⟩ := info_parts u8_info
  have hmk : ∀ w : World, (Instr.makeSlice 22 (.int .i64 81) (.int .i64 81)).run Try.prog w = .ok (.slice (some ⟨w.heap.size, 0, none⟩) 81 81) (w.alloc (.cells (Array.replicate 81 (.int .u8 0)) 5)) := run_make_one (P := Try.prog) 22 5 i0 (.int .u8 0) Try.underlying22 hi hz0 hz1 rfl 81 (by rw [hz2]; omega) (by omega)
  have hab := tmod_bd x 60 (by omega)
  have hbb := tmod_bd y 60 (by omega)
  clear hr0 hnil hz
  have BB := Lib.hid (Below.refl w.heap.size w)
  go_enter Try.func5, Try.ntmps5
  go_wp2_with fail
  refine (awake_any _).mono ?_
  rintro e w1 ⟨rfl, hb⟩
  have BB := Lib.hid (BB.out.trans (hb.mono BB.out.size))
  have HZ := Lib.hid (Rd.go HZ.out hb)
  clear hb
  go_wp2_with fail
  refine (plane_any a0 n0 c0 z 9 9 _ HZ.out (by omega) (by omega) (by omega)).mono ?_
  rintro e w2 ⟨rfl, har, hb⟩
  have RP : Hid (Rb w2 (some ⟨w1.heap.size, 0, none⟩) 81 (planeF n0 z 9)) := Lib.hid har.rd
  have hg : w1.heap.size < w2.heap.size := har.2.2
  clear har
  have BB := Lib.hid (BB.out.trans (hb.mono BB.out.size))
  clear hb
  obtain ⟨s, hs⟩ : ∃ s, s = planeF n0 z 9 := ⟨_, rfl⟩
  rw [← hs] at hsb RP
  clear hs
  have HS := Lib.hid hsb
  have HT := Lib.hid (show ∀ k, 0 ≤ turned s k ∧ turned s k ≤ 255 from fun k => hsb _)
  clear hsb
  go_wp2_with fail
  clear hmk
  have sz2 := BB.out.size
  go_loopw [9] (fun t wr => ∃ k : Nat, k ≤ 81 ∧ t = .int .i64 k ∧ Ar wr w2.heap.size 81 (fun i => if tpos i < k then .int .u8 (turned s i) else .int .u8 0) ∧ Below w2.heap.size w2 wr) (fun t _ => 81 - (intOf t).toNat)
  case atStart => exact ⟨0, Nat.zero_le _, rfl, (Ar.made _ _ _ _).congr fun i hi => by rw [if_neg (by omega)], (Below.refl _ _).alloc (Nat.le_refl _) _⟩
  case round =>
    obtain ⟨k, hk, rfl, har, hbl⟩ := hrel
    have HA := Lib.hid har
    have HB := Lib.hid hbl
    by_cases hlt : k < 81
    · obtain ⟨m, hm⟩ : ∃ m, m = tpos k := ⟨_, rfl⟩
      obtain ⟨tt, tl⟩ := tpos_tpos hlt
      rw [← hm] at tt tl
      have c1 := har.1 m tl
      have c2 := har.2.1 m
      simp only [tt, Nat.lt_irrefl, if_false] at c1
      have c3 := Rb.cell (Rd.go RP.out hbl) hlt
      have kl := har.2.2
      obtain ⟨r, hr⟩ : ∃ r, r = k % 9 := ⟨_, rfl⟩
      obtain ⟨q, hq⟩ : ∃ q, q = k / 9 := ⟨_, rfl⟩
      have t1 : (k : Int) % 9 = (r : Int) := by rw [hr]; omega
      have t2 : (k : Int).tmod 9 = (r : Int) := by rw [Int.tmod_eq_emod_of_nonneg (by omega)]; exact t1
      have t3 : (k : Int) / 9 = (q : Int) := by rw [hq]; omega
      have t4 : (k : Int).tdiv 9 = (q : Int) := by rw [Int.tdiv_eq_ediv_of_nonneg (by omega)]; exact t3
      have hrq : r ≤ 8 ∧ q ≤ 8 := by omega
      have t5 : (r : Int) * 9 + (q : Int) = (m : Int) := by rw [hm, hr, hq]; unfold tpos; omega
      have sk : s k = turned s m := by unfold turned; rw [tt]
      rw [sk] at c3
      have hi0 : (0 : Int) ≤ (k : Int) := Int.natCast_nonneg _
      have hm0 : (0 : Int) ≤ (m : Int) := Int.natCast_nonneg _
      have hm1 : (m : Int) < 81 := by omega
      have TT := Lib.hid tt
      clear har hbl hm hr hq tt sk
      go_wp2_with fail
      go_roundw
      case rel =>
        refine ⟨k + 1, by omega, by go_num, (HA.out.set_ tl _).congr fun i hi => ?_, HB.out.setCell (Nat.le_refl _) _⟩
        by_cases hik : i = m
        · subst hik
          show (if i = i then _ else _) = if tpos i < k + 1 then _ else _
          rw [if_pos rfl, if_pos (by rw [TT.out]; omega)]
        · show (if i = m then _ else _) = if tpos i < k + 1 then _ else _
          rw [if_neg hik]
          have hne : tpos i ≠ k := fun q => hik (by have h1 := (tpos_tpos hi).1; rw [q] at h1; have h2 := (tpos_tpos tl).1; rw [TT.out] at h2; omega)
          by_cases h5 : tpos i < k
          · rw [if_pos h5, if_pos (by omega)]
          · rw [if_neg h5, if_neg (by omega)]
      case measure => simp [intOf]; omega
    · obtain rfl : k = 81 := by omega
      have RQ : Hid (Rb wr (some ⟨w2.heap.size, 0, none⟩) 81 (turned s)) := Lib.hid ((HA.out.congr fun i hi => if_pos (tpos_tpos hi).2).rd)
      have BB := Lib.hid (BB.out.trans (hbl.mono BB.out.size))
      have RP := Lib.hid (Rd.go RP.out hbl)
      clear hbl
      clear har HB HA
      go_wp2_with fail
      refine Calls.mono (luma44 _ 81 _ s 9 9 _ _ _ RP.out HS.out (by omega) (by omega) (by omega) (by omega) (by omega)) ?_
      rintro e w3 hq
      obtain ⟨A1, p1, rfl, hr, -, -, hb⟩ := gives_at hq
      clear hq
      have BB := Lib.hid (BB.out.trans (hb.mono BB.out.size))
      have RP := Lib.hid (Rd.go RP.out hb)
      have RQ := Lib.hid (Rd.go RQ.out hb)
      clear hb
      have R1 := Lib.hid hr
      clear hr
      go_wp2_with fail
      refine Calls.mono (luma44 _ 81 _ (turned s) 9 9 _ _ _ RQ.out HT.out (by omega) (by omega) (by omega) (by omega) (by omega)) ?_
      rintro e w4 hq
      obtain ⟨A2, p2, rfl, hr, -, -, hb⟩ := gives_at hq
      clear hq
      have BB := Lib.hid (BB.out.trans (hb.mono BB.out.size))
      have RP := Lib.hid (Rd.go RP.out hb)
      have RQ := Lib.hid (Rd.go RQ.out hb)
      have R1 := Lib.hid (Rd.go R1.out hb)
      clear hb
      have R2 := Lib.hid hr
      clear hr
      go_wp2_with fail
      refine Calls.mono (chroma44 _ 81 _ s 9 9 _ _ _ RP.out HS.out (by omega) (by omega) (by omega) (by omega) (by omega)) ?_
      rintro e w5 hq
      obtain ⟨A3, p3, rfl, hr, -, -, hb⟩ := gives_at hq
      clear hq
      have BB := Lib.hid (BB.out.trans (hb.mono BB.out.size))
      have RP := Lib.hid (Rd.go RP.out hb)
      have RQ := Lib.hid (Rd.go RQ.out hb)
      have R1 := Lib.hid (Rd.go R1.out hb)
      have R2 := Lib.hid (Rd.go R2.out hb)
      clear hb
      have R3 := Lib.hid hr
      clear hr
      go_wp2_with fail
      refine Calls.mono (chroma44 _ 81 _ (turned s) 9 9 _ _ _ RQ.out HT.out (by omega) (by omega) (by omega) (by omega) (by omega)) ?_
      rintro e w6 hq
      obtain ⟨A4, p4, rfl, hr, -, -, hb⟩ := gives_at hq
      clear hq
      have BB := Lib.hid (BB.out.trans (hb.mono BB.out.size))
      have RP := Lib.hid (Rd.go RP.out hb)
      have RQ := Lib.hid (Rd.go RQ.out hb)
      have R1 := Lib.hid (Rd.go R1.out hb)
      have R2 := Lib.hid (Rd.go R2.out hb)
      have R3 := Lib.hid (Rd.go R3.out hb)
      clear hb
      have R4 := Lib.hid hr
      clear hr
      go_wp2_with (go_at_call 16; refine (num_any _ _).mono ?_; rintro e w' ⟨rfl, rfl⟩)
      go_loopw [20] (fun t wr => ∃ k : Nat, k ≤ 16 ∧ t = .int .i64 k ∧ Below w6.heap.size w6 wr) (fun t _ => 16 - (intOf t).toNat)
      case atStart => exact ⟨0, Nat.zero_le _, rfl, Below.refl _ _⟩
      case round =>
        obtain ⟨k, hk, rfl, hbl⟩ := hrel
        by_cases hlt : k < 16
        · obtain ⟨m, hm⟩ : ∃ m, m = k % 4 * 4 + k / 4 := ⟨_, rfl⟩
          have hmb : m < 16 := by omega
          have E1 := Lib.hid (turn_lum s (x.tmod 60) (y.tmod 60) k hlt)
          have E2 := Lib.hid (turn_chr s (x.tmod 60) (y.tmod 60) k hlt)
          obtain ⟨d1, rfl, -, c1⟩ := (Rd.go R1.out hbl).at_ hlt
          obtain ⟨d2, rfl, -, c2⟩ := (Rd.go R2.out hbl).at_ hmb
          obtain ⟨d3, rfl, -, c3⟩ := (Rd.go R3.out hbl).at_ hlt
          obtain ⟨d4, rfl, -, c4⟩ := (Rd.go R4.out hbl).at_ hmb
          rw [← hm] at E1 E2
          have E1 := E1.out
          have E2 := E2.out
          rw [E1] at c2
          rw [E2] at c4
          clear E1 E2
          generalize lumF s 9 9 (x.tmod 60) (y.tmod 60) 4 k = u1 at *
          generalize chrF s 9 9 (x.tmod 60) (y.tmod 60) 4 k = u2 at *
          obtain ⟨r, hr⟩ : ∃ r, r = k % 4 := ⟨_, rfl⟩
          obtain ⟨q, hq⟩ : ∃ q, q = k / 4 := ⟨_, rfl⟩
          have hrq : r ≤ 3 ∧ q ≤ 3 := by omega
          have t1 : (k : Int) % 4 = (r : Int) := by rw [hr]; omega
          have t2 : (k : Int).tmod 4 = (r : Int) := by rw [Int.tmod_eq_emod_of_nonneg (by omega)]; exact t1
          have t3 : (k : Int) / 4 = (q : Int) := by rw [hq]; omega
          have t4 : (k : Int).tdiv 4 = (q : Int) := by rw [Int.tdiv_eq_ediv_of_nonneg (by omega)]; exact t3
          have t5 : (r : Int) * 4 + (q : Int) = (m : Int) := by rw [hm, hr, hq]; omega
          have t6 : IntKind.i64.wrap ((r : Int) * 4) = (r : Int) * 4 := wr_in (by omega)
          have t7 : IntKind.i64.wrap ((r : Int) * 4 + (q : Int)) = (m : Int) := by rw [t5]; exact wr_in (by omega)
          have HB := Lib.hid hbl
          clear hbl hm hr hq
          have hi0 : (0 : Int) ≤ (k : Int) := Int.natCast_nonneg _
          have hm0 : (0 : Int) ≤ (m : Int) := Int.natCast_nonneg _
          have hm1 : (m : Int) < 16 := by omega
          go_wp2_with fail
          go_quiet (fail)
          go_wp2_with fail
          go_roundw
          case rel => exact ⟨k + 1, by omega, by go_num, ⟨HB.out.os, HB.out.tape, HB.out.output, HB.out.size, HB.out.block⟩⟩
          case measure => simp [intOf]; omega
        · go_wp2_with fail
          go_ret
          exact ⟨rfl, BB.out.trans (hbl.mono BB.out.size)⟩

end Go.Proofs.Ytoagihocibeidaa
