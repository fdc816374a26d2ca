/- The statement PlanOnce: the walk. -/
import Derived.Test.YtoniejneoibpoaaPlanO
import Derived.Test.YtoniejneoibpoaaPlanP
import Derived.Test.YtoniejneoibpoaaMake
namespace Go.Proofs.Ytoniejneoibpoaa
open Go.RowKit
set_option linter.unusedVariables false
set_option linter.unusedSimpArgs false
attribute [local go_sem] ite_max ite_min and_7 and_31 and_63

theorem int_info : (Try.prog.info? 3).map (fun i => (i.zero, i.size, i.bytes)) = some (some (.int .i64 0), 1, 8) := by kernel_rfl

theorem Rp.pic_ {w : World} {A : Option Addr} {p b m : Nat} (h : Rp w A (planned p b m)) {k : Nat} (hk : k < (planned p b m).length) :
    ∃ g, A = some ⟨g, 0, none⟩ ∧ g < w.heap.size ∧ w.cell? ⟨g, k * 5, none⟩ = some (.int .i64 (pic p b m k).frame) ∧ w.cell? ⟨g, k * 5 + 1, none⟩ = some (.int .i64 (pic p b m k).type) ∧ w.cell? ⟨g, k * 5 + 2, none⟩ = some (.bool (pic p b m k).ref) ∧
      w.cell? ⟨g, k * 5 + 3, none⟩ = some (.bool (pic p b m k).key) := by
  obtain ⟨g, e, hg, h0, h1, h2, h3, _⟩ := h.at_ hk
  have : pic p b m k = (planned p b m)[k] := by
    unfold pic
    rw [List.getD_eq_getElem?_getD, List.getElem?_eq_getElem hk]
    rfl
  rw [this]
  exact ⟨g, e, hg, h0, h1, h2, h3⟩

/-- the frames' places so far -/
def atF (p b m k : Nat) (y : Nat) : Value := .int .i64 (if pos p b m y < k then (pos p b m y : Int) + 1 else 0)

set_option maxRecDepth 100000 in
set_option maxHeartbeats 6400000 in
theorem walk_PlanOnce (wide high refs qp bs period : Int) (cabac : Bool) (slices : Int) (pcm deblock : Bool) (poc bits many : Int) (w : World) (_ : (Lit.int .i64 wide).wf = true) (_ : (Lit.int .i64 high).wf = true) (_ : (Lit.int .i64 refs).wf = true) (_ : (Lit.int .i64 qp).wf = true) (_ : (Lit.int .i64 bs).wf = true) (_ : (Lit.int .i64 period).wf = true) (_ : (Lit.int .i64 slices).wf = true) (_ : (Lit.int .i64 poc).wf = true) (_ : (Lit.int .i64 bits).wf = true) (_ : (Lit.int .i64 many).wf = true) :
    Calls Try.prog 5 #[.agg #[.int .i64 wide, .int .i64 high, .int .i64 refs, .int .i64 qp, .int .i64 bs, .int .i64 period, .bool cabac, .int .i64 slices, .bool pcm, .bool deblock, .int .i64 poc, .int .i64 bits], .int .i64 many] w fun e w' => e = .returned (.bool true) ∧ Below w.heap.size w w' := by
  obtain ⟨i0, hi, hz0, hz1, hz2⟩ := info_parts int_info
  obtain ⟨m, hm, hm1⟩ : ∃ m : Nat, many % 64 = (m : Int) ∧ m ≤ 63 := ⟨(many % 64).toNat, by omega, by omega⟩
  have H1 := plan_any wide high refs qp bs period cabac slices pcm deblock poc bits m
  unfold cfgV at H1
  cases hok : okP wide high refs qp bs period slices poc bits m
  · rw [hok] at H1
    have H1 := Lib.hid H1
    clear hok
    go_enter Try.func5, Try.ntmps5
    go_wp2_with fail
    refine (awake_any _).mono ?_
    rintro e w1 ⟨rfl, hb⟩
    have BB := Lib.hid (((Below.refl w.heap.size w).alloc (Nat.le_refl _) _).trans (hb.mono (by simp)))
    have KC : Hid (Bk w1 w.heap.size 24 (cfgV wide high refs qp bs period cabac slices pcm deblock poc bits)) := Lib.hid ((Bk.new _ _ _).go hb)
    clear hb
    have g0 : w1.cell? ⟨w.heap.size, 0, none⟩ = _ := KC.out.cell 0
    have g1 : w1.cell? ⟨w.heap.size, 1, none⟩ = _ := KC.out.cell 1
    have g2 : w1.cell? ⟨w.heap.size, 2, none⟩ = _ := KC.out.cell 2
    have g3 : w1.cell? ⟨w.heap.size, 3, none⟩ = _ := KC.out.cell 3
    have g4 : w1.cell? ⟨w.heap.size, 4, none⟩ = _ := KC.out.cell 4
    have g5 : w1.cell? ⟨w.heap.size, 5, none⟩ = _ := KC.out.cell 5
    have g6 : w1.cell? ⟨w.heap.size, 6, none⟩ = _ := KC.out.cell 6
    have g7 : w1.cell? ⟨w.heap.size, 7, none⟩ = _ := KC.out.cell 7
    have g8 : w1.cell? ⟨w.heap.size, 8, none⟩ = _ := KC.out.cell 8
    have g9 : w1.cell? ⟨w.heap.size, 9, none⟩ = _ := KC.out.cell 9
    have g10 : w1.cell? ⟨w.heap.size, 10, none⟩ = _ := KC.out.cell 10
    have g11 : w1.cell? ⟨w.heap.size, 11, none⟩ = _ := KC.out.cell 11
    simp [cfgV] at g0 g1 g2 g3 g4 g5 g6 g7 g8 g9 g10 g11
    go_wp2_with fail
    refine (H1.out _).mono ?_
    rintro e w2 hq
    obtain ⟨A, cp, rfl, -, -, -, -, -, -, hb⟩ := Row.open_ hq
    have BB := Lib.hid (BB.out.trans (hb.mono BB.out.size))
    have e0 : (resL false bs period ↑m).length = 0 := rfl
    have e1 : resC false = 2500 := rfl
    clear hb hq g0 g1 g2 g3 g4 g5 g6 g7 g8 g9 g10 g11
    go_wp2_with (go_at_call 22; refine (num_any _ _).mono ?_; rintro e w' ⟨rfl, rfl⟩)
    go_ret
    exact ⟨rfl, BB.out⟩
  · rw [hok] at H1
    obtain ⟨bp, bb, bm⟩ := okP_bd hok
    obtain ⟨p, hp0, hp⟩ : ∃ p : Nat, p = period.toNat ∧ 1 ≤ p ∧ p ≤ 7 := ⟨period.toNat, rfl, by omega⟩
    obtain ⟨b, hb0, hb⟩ : ∃ b : Nat, b = bs.toNat ∧ b ≤ 2 := ⟨bs.toNat, rfl, by omega⟩
    have e1 : resL true bs period (m : Int) = planned p b m := by rw [hp0, hb0]; rfl
    rw [e1] at H1
    have H1 := Lib.hid H1
    have HL := Lib.hid (planned_length hp hb (show m ≤ 64 by omega))
    have O1 := Lib.hid (fun i hi => once1 (i := i) hp hb (show m ≤ 64 by omega) hi)
    have O2 := Lib.hid (fun y hy => once2 (y := y) hp hb (show m ≤ 64 by omega) hy)
    have O3 := Lib.hid (fun i hi => once3 (i := i) hp hb (show m ≤ 64 by omega) hi)
    have HMk := Lib.hid (run_make_one (P := Try.prog) 35 3 i0 (.int .i64 0) Try.underlying35 hi hz0 hz1 rfl m (by rw [hz2]; omega) (by omega))
    clear hok hp0 hb0 e1
    go_enter Try.func5, Try.ntmps5
    go_wp2_with fail
    refine (awake_any _).mono ?_
    rintro e w1 ⟨rfl, hb⟩
    have BB := Lib.hid (((Below.refl w.heap.size w).alloc (Nat.le_refl _) _).trans (hb.mono (by simp)))
    have KC : Hid (Bk w1 w.heap.size 24 (cfgV wide high refs qp bs period cabac slices pcm deblock poc bits)) := Lib.hid ((Bk.new _ _ _).go hb)
    clear hb
    have g0 : w1.cell? ⟨w.heap.size, 0, none⟩ = _ := KC.out.cell 0
    have g1 : w1.cell? ⟨w.heap.size, 1, none⟩ = _ := KC.out.cell 1
    have g2 : w1.cell? ⟨w.heap.size, 2, none⟩ = _ := KC.out.cell 2
    have g3 : w1.cell? ⟨w.heap.size, 3, none⟩ = _ := KC.out.cell 3
    have g4 : w1.cell? ⟨w.heap.size, 4, none⟩ = _ := KC.out.cell 4
    have g5 : w1.cell? ⟨w.heap.size, 5, none⟩ = _ := KC.out.cell 5
    have g6 : w1.cell? ⟨w.heap.size, 6, none⟩ = _ := KC.out.cell 6
    have g7 : w1.cell? ⟨w.heap.size, 7, none⟩ = _ := KC.out.cell 7
    have g8 : w1.cell? ⟨w.heap.size, 8, none⟩ = _ := KC.out.cell 8
    have g9 : w1.cell? ⟨w.heap.size, 9, none⟩ = _ := KC.out.cell 9
    have g10 : w1.cell? ⟨w.heap.size, 10, none⟩ = _ := KC.out.cell 10
    have g11 : w1.cell? ⟨w.heap.size, 11, none⟩ = _ := KC.out.cell 11
    simp [cfgV] at g0 g1 g2 g3 g4 g5 g6 g7 g8 g9 g10 g11
    go_wp2_with fail
    refine (H1.out _).mono ?_
    rintro e w2 hq
    obtain ⟨A, cp, rfl, c1, c2, hr, hlo, -, -, hb⟩ := Row.open_ hq
    have BB := Lib.hid (BB.out.trans (hb.mono BB.out.size))
    have R1 := Lib.hid hr
    have LO := Lib.hid hlo
    rw [HL.out] at c1 ⊢
    have e1 : resC true = 0 := rfl
    clear hb hq hr hlo g0 g1 g2 g3 g4 g5 g6 g7 g8 g9 g10 g11
    have hmk := HMk.out
    go_wp2_with (go_at_call 22; refine (num_any _ _).mono ?_; rintro e w' ⟨rfl, rfl⟩)
    clear hmk
    go_loopw [9] (fun i wr => ∃ k : Nat, k ≤ m ∧ i = .int .i64 k ∧ Ar wr w2.heap.size m (atF p b m k) ∧ Rp wr A (planned p b m) ∧ Below w.heap.size w wr) (fun i _ => m - (intOf i).toNat)
    case atStart =>
      refine ⟨0, Nat.zero_le _, rfl, (Ar.made _ _ _ _).congr fun k _ => ?_, R1.out.go ((Below.refl _ _).alloc (Nat.le_refl _) _), BB.out.alloc BB.out.size _⟩
      unfold atF
      rw [if_neg (by omega)]
    case round =>
      obtain ⟨k, hk, rfl, har, hr, hbl⟩ := hrel
      have HB := Lib.hid hbl
      have HR := Lib.hid hr
      have HA := Lib.hid har
      clear hbl hr har
      by_cases hlt : k < m
      · obtain ⟨g1, rfl, hg1, f0, f1, f2, f3⟩ := HR.out.pic_ (show k < (planned p b m).length by rw [HL.out]; exact hlt)
        obtain ⟨q1, q2, q3, q4⟩ := O1.out k hlt
        have hg2 : g1 < w2.heap.size := (LO.out g1 rfl).2
        have a0 : wr.cell? ⟨w2.heap.size, (pic p b m k).frame, none⟩ = some (.int .i64 0) := by
          rw [HA.out.1 _ q1]
          unfold atF
          rw [q2, if_neg (by omega)]
        have a1 := HA.out.2.1 (pic p b m k).frame
        have Q2 := Lib.hid q2
        generalize hfr : (pic p b m k).frame = fr at *
        generalize (pic p b m k).type = ty at *
        generalize (pic p b m k).key = ky at *
        generalize (pic p b m k).ref = rf at *
        have z1 : ((ty : Int) == 2) = ky := by rw [q3, Bool.eq_iff_iff]; simp; omega
        have z2 : ((ty : Int) == 1) = !rf := by rw [q4, Bool.eq_iff_iff]; simp [bne]; omega
        have hi0 : (0 : Int) ≤ (k : Int) := Int.natCast_nonneg _
        have hi1 : (k : Int) < (m : Int) := by omega
        have hj0 : (0 : Int) ≤ (fr : Int) := Int.natCast_nonneg _
        have hj1 : (fr : Int) < (m : Int) := by omega
        have HFR := Lib.hid hfr
        clear q2 q3 q4 hfr
        cases ky <;> cases rf
        all_goals
          go_wp2_with fail
          go_quiet (fail)
          go_wp2_with fail
          go_roundw
          case rel =>
            refine ⟨k + 1, by omega, by go_num, ((HA.out.drewN _).set_ q1 _).congr fun y hy => ?_, HR.out.touch (S := fun j => j = w2.heap.size) (Touch.setCell (S := fun j => j = w2.heap.size) ((Touch.refl _ _).drewN _) (fun _ => rfl) _) (fun g q e => by injection q with q; injection q; omega), ?_⟩
            · unfold atF
              by_cases hyf : y = fr
              · subst hyf
                rw [if_pos rfl, Q2.out, if_pos (by omega)]
              · rw [if_neg hyf]
                have h3 : pos p b m y ≠ k := fun q => hyf (by have := (O2.out y hy).2; rw [q, HFR.out] at this; exact this.symm)
                by_cases h4 : pos p b m y < k
                · rw [if_pos h4, if_pos (by omega)]
                · rw [if_neg h4, if_neg (by omega)]
            · have hq := HB.out
              exact Below.setCell (w := wr.drewN _) ⟨hq.os, hq.tape, hq.output, hq.size, hq.block⟩ (by show w.heap.size ≤ w2.heap.size; exact BB.out.size) _
          case measure => simp [intOf]; omega
      · obtain rfl : m = k := by omega
        have HA : Hid (∀ y, y < m → wr.cell? ⟨w2.heap.size, y, none⟩ = some (.int .i64 ((pos p b m y : Int) + 1))) := Lib.hid fun y hy => by
          rw [HA.out.1 y hy]
          unfold atF
          rw [if_pos (O2.out y hy).1]
        go_wp2_with fail
        go_loop [11] (fun i => ∃ k : Nat, k ≤ m ∧ i = .int .i64 k) (fun i => m - (intOf i).toNat)
        case atStart => exact ⟨0, Nat.zero_le _, rfl⟩
        case round =>
          obtain ⟨k, hk, rfl⟩ := hrel
          by_cases hlt2 : k < m
          · obtain ⟨g1, rfl, hg1, f0, f1, f2, f3⟩ := HR.out.pic_ (show k < (planned p b m).length by rw [HL.out]; exact hlt2)
            obtain ⟨q1, q2, q3, q4⟩ := O1.out k hlt2
            have hi0 : (0 : Int) ≤ (k : Int) := Int.natCast_nonneg _
            have hi1 : (k : Int) < (m : Int) := by omega
            clear q2 q3 q4 f2 f3
            by_cases hty : (pic p b m k).type = 1
            · obtain ⟨r1, N, r2, r3, r4, r5, r6, r7⟩ := O3.out k hlt2 hty
              have R7 := Lib.hid r7
              rw [hty] at f1
              generalize (pic p b m k).frame = fr at *
              have f1' : wr.cell? ⟨g1, k * 5 + 1, none⟩ = some (.int .i64 1) := f1
              clear r7 f1 hty
              go_wp2_with fail
              go_loop [14] (fun y => ∃ Y : Nat, fr < Y ∧ Y ≤ N ∧ y = .int .i64 Y) (fun y => N - (intOf y).toNat)
              case atStart => exact ⟨fr + 1, by omega, by omega, by go_num⟩
              case round =>
                obtain ⟨Y, hY1, hY2, rfl⟩ := hrel
                have c1 := HA.out Y (by omega)
                obtain ⟨s1, s2⟩ := O2.out Y (by omega)
                obtain ⟨g1', e1', _, _, h1, h2, _⟩ := HR.out.pic_ (show pos p b m Y < (planned p b m).length by rw [HL.out]; exact s1)
                obtain rfl : g1 = g1' := by injection e1' with q; injection q
                have s3 : (0 : Int) ≤ (pos p b m Y : Int) := Int.natCast_nonneg _
                have s4 : (pos p b m Y : Int) < (m : Int) := by omega
                have s5 : (pos p b m Y : Int) + 1 - 1 = (pos p b m Y : Int) := by omega
                have s6 : (0 : Int) ≤ (Y : Int) := Int.natCast_nonneg _
                have s7 : (Y : Int) < (m : Int) := by omega
                by_cases hYN : Y < N
                · have h1' : wr.cell? ⟨g1, pos p b m Y * 5 + 1, none⟩ = some (.int .i64 1) := by rw [h1, R7.out Y hY1 hYN]; rfl
                  generalize pos p b m Y = py at *
                  clear h1 h2 s1 s2 e1'
                  go_wp2_with fail
                  go_round
                  case rel => exact ⟨Y + 1, by omega, by omega, by go_num⟩
                  case measure => simp [intOf]; omega
                · obtain rfl : N = Y := by omega
                  rw [r6] at h2
                  have t1 : (((pic p b m (pos p b m N)).type : Int) == 1) = false := by simp; omega
                  generalize (pic p b m (pos p b m N)).type = ty at *
                  generalize pos p b m N = py at *
                  clear s1 s2 e1' r5 r6
                  go_wp2_with fail
                  go_round
                  case rel => exact ⟨k + 1, by omega, by go_num⟩
                  case measure => simp [intOf]; omega
            · have t1 : (((pic p b m k).type : Int) != 1) = true := by simp; omega
              generalize (pic p b m k).type = ty at *
              generalize (pic p b m k).frame = fr at *
              go_wp2_with fail
              go_round
              case rel => exact ⟨k + 1, by omega, by go_num⟩
              case measure => simp [intOf]; omega
          · obtain rfl : m = k := by omega
            go_wp2_with fail
            go_ret
            exact ⟨rfl, HB.out⟩

end Go.Proofs.Ytoniejneoibpoaa
