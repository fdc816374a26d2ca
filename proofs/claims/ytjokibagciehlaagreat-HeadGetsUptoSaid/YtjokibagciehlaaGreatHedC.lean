/- mayWeights. Printed by gen-hed.py. -/
import Derived.Test.YtjokibagciehlaaGreatHedB
namespace Go.Proofs.YtjokibagciehlaaGreat
open Go.RowKit
set_option linter.unusedVariables false
set_option linter.unusedSimpArgs false

set_option maxRecDepth 100000 in
set_option maxHeartbeats 6400000 in
theorem maywts_any (l : List Wt) (many : Int) (A : Option Addr) (c : Nat) (w : World) (hl : RwAt w w.heap.size A 6 wtF l) (hn : l.length ≤ 1152921504606846976) :
    Calls Tryz.prog 87 #[.slice A l.length c, .int .i64 many] w fun e w' => e = .returned (.bool (mayWts l many)) ∧ Below w.heap.size w w' := by
  by_cases h16 : (l.length : Int) = many
  · have hM : mayWts l many = l.all wtOk := by
      unfold mayWts
      rw [decide_eq_true h16, Bool.true_and]
    have HM := Lib.hid hM
    have HL := Lib.hid hl
    subst h16
    clear hM hl
    go_enter Tryz.func87, Tryz.ntmps87
    go_wp2_with fail
    go_loopw [14] (fun i wr => ∃ k : Nat, k ≤ l.length ∧ i = .int .i64 k ∧ (l.take k).all wtOk = true ∧ Below w.heap.size w wr) (fun i _ => l.length - (intOf i).toNat)
    case atStart => exact ⟨0, Nat.zero_le _, rfl, by simp, Below.refl _ _⟩
    case round =>
      obtain ⟨k, hk, rfl, hall, hbl⟩ := hrel
      have HA := Lib.hid hall
      have HB := Lib.hid hbl
      clear hall hbl
      by_cases hlt : k < l.length
      · have hlt' : (k : Int) < (l.length : Int) := by omega
        have hk0 : (0 : Int) ≤ (k : Int) := Int.natCast_nonneg _
        obtain ⟨ad, rfl, hab, hc⟩ := (HL.out.below HB.out (Nat.le_refl _)) (by omega)
        obtain ⟨hc0, hcj⟩ := hc k hlt
        have hc1 := hcj 1 (by omega) (by omega)
        have hc2 := hcj 2 (by omega) (by omega)
        have hc3 := hcj 3 (by omega) (by omega)
        have hc4 := hcj 4 (by omega) (by omega)
        have hc5 := hcj 5 (by omega) (by omega)
        obtain ⟨⟨xs0, xs1, xs2, xo0, xo1, xo2⟩, hm⟩ : ∃ m, m = l[k] := ⟨_, rfl⟩
        rw [← hm] at hc0 hc1 hc2 hc3 hc4 hc5
        have d0 : wr.cell? (ad.add (k * 6)) = some (.int .i64 xs0) := hc0
        have d1 : wr.cell? ⟨(ad.add (k * 6)).block, (ad.add (k * 6)).off + 1, none⟩ = some (.int .i64 xs1) := hc1
        have d2 : wr.cell? ⟨(ad.add (k * 6)).block, (ad.add (k * 6)).off + 2, none⟩ = some (.int .i64 xs2) := hc2
        have d3 : wr.cell? ⟨(ad.add (k * 6)).block, (ad.add (k * 6)).off + 3, none⟩ = some (.int .i64 xo0) := hc3
        have d4 : wr.cell? ⟨(ad.add (k * 6)).block, (ad.add (k * 6)).off + 4, none⟩ = some (.int .i64 xo1) := hc4
        have d5 : wr.cell? ⟨(ad.add (k * 6)).block, (ad.add (k * 6)).off + 5, none⟩ = some (.int .i64 xo2) := hc5
        clear hc0 hc1 hc2 hc3 hc4 hc5 hcj hc hab
        obtain ⟨b0, hb0⟩ : ∃ b, inR (-128) 127 xs0 = b := ⟨_, rfl⟩
        have HI0 := Lib.hid (fun w => hb0 ▸ hin_any xs0 (-128) 127 w)
        obtain ⟨b1, hb1⟩ : ∃ b, inR (-128) 127 xo0 = b := ⟨_, rfl⟩
        have HI1 := Lib.hid (fun w => hb1 ▸ hin_any xo0 (-128) 127 w)
        obtain ⟨b2, hb2⟩ : ∃ b, inR (-128) 127 xs1 = b := ⟨_, rfl⟩
        have HI2 := Lib.hid (fun w => hb2 ▸ hin_any xs1 (-128) 127 w)
        obtain ⟨b3, hb3⟩ : ∃ b, inR (-128) 127 xo1 = b := ⟨_, rfl⟩
        have HI3 := Lib.hid (fun w => hb3 ▸ hin_any xo1 (-128) 127 w)
        obtain ⟨b4, hb4⟩ : ∃ b, inR (-128) 127 xs2 = b := ⟨_, rfl⟩
        have HI4 := Lib.hid (fun w => hb4 ▸ hin_any xs2 (-128) 127 w)
        obtain ⟨b5, hb5⟩ : ∃ b, inR (-128) 127 xo2 = b := ⟨_, rfl⟩
        have HI5 := Lib.hid (fun w => hb5 ▸ hin_any xo2 (-128) 127 w)
        have HOK := Lib.hid (show wtOk ⟨xs0, xs1, xs2, xo0, xo1, xo2⟩ = (b0 && b1 && (b2 && b3) && (b4 && b5)) by unfold wtOk; rw [hb0, hb1, hb2, hb3, hb4, hb5])
        have HMM := Lib.hid hm
        have HBA := Lib.hid (HB.out.alloc HB.out.size (.cells #[.int .i64 xs0, .int .i64 xs1, .int .i64 xs2, .int .i64 xo0, .int .i64 xo1, .int .i64 xo2] 116))
        clear hm hb0 hb1 hb2 hb3 hb4 hb5
        cases b0
        · go_wp2_with (go_at_call 42; first | (with_reducible refine (HI0.out _).mono ?_; rintro e w' ⟨rfl, rfl⟩) | (with_reducible refine (HI1.out _).mono ?_; rintro e w' ⟨rfl, rfl⟩) | (with_reducible refine (HI2.out _).mono ?_; rintro e w' ⟨rfl, rfl⟩) | (with_reducible refine (HI3.out _).mono ?_; rintro e w' ⟨rfl, rfl⟩) | (with_reducible refine (HI4.out _).mono ?_; rintro e w' ⟨rfl, rfl⟩) | (with_reducible refine (HI5.out _).mono ?_; rintro e w' ⟨rfl, rfl⟩))
          refine wp_loop_rounds 4 ?_
          rw [rounds_succ]
          go_wp2_with (go_at_call 42; first | (with_reducible refine (HI0.out _).mono ?_; rintro e w' ⟨rfl, rfl⟩) | (with_reducible refine (HI1.out _).mono ?_; rintro e w' ⟨rfl, rfl⟩) | (with_reducible refine (HI2.out _).mono ?_; rintro e w' ⟨rfl, rfl⟩) | (with_reducible refine (HI3.out _).mono ?_; rintro e w' ⟨rfl, rfl⟩) | (with_reducible refine (HI4.out _).mono ?_; rintro e w' ⟨rfl, rfl⟩) | (with_reducible refine (HI5.out _).mono ?_; rintro e w' ⟨rfl, rfl⟩))
          go_ret
          refine ⟨?_, HBA.out⟩
          have hno := all_no wtOk l k hlt (by rw [← HMM.out, HOK.out]; simp)
          rw [HM.out, hno]
          rfl
        · skip
          cases b1
          · go_wp2_with (go_at_call 42; first | (with_reducible refine (HI0.out _).mono ?_; rintro e w' ⟨rfl, rfl⟩) | (with_reducible refine (HI1.out _).mono ?_; rintro e w' ⟨rfl, rfl⟩) | (with_reducible refine (HI2.out _).mono ?_; rintro e w' ⟨rfl, rfl⟩) | (with_reducible refine (HI3.out _).mono ?_; rintro e w' ⟨rfl, rfl⟩) | (with_reducible refine (HI4.out _).mono ?_; rintro e w' ⟨rfl, rfl⟩) | (with_reducible refine (HI5.out _).mono ?_; rintro e w' ⟨rfl, rfl⟩))
            refine wp_loop_rounds 4 ?_
            rw [rounds_succ]
            go_wp2_with (go_at_call 42; first | (with_reducible refine (HI0.out _).mono ?_; rintro e w' ⟨rfl, rfl⟩) | (with_reducible refine (HI1.out _).mono ?_; rintro e w' ⟨rfl, rfl⟩) | (with_reducible refine (HI2.out _).mono ?_; rintro e w' ⟨rfl, rfl⟩) | (with_reducible refine (HI3.out _).mono ?_; rintro e w' ⟨rfl, rfl⟩) | (with_reducible refine (HI4.out _).mono ?_; rintro e w' ⟨rfl, rfl⟩) | (with_reducible refine (HI5.out _).mono ?_; rintro e w' ⟨rfl, rfl⟩))
            go_ret
            refine ⟨?_, HBA.out⟩
            have hno := all_no wtOk l k hlt (by rw [← HMM.out, HOK.out]; simp)
            rw [HM.out, hno]
            rfl
          · skip
            cases b2
            · go_wp2_with (go_at_call 42; first | (with_reducible refine (HI0.out _).mono ?_; rintro e w' ⟨rfl, rfl⟩) | (with_reducible refine (HI1.out _).mono ?_; rintro e w' ⟨rfl, rfl⟩) | (with_reducible refine (HI2.out _).mono ?_; rintro e w' ⟨rfl, rfl⟩) | (with_reducible refine (HI3.out _).mono ?_; rintro e w' ⟨rfl, rfl⟩) | (with_reducible refine (HI4.out _).mono ?_; rintro e w' ⟨rfl, rfl⟩) | (with_reducible refine (HI5.out _).mono ?_; rintro e w' ⟨rfl, rfl⟩))
              refine wp_loop_rounds 4 ?_
              rw [rounds_succ]
              go_wp2_with (go_at_call 42; first | (with_reducible refine (HI0.out _).mono ?_; rintro e w' ⟨rfl, rfl⟩) | (with_reducible refine (HI1.out _).mono ?_; rintro e w' ⟨rfl, rfl⟩) | (with_reducible refine (HI2.out _).mono ?_; rintro e w' ⟨rfl, rfl⟩) | (with_reducible refine (HI3.out _).mono ?_; rintro e w' ⟨rfl, rfl⟩) | (with_reducible refine (HI4.out _).mono ?_; rintro e w' ⟨rfl, rfl⟩) | (with_reducible refine (HI5.out _).mono ?_; rintro e w' ⟨rfl, rfl⟩))
              rw [rounds_succ]
              go_wp2_with (go_at_call 42; first | (with_reducible refine (HI0.out _).mono ?_; rintro e w' ⟨rfl, rfl⟩) | (with_reducible refine (HI1.out _).mono ?_; rintro e w' ⟨rfl, rfl⟩) | (with_reducible refine (HI2.out _).mono ?_; rintro e w' ⟨rfl, rfl⟩) | (with_reducible refine (HI3.out _).mono ?_; rintro e w' ⟨rfl, rfl⟩) | (with_reducible refine (HI4.out _).mono ?_; rintro e w' ⟨rfl, rfl⟩) | (with_reducible refine (HI5.out _).mono ?_; rintro e w' ⟨rfl, rfl⟩))
              go_ret
              refine ⟨?_, HBA.out⟩
              have hno := all_no wtOk l k hlt (by rw [← HMM.out, HOK.out]; simp)
              rw [HM.out, hno]
              rfl
            · skip
              cases b3
              · go_wp2_with (go_at_call 42; first | (with_reducible refine (HI0.out _).mono ?_; rintro e w' ⟨rfl, rfl⟩) | (with_reducible refine (HI1.out _).mono ?_; rintro e w' ⟨rfl, rfl⟩) | (with_reducible refine (HI2.out _).mono ?_; rintro e w' ⟨rfl, rfl⟩) | (with_reducible refine (HI3.out _).mono ?_; rintro e w' ⟨rfl, rfl⟩) | (with_reducible refine (HI4.out _).mono ?_; rintro e w' ⟨rfl, rfl⟩) | (with_reducible refine (HI5.out _).mono ?_; rintro e w' ⟨rfl, rfl⟩))
                refine wp_loop_rounds 4 ?_
                rw [rounds_succ]
                go_wp2_with (go_at_call 42; first | (with_reducible refine (HI0.out _).mono ?_; rintro e w' ⟨rfl, rfl⟩) | (with_reducible refine (HI1.out _).mono ?_; rintro e w' ⟨rfl, rfl⟩) | (with_reducible refine (HI2.out _).mono ?_; rintro e w' ⟨rfl, rfl⟩) | (with_reducible refine (HI3.out _).mono ?_; rintro e w' ⟨rfl, rfl⟩) | (with_reducible refine (HI4.out _).mono ?_; rintro e w' ⟨rfl, rfl⟩) | (with_reducible refine (HI5.out _).mono ?_; rintro e w' ⟨rfl, rfl⟩))
                rw [rounds_succ]
                go_wp2_with (go_at_call 42; first | (with_reducible refine (HI0.out _).mono ?_; rintro e w' ⟨rfl, rfl⟩) | (with_reducible refine (HI1.out _).mono ?_; rintro e w' ⟨rfl, rfl⟩) | (with_reducible refine (HI2.out _).mono ?_; rintro e w' ⟨rfl, rfl⟩) | (with_reducible refine (HI3.out _).mono ?_; rintro e w' ⟨rfl, rfl⟩) | (with_reducible refine (HI4.out _).mono ?_; rintro e w' ⟨rfl, rfl⟩) | (with_reducible refine (HI5.out _).mono ?_; rintro e w' ⟨rfl, rfl⟩))
                go_ret
                refine ⟨?_, HBA.out⟩
                have hno := all_no wtOk l k hlt (by rw [← HMM.out, HOK.out]; simp)
                rw [HM.out, hno]
                rfl
              · skip
                cases b4
                · go_wp2_with (go_at_call 42; first | (with_reducible refine (HI0.out _).mono ?_; rintro e w' ⟨rfl, rfl⟩) | (with_reducible refine (HI1.out _).mono ?_; rintro e w' ⟨rfl, rfl⟩) | (with_reducible refine (HI2.out _).mono ?_; rintro e w' ⟨rfl, rfl⟩) | (with_reducible refine (HI3.out _).mono ?_; rintro e w' ⟨rfl, rfl⟩) | (with_reducible refine (HI4.out _).mono ?_; rintro e w' ⟨rfl, rfl⟩) | (with_reducible refine (HI5.out _).mono ?_; rintro e w' ⟨rfl, rfl⟩))
                  refine wp_loop_rounds 4 ?_
                  rw [rounds_succ]
                  go_wp2_with (go_at_call 42; first | (with_reducible refine (HI0.out _).mono ?_; rintro e w' ⟨rfl, rfl⟩) | (with_reducible refine (HI1.out _).mono ?_; rintro e w' ⟨rfl, rfl⟩) | (with_reducible refine (HI2.out _).mono ?_; rintro e w' ⟨rfl, rfl⟩) | (with_reducible refine (HI3.out _).mono ?_; rintro e w' ⟨rfl, rfl⟩) | (with_reducible refine (HI4.out _).mono ?_; rintro e w' ⟨rfl, rfl⟩) | (with_reducible refine (HI5.out _).mono ?_; rintro e w' ⟨rfl, rfl⟩))
                  rw [rounds_succ]
                  go_wp2_with (go_at_call 42; first | (with_reducible refine (HI0.out _).mono ?_; rintro e w' ⟨rfl, rfl⟩) | (with_reducible refine (HI1.out _).mono ?_; rintro e w' ⟨rfl, rfl⟩) | (with_reducible refine (HI2.out _).mono ?_; rintro e w' ⟨rfl, rfl⟩) | (with_reducible refine (HI3.out _).mono ?_; rintro e w' ⟨rfl, rfl⟩) | (with_reducible refine (HI4.out _).mono ?_; rintro e w' ⟨rfl, rfl⟩) | (with_reducible refine (HI5.out _).mono ?_; rintro e w' ⟨rfl, rfl⟩))
                  rw [rounds_succ]
                  go_wp2_with (go_at_call 42; first | (with_reducible refine (HI0.out _).mono ?_; rintro e w' ⟨rfl, rfl⟩) | (with_reducible refine (HI1.out _).mono ?_; rintro e w' ⟨rfl, rfl⟩) | (with_reducible refine (HI2.out _).mono ?_; rintro e w' ⟨rfl, rfl⟩) | (with_reducible refine (HI3.out _).mono ?_; rintro e w' ⟨rfl, rfl⟩) | (with_reducible refine (HI4.out _).mono ?_; rintro e w' ⟨rfl, rfl⟩) | (with_reducible refine (HI5.out _).mono ?_; rintro e w' ⟨rfl, rfl⟩))
                  go_ret
                  refine ⟨?_, HBA.out⟩
                  have hno := all_no wtOk l k hlt (by rw [← HMM.out, HOK.out]; simp)
                  rw [HM.out, hno]
                  rfl
                · skip
                  cases b5
                  · go_wp2_with (go_at_call 42; first | (with_reducible refine (HI0.out _).mono ?_; rintro e w' ⟨rfl, rfl⟩) | (with_reducible refine (HI1.out _).mono ?_; rintro e w' ⟨rfl, rfl⟩) | (with_reducible refine (HI2.out _).mono ?_; rintro e w' ⟨rfl, rfl⟩) | (with_reducible refine (HI3.out _).mono ?_; rintro e w' ⟨rfl, rfl⟩) | (with_reducible refine (HI4.out _).mono ?_; rintro e w' ⟨rfl, rfl⟩) | (with_reducible refine (HI5.out _).mono ?_; rintro e w' ⟨rfl, rfl⟩))
                    refine wp_loop_rounds 4 ?_
                    rw [rounds_succ]
                    go_wp2_with (go_at_call 42; first | (with_reducible refine (HI0.out _).mono ?_; rintro e w' ⟨rfl, rfl⟩) | (with_reducible refine (HI1.out _).mono ?_; rintro e w' ⟨rfl, rfl⟩) | (with_reducible refine (HI2.out _).mono ?_; rintro e w' ⟨rfl, rfl⟩) | (with_reducible refine (HI3.out _).mono ?_; rintro e w' ⟨rfl, rfl⟩) | (with_reducible refine (HI4.out _).mono ?_; rintro e w' ⟨rfl, rfl⟩) | (with_reducible refine (HI5.out _).mono ?_; rintro e w' ⟨rfl, rfl⟩))
                    rw [rounds_succ]
                    go_wp2_with (go_at_call 42; first | (with_reducible refine (HI0.out _).mono ?_; rintro e w' ⟨rfl, rfl⟩) | (with_reducible refine (HI1.out _).mono ?_; rintro e w' ⟨rfl, rfl⟩) | (with_reducible refine (HI2.out _).mono ?_; rintro e w' ⟨rfl, rfl⟩) | (with_reducible refine (HI3.out _).mono ?_; rintro e w' ⟨rfl, rfl⟩) | (with_reducible refine (HI4.out _).mono ?_; rintro e w' ⟨rfl, rfl⟩) | (with_reducible refine (HI5.out _).mono ?_; rintro e w' ⟨rfl, rfl⟩))
                    rw [rounds_succ]
                    go_wp2_with (go_at_call 42; first | (with_reducible refine (HI0.out _).mono ?_; rintro e w' ⟨rfl, rfl⟩) | (with_reducible refine (HI1.out _).mono ?_; rintro e w' ⟨rfl, rfl⟩) | (with_reducible refine (HI2.out _).mono ?_; rintro e w' ⟨rfl, rfl⟩) | (with_reducible refine (HI3.out _).mono ?_; rintro e w' ⟨rfl, rfl⟩) | (with_reducible refine (HI4.out _).mono ?_; rintro e w' ⟨rfl, rfl⟩) | (with_reducible refine (HI5.out _).mono ?_; rintro e w' ⟨rfl, rfl⟩))
                    go_ret
                    refine ⟨?_, HBA.out⟩
                    have hno := all_no wtOk l k hlt (by rw [← HMM.out, HOK.out]; simp)
                    rw [HM.out, hno]
                    rfl
                  · skip
                    go_wp2_with (go_at_call 42; first | (with_reducible refine (HI0.out _).mono ?_; rintro e w' ⟨rfl, rfl⟩) | (with_reducible refine (HI1.out _).mono ?_; rintro e w' ⟨rfl, rfl⟩) | (with_reducible refine (HI2.out _).mono ?_; rintro e w' ⟨rfl, rfl⟩) | (with_reducible refine (HI3.out _).mono ?_; rintro e w' ⟨rfl, rfl⟩) | (with_reducible refine (HI4.out _).mono ?_; rintro e w' ⟨rfl, rfl⟩) | (with_reducible refine (HI5.out _).mono ?_; rintro e w' ⟨rfl, rfl⟩))
                    refine wp_loop_rounds 4 ?_
                    rw [rounds_succ]
                    go_wp2_with (go_at_call 42; first | (with_reducible refine (HI0.out _).mono ?_; rintro e w' ⟨rfl, rfl⟩) | (with_reducible refine (HI1.out _).mono ?_; rintro e w' ⟨rfl, rfl⟩) | (with_reducible refine (HI2.out _).mono ?_; rintro e w' ⟨rfl, rfl⟩) | (with_reducible refine (HI3.out _).mono ?_; rintro e w' ⟨rfl, rfl⟩) | (with_reducible refine (HI4.out _).mono ?_; rintro e w' ⟨rfl, rfl⟩) | (with_reducible refine (HI5.out _).mono ?_; rintro e w' ⟨rfl, rfl⟩))
                    rw [rounds_succ]
                    go_wp2_with (go_at_call 42; first | (with_reducible refine (HI0.out _).mono ?_; rintro e w' ⟨rfl, rfl⟩) | (with_reducible refine (HI1.out _).mono ?_; rintro e w' ⟨rfl, rfl⟩) | (with_reducible refine (HI2.out _).mono ?_; rintro e w' ⟨rfl, rfl⟩) | (with_reducible refine (HI3.out _).mono ?_; rintro e w' ⟨rfl, rfl⟩) | (with_reducible refine (HI4.out _).mono ?_; rintro e w' ⟨rfl, rfl⟩) | (with_reducible refine (HI5.out _).mono ?_; rintro e w' ⟨rfl, rfl⟩))
                    rw [rounds_succ]
                    go_wp2_with (go_at_call 42; first | (with_reducible refine (HI0.out _).mono ?_; rintro e w' ⟨rfl, rfl⟩) | (with_reducible refine (HI1.out _).mono ?_; rintro e w' ⟨rfl, rfl⟩) | (with_reducible refine (HI2.out _).mono ?_; rintro e w' ⟨rfl, rfl⟩) | (with_reducible refine (HI3.out _).mono ?_; rintro e w' ⟨rfl, rfl⟩) | (with_reducible refine (HI4.out _).mono ?_; rintro e w' ⟨rfl, rfl⟩) | (with_reducible refine (HI5.out _).mono ?_; rintro e w' ⟨rfl, rfl⟩))
                    rw [rounds_succ]
                    go_wp2_with (go_at_call 42; first | (with_reducible refine (HI0.out _).mono ?_; rintro e w' ⟨rfl, rfl⟩) | (with_reducible refine (HI1.out _).mono ?_; rintro e w' ⟨rfl, rfl⟩) | (with_reducible refine (HI2.out _).mono ?_; rintro e w' ⟨rfl, rfl⟩) | (with_reducible refine (HI3.out _).mono ?_; rintro e w' ⟨rfl, rfl⟩) | (with_reducible refine (HI4.out _).mono ?_; rintro e w' ⟨rfl, rfl⟩) | (with_reducible refine (HI5.out _).mono ?_; rintro e w' ⟨rfl, rfl⟩))
                    go_roundw
                    case rel =>
                      have hyes := all_take wtOk l k hlt HA.out (by rw [← HMM.out, HOK.out]; simp)
                      exact ⟨k + 1, by omega, by go_num, hyes, HBA.out⟩
                    case measure => simp [intOf]; omega
      · obtain rfl : k = l.length := by omega
        have hnl : ¬ (l.length : Int) < (l.length : Int) := by omega
        go_wp2_with fail
        go_ret
        refine ⟨?_, HB.out⟩
        rw [HM.out]
        have := HA.out
        rw [List.take_length] at this
        rw [this]
        rfl
  · have h16' : ((l.length : Int) != many) = true := by simp; exact h16
    have hM : mayWts l many = false := by
      unfold mayWts
      rw [decide_eq_false h16]
      rfl
    rw [hM]
    clear hM hl h16
    go_enter Tryz.func87, Tryz.ntmps87
    go_wp2_with fail
    go_ret
    exact ⟨rfl, Below.refl _ _⟩
end Go.Proofs.YtjokibagciehlaaGreat
