/- mayOps. Printed by gen-hed.py. -/
import Derived.Test.YtjokibagciehlaaGreatHedB
namespace Go.Proofs.YtjokibagciehlaaGreat
open Go.RowKit
set_option linter.unusedVariables false
set_option linter.unusedSimpArgs false

set_option maxRecDepth 100000 in
set_option maxHeartbeats 6400000 in
theorem maymos_any (l : List Mo) (A : Option Addr) (c : Nat) (w : World) (hl : RwAt w w.heap.size A 3 moF l) (hn : l.length ≤ 1152921504606846976) :
    Calls Tryz.prog 44 #[.slice A l.length c] w fun e w' => e = .returned (.bool (mayMos l)) ∧ Below w.heap.size w w' := by
  by_cases h16 : l.length ≤ 16
  · have h16' : ¬ (16 : Int) < (l.length : Int) := by omega
    have hM : mayMos l = l.all moOk := by
      unfold mayMos
      rw [decide_eq_true h16, Bool.true_and]
    have HM := Lib.hid hM
    have HL := Lib.hid hl
    clear hM hl
    go_enter Tryz.func44, Tryz.ntmps44
    go_wp2_with fail
    go_loopw [12] (fun i wr => ∃ k : Nat, k ≤ l.length ∧ i = .int .i64 k ∧ (l.take k).all moOk = true ∧ Below w.heap.size w wr) (fun i _ => l.length - (intOf i).toNat)
    case atStart => exact ⟨0, Nat.zero_le _, rfl, by simp, Below.refl _ _⟩
    case round =>
      obtain ⟨k, hk, rfl, hall, hbl⟩ := hrel
      have HA := Lib.hid hall
      have HB := Lib.hid hbl
      clear hall hbl
      by_cases hlt : k < l.length
      · have hlt' : (k : Int) < (l.length : Int) := by omega
        have hk0 : (0 : Int) ≤ (k : Int) := Int.natCast_nonneg _
        obtain ⟨ad, rfl, hab, hc⟩ := (HL.out.below HB.out (Nat.le_refl _)) (by omega)
        obtain ⟨hc0, hcj⟩ := hc k hlt
        have hc1 := hcj 1 (by omega) (by omega)
        have hc2 := hcj 2 (by omega) (by omega)
        obtain ⟨⟨mk, ma, mb⟩, hm⟩ : ∃ m, m = l[k] := ⟨_, rfl⟩
        rw [← hm] at hc0 hc1 hc2
        have d0 : wr.cell? (ad.add (k * 3)) = some (.int .i64 mk) := hc0
        have d1 : wr.cell? ⟨(ad.add (k * 3)).block, (ad.add (k * 3)).off + 1, none⟩ = some (.int .i64 ma) := hc1
        have d2 : wr.cell? ⟨(ad.add (k * 3)).block, (ad.add (k * 3)).off + 2, none⟩ = some (.int .i64 mb) := hc2
        clear hc0 hc1 hc2 hcj hc hab
        obtain ⟨b0, hb0⟩ : ∃ b, inR 1 6 mk = b := ⟨_, rfl⟩
        obtain ⟨b1, hb1⟩ : ∃ b, inR 0 255 ma = b := ⟨_, rfl⟩
        obtain ⟨b2, hb2⟩ : ∃ b, inR 0 255 mb = b := ⟨_, rfl⟩
        obtain ⟨x, hx⟩ : ∃ b, hasA mk = b := ⟨_, rfl⟩
        obtain ⟨y, hy⟩ : ∃ b, hasB mk = b := ⟨_, rfl⟩
        have HOK := Lib.hid (show moOk ⟨mk, ma, mb⟩ = (b0 && b1 && b2 && (x || ma == 0) && (y || mb == 0)) by unfold moOk; rw [hb0, hb1, hb2, hx, hy])
        have HI0 := Lib.hid (fun w => hb0 ▸ hin_any mk 1 6 w)
        have HI1 := Lib.hid (fun w => hb1 ▸ hin_any ma 0 255 w)
        have HI2 := Lib.hid (fun w => hb2 ▸ hin_any mb 0 255 w)
        have HH := Lib.hid (fun w => hx ▸ hy ▸ has_any2 mk w)
        have HMM := Lib.hid hm
        have HBA := Lib.hid (HB.out.alloc HB.out.size (.cells #[.int .i64 mk, .int .i64 ma, .int .i64 mb] 118))
        clear hm hb0 hb1 hb2 hx hy
        cases b0
        · skip
          go_wp2_with (first | (go_at_call 88; refine (HH.out _).mono ?_; rintro e w' ⟨rfl, rfl⟩) | (go_at_call 42; first | (with_reducible refine (HI0.out _).mono ?_; rintro e w' ⟨rfl, rfl⟩) | (with_reducible refine (HI1.out _).mono ?_; rintro e w' ⟨rfl, rfl⟩) | (with_reducible refine (HI2.out _).mono ?_; rintro e w' ⟨rfl, rfl⟩)))
          go_ret
          refine ⟨?_, HBA.out⟩
          have hno := all_no moOk l k hlt (by rw [← HMM.out, HOK.out]; simp [*])
          rw [HM.out, hno]
          rfl
        · skip
          cases b1
          · skip
            go_wp2_with (first | (go_at_call 88; refine (HH.out _).mono ?_; rintro e w' ⟨rfl, rfl⟩) | (go_at_call 42; first | (with_reducible refine (HI0.out _).mono ?_; rintro e w' ⟨rfl, rfl⟩) | (with_reducible refine (HI1.out _).mono ?_; rintro e w' ⟨rfl, rfl⟩) | (with_reducible refine (HI2.out _).mono ?_; rintro e w' ⟨rfl, rfl⟩)))
            go_ret
            refine ⟨?_, HBA.out⟩
            have hno := all_no moOk l k hlt (by rw [← HMM.out, HOK.out]; simp [*])
            rw [HM.out, hno]
            rfl
          · skip
            cases b2
            · skip
              go_wp2_with (first | (go_at_call 88; refine (HH.out _).mono ?_; rintro e w' ⟨rfl, rfl⟩) | (go_at_call 42; first | (with_reducible refine (HI0.out _).mono ?_; rintro e w' ⟨rfl, rfl⟩) | (with_reducible refine (HI1.out _).mono ?_; rintro e w' ⟨rfl, rfl⟩) | (with_reducible refine (HI2.out _).mono ?_; rintro e w' ⟨rfl, rfl⟩)))
              go_ret
              refine ⟨?_, HBA.out⟩
              have hno := all_no moOk l k hlt (by rw [← HMM.out, HOK.out]; simp [*])
              rw [HM.out, hno]
              rfl
            · skip
              cases x
              · by_cases hz1 : ma = 0
                · subst hz1
                  cases y
                  · by_cases hz2 : mb = 0
                    · subst hz2
                      go_wp2_with (first | (go_at_call 88; refine (HH.out _).mono ?_; rintro e w' ⟨rfl, rfl⟩) | (go_at_call 42; first | (with_reducible refine (HI0.out _).mono ?_; rintro e w' ⟨rfl, rfl⟩) | (with_reducible refine (HI1.out _).mono ?_; rintro e w' ⟨rfl, rfl⟩) | (with_reducible refine (HI2.out _).mono ?_; rintro e w' ⟨rfl, rfl⟩)))
                      go_roundw
                      case rel =>
                        have hyes := all_take moOk l k hlt HA.out (by rw [← HMM.out, HOK.out]; simp)
                        exact ⟨k + 1, by omega, by go_num, hyes, HBA.out⟩
                      case measure => simp [intOf]; omega
                    · have hz2' : (mb != 0) = true := by simp; exact hz2
                      go_wp2_with (first | (go_at_call 88; refine (HH.out _).mono ?_; rintro e w' ⟨rfl, rfl⟩) | (go_at_call 42; first | (with_reducible refine (HI0.out _).mono ?_; rintro e w' ⟨rfl, rfl⟩) | (with_reducible refine (HI1.out _).mono ?_; rintro e w' ⟨rfl, rfl⟩) | (with_reducible refine (HI2.out _).mono ?_; rintro e w' ⟨rfl, rfl⟩)))
                      go_ret
                      refine ⟨?_, HBA.out⟩
                      have hno := all_no moOk l k hlt (by rw [← HMM.out, HOK.out]; simp [*])
                      rw [HM.out, hno]
                      rfl
                  · skip
                    go_wp2_with (first | (go_at_call 88; refine (HH.out _).mono ?_; rintro e w' ⟨rfl, rfl⟩) | (go_at_call 42; first | (with_reducible refine (HI0.out _).mono ?_; rintro e w' ⟨rfl, rfl⟩) | (with_reducible refine (HI1.out _).mono ?_; rintro e w' ⟨rfl, rfl⟩) | (with_reducible refine (HI2.out _).mono ?_; rintro e w' ⟨rfl, rfl⟩)))
                    go_roundw
                    case rel =>
                      have hyes := all_take moOk l k hlt HA.out (by rw [← HMM.out, HOK.out]; simp)
                      exact ⟨k + 1, by omega, by go_num, hyes, HBA.out⟩
                    case measure => simp [intOf]; omega
                · have hz1' : (ma != 0) = true := by simp; exact hz1
                  go_wp2_with (first | (go_at_call 88; refine (HH.out _).mono ?_; rintro e w' ⟨rfl, rfl⟩) | (go_at_call 42; first | (with_reducible refine (HI0.out _).mono ?_; rintro e w' ⟨rfl, rfl⟩) | (with_reducible refine (HI1.out _).mono ?_; rintro e w' ⟨rfl, rfl⟩) | (with_reducible refine (HI2.out _).mono ?_; rintro e w' ⟨rfl, rfl⟩)))
                  go_ret
                  refine ⟨?_, HBA.out⟩
                  have hno := all_no moOk l k hlt (by rw [← HMM.out, HOK.out]; simp [*])
                  rw [HM.out, hno]
                  rfl
              · skip
                cases y
                · by_cases hz2 : mb = 0
                  · subst hz2
                    go_wp2_with (first | (go_at_call 88; refine (HH.out _).mono ?_; rintro e w' ⟨rfl, rfl⟩) | (go_at_call 42; first | (with_reducible refine (HI0.out _).mono ?_; rintro e w' ⟨rfl, rfl⟩) | (with_reducible refine (HI1.out _).mono ?_; rintro e w' ⟨rfl, rfl⟩) | (with_reducible refine (HI2.out _).mono ?_; rintro e w' ⟨rfl, rfl⟩)))
                    go_roundw
                    case rel =>
                      have hyes := all_take moOk l k hlt HA.out (by rw [← HMM.out, HOK.out]; simp)
                      exact ⟨k + 1, by omega, by go_num, hyes, HBA.out⟩
                    case measure => simp [intOf]; omega
                  · have hz2' : (mb != 0) = true := by simp; exact hz2
                    go_wp2_with (first | (go_at_call 88; refine (HH.out _).mono ?_; rintro e w' ⟨rfl, rfl⟩) | (go_at_call 42; first | (with_reducible refine (HI0.out _).mono ?_; rintro e w' ⟨rfl, rfl⟩) | (with_reducible refine (HI1.out _).mono ?_; rintro e w' ⟨rfl, rfl⟩) | (with_reducible refine (HI2.out _).mono ?_; rintro e w' ⟨rfl, rfl⟩)))
                    go_ret
                    refine ⟨?_, HBA.out⟩
                    have hno := all_no moOk l k hlt (by rw [← HMM.out, HOK.out]; simp [*])
                    rw [HM.out, hno]
                    rfl
                · skip
                  go_wp2_with (first | (go_at_call 88; refine (HH.out _).mono ?_; rintro e w' ⟨rfl, rfl⟩) | (go_at_call 42; first | (with_reducible refine (HI0.out _).mono ?_; rintro e w' ⟨rfl, rfl⟩) | (with_reducible refine (HI1.out _).mono ?_; rintro e w' ⟨rfl, rfl⟩) | (with_reducible refine (HI2.out _).mono ?_; rintro e w' ⟨rfl, rfl⟩)))
                  go_roundw
                  case rel =>
                    have hyes := all_take moOk l k hlt HA.out (by rw [← HMM.out, HOK.out]; simp)
                    exact ⟨k + 1, by omega, by go_num, hyes, HBA.out⟩
                  case measure => simp [intOf]; omega
      · obtain rfl : k = l.length := by omega
        have hnl : ¬ (l.length : Int) < (l.length : Int) := by omega
        go_wp2_with fail
        go_ret
        refine ⟨?_, HB.out⟩
        rw [HM.out]
        have := HA.out
        rw [List.take_length] at this
        rw [this]
        rfl
  · have h16' : (16 : Int) < (l.length : Int) := by omega
    have hM : mayMos l = false := by
      unfold mayMos
      rw [decide_eq_false h16]
      rfl
    rw [hM]
    clear hM hl h16
    go_enter Tryz.func44, Tryz.ntmps44
    go_wp2_with fail
    go_ret
    exact ⟨rfl, Below.refl _ _⟩
end Go.Proofs.YtjokibagciehlaaGreat
