/- The document's small functions of a header: in, active, mods, weights, Weighted, hasA, hasB, ops. Printed by gen-doda.py. -/
import Derived.Test.YtjokibagciehlaaGreatHedB
namespace Go.Proofs.YtjokibagciehlaaGreat
open Go.RowKit
set_option linter.unusedVariables false
set_option linter.unusedSimpArgs false

theorem in2R_any (x l h : Int) (w : World) : Calls Tryz.prog 47 #[.int .i64 x, .int .i64 l, .int .i64 h] w fun e w' => e = .returned (.bool (inR l h x)) ∧ w = w' := by
  by_cases h1 : l ≤ x
  · by_cases h2 : x ≤ h
    · rw [inR_yes ⟨h1, h2⟩]
      go_enter Tryz.func47, Tryz.ntmps47
      go_wp2_with fail
      go_ret
      exact ⟨rfl, rfl⟩
    · rw [inR_no (fun q => h2 q.2)]
      go_enter Tryz.func47, Tryz.ntmps47
      go_wp2_with fail
      go_ret
      exact ⟨rfl, rfl⟩
  · rw [inR_no (fun q => h1 q.1)]
    go_enter Tryz.func47, Tryz.ntmps47
    go_wp2_with fail
    go_ret
    exact ⟨rfl, rfl⟩
set_option maxRecDepth 100000 in
theorem act2_any (x : Int) (is : Bool) (w : World) : Calls Tryz.prog 48 #[.int .i64 x, .bool is] w fun e w' => e = .returned (.bool (actB x is)) ∧ w = w' := by
  obtain ⟨b, hb⟩ : ∃ b, inR 1 8 x = b := ⟨_, rfl⟩
  obtain ⟨z, hz⟩ : ∃ b, (x == 0) = b := ⟨_, rfl⟩
  have HF := Lib.hid (show actB x is = (is && b || !is && z) by unfold actB; rw [hb, hz])
  have HI := Lib.hid (fun w => hb ▸ in2R_any x 1 8 w)
  clear hb
  cases is
  · cases z
    all_goals
      go_enter Tryz.func48, Tryz.ntmps48
      go_wp2_with (go_at_call 47; refine (HI.out _).mono ?_; rintro e w' ⟨rfl, rfl⟩)
      go_ret
      refine ⟨?_, rfl⟩
      rw [HF.out]
      cases b <;> rfl
  · have hz := hz
    cases b
    · cases z
      all_goals
        go_enter Tryz.func48, Tryz.ntmps48
        go_wp2_with (go_at_call 47; refine (HI.out _).mono ?_; rintro e w' ⟨rfl, rfl⟩)
        go_ret
        exact ⟨by rw [HF.out]; rfl, rfl⟩
    · go_enter Tryz.func48, Tryz.ntmps48
      go_wp2_with (go_at_call 47; refine (HI.out _).mono ?_; rintro e w' ⟨rfl, rfl⟩)
      go_ret
      exact ⟨by rw [HF.out]; rfl, rfl⟩
set_option maxRecDepth 100000 in
theorem wgt2_any (t : Int) (p : Pp) (w : World) : Calls Tryz.prog 36 #[.int .i64 t, .agg (ppV p)] w fun e w' => e = .returned (.bool (wgt t p)) ∧ Below w.heap.size w w' := by
  obtain ⟨p0, p1, p2, p3, p4, p5, p6, p7, p8⟩ := p
  have HB := Lib.hid ((Below.refl w.heap.size w).alloc (Nat.le_refl _) (.cells (ppV ⟨p0, p1, p2, p3, p4, p5, p6, p7, p8⟩) 31))
  obtain ⟨b0, h0⟩ : ∃ b, (t == 0) = b := ⟨_, rfl⟩
  obtain ⟨b1, h1⟩ : ∃ b, (t == 1) = b := ⟨_, rfl⟩
  obtain ⟨b2, h2⟩ : ∃ b, (p2 == 1) = b := ⟨_, rfl⟩
  have hW : wgt t ⟨p0, p1, p2, p3, p4, p5, p6, p7, p8⟩ = (b0 && p1 || b1 && b2) := by unfold wgt; rw [h0, h1, h2]
  rw [hW]
  clear hW
  simp only [ppV] at *
  cases b0 <;> cases p1 <;> cases b1 <;> cases b2
  all_goals
    go_enter Tryz.func36, Tryz.ntmps36
    go_wp2_with fail
    go_ret
    exact ⟨rfl, HB.out⟩
/-- what the document says of an operation's first operand -/
def hasA2 (k : Int) : Bool := k != 5
theorem hasA2_any (k : Int) (w : World) : Calls Tryz.prog 78 #[.int .i64 k] w fun e w' => e = .returned (.bool (hasA2 k)) ∧ w = w' := by
  go_enter Tryz.func78, Tryz.ntmps78
  go_wp2_with fail
  go_ret
  exact ⟨rfl, rfl⟩
theorem hasB2_any (k : Int) (w : World) : Calls Tryz.prog 79 #[.int .i64 k] w fun e w' => e = .returned (.bool (hasB k)) ∧ w = w' := by
  go_enter Tryz.func79, Tryz.ntmps79
  go_wp2_with fail
  go_ret
  exact ⟨rfl, rfl⟩
theorem hasA2_of {k : Int} (h : 1 ≤ k ∧ k ≤ 6) : hasA2 k = hasA k := by
  have : k = 1 ∨ k = 2 ∨ k = 3 ∨ k = 4 ∨ k = 5 ∨ k = 6 := by omega
  rcases this with rfl | rfl | rfl | rfl | rfl | rfl <;> decide
/-- the document's rule of an operation is the program's -/
theorem moOk2 (m : Mo) : (inR 1 6 m.k && inR 0 255 m.a && inR 0 255 m.b && (hasA2 m.k || m.a == 0) && (hasB m.k || m.b == 0)) = moOk m := by
  unfold moOk
  cases h : inR 1 6 m.k
  · rfl
  · rw [hasA2_of (inR_iff.1 h)]

set_option maxRecDepth 100000 in
set_option maxHeartbeats 3200000 in
theorem mds2_any (l : List Md) (is : Bool) (A : Option Addr) (c : Nat) (w : World) (hl : RwAt w w.heap.size A 2 mdF l) (hn : l.length ≤ 1152921504606846976) :
    Calls Tryz.prog 49 #[.slice A l.length c, .bool is] w fun e w' => e = .returned (.bool (mayMds l is)) ∧ w = w' := by
  have HL := Lib.hid hl
  clear hl
  go_enter Tryz.func49, Tryz.ntmps49
  go_wp2_with fail
  go_loop [5] (fun i => ∃ k : Nat, k ≤ l.length ∧ i = .int .i64 k ∧ (l.take k).all mdOk = true) (fun i => l.length - (intOf i).toNat)
  case atStart => exact ⟨0, Nat.zero_le _, rfl, by simp⟩
  case round =>
    obtain ⟨k, hk, rfl, hall⟩ := hrel
    have HA := Lib.hid hall
    clear hall
    by_cases hlt : k < l.length
    · have hlt' : (k : Int) < (l.length : Int) := by omega
      have hk0 : (0 : Int) ≤ (k : Int) := Int.natCast_nonneg _
      obtain ⟨ad, rfl, hab, hc⟩ := HL.out (by omega)
      obtain ⟨hc0, hcj⟩ := hc k hlt
      have hc1 := hcj 1 (by omega) (by omega)
      obtain ⟨⟨mk, mv⟩, hm⟩ : ∃ m, m = l[k] := ⟨_, rfl⟩
      rw [← hm] at hc0 hc1
      have d0 : w.cell? (ad.add (k * 2)) = some (.int .i64 mk) := hc0
      have d1 : w.cell? ⟨(ad.add (k * 2)).block, (ad.add (k * 2)).off + 1, none⟩ = some (.int .i64 mv) := hc1
      have HMM := Lib.hid hm
      obtain ⟨b0, hb0⟩ : ∃ b, inR 0 2 mk = b := ⟨_, rfl⟩
      obtain ⟨b1, hb1⟩ : ∃ b, inR 0 255 mv = b := ⟨_, rfl⟩
      have HOK := Lib.hid (show mdOk ⟨mk, mv⟩ = (b0 && b1) by unfold mdOk; rw [hb0, hb1])
      have HI0 := Lib.hid (fun w => hb0 ▸ in2R_any mk 0 2 w)
      have HI1 := Lib.hid (fun w => hb1 ▸ in2R_any mv 0 255 w)
      clear hc0 hc1 hcj hc hm hb0 hb1 hab
      cases b0
      · skip
        go_wp2_with (go_at_call 47; first | (with_reducible refine (HI0.out _).mono ?_; rintro e w' ⟨rfl, rfl⟩) | (with_reducible refine (HI1.out _).mono ?_; rintro e w' ⟨rfl, rfl⟩))
        go_ret
        refine ⟨?_, rfl⟩
        have hno := all_no mdOk l k hlt (by rw [← HMM.out, HOK.out]; simp)
        unfold mayMds
        rw [hno]
        simp
      · cases b1
        · skip
          go_wp2_with (go_at_call 47; first | (with_reducible refine (HI0.out _).mono ?_; rintro e w' ⟨rfl, rfl⟩) | (with_reducible refine (HI1.out _).mono ?_; rintro e w' ⟨rfl, rfl⟩))
          go_ret
          refine ⟨?_, rfl⟩
          have hno := all_no mdOk l k hlt (by rw [← HMM.out, HOK.out]; simp)
          unfold mayMds
          rw [hno]
          simp
        · skip
          go_wp2_with (go_at_call 47; first | (with_reducible refine (HI0.out _).mono ?_; rintro e w' ⟨rfl, rfl⟩) | (with_reducible refine (HI1.out _).mono ?_; rintro e w' ⟨rfl, rfl⟩))
          go_round
          case rel =>
            have hyes := all_take mdOk l k hlt HA.out (by rw [← HMM.out, HOK.out]; rfl)
            exact ⟨k + 1, by omega, by go_num, hyes⟩
          case measure => simp [intOf]; omega
    · obtain rfl : k = l.length := by omega
      have hnl : ¬ (l.length : Int) < (l.length : Int) := by omega
      have hall : l.all mdOk = true := by have := HA.out; rwa [List.take_length] at this
      have HAL := Lib.hid hall
      clear hall
      by_cases h16 : l.length ≤ 16
      · have h16' : (l.length : Int) ≤ 16 := by omega
        cases is
        · by_cases h0 : l.length = 0
          · have h0' : ((l.length : Int) == 0) = true := beq_iff_eq.2 (by omega)
            have H0 := Lib.hid h0
            clear h0
            go_wp2_with fail
            go_ret
            refine ⟨?_, rfl⟩
            unfold mayMds
            rw [HAL.out, decide_eq_true h16, decide_eq_true H0.out]
            rfl
          · have h0' : ((l.length : Int) == 0) = false := beq_eq_false_iff_ne.2 (by omega)
            have H0 := Lib.hid h0
            clear h0
            go_wp2_with fail
            go_ret
            refine ⟨?_, rfl⟩
            unfold mayMds
            rw [decide_eq_false H0.out]
            simp
        · go_wp2_with fail
          go_ret
          refine ⟨?_, rfl⟩
          unfold mayMds
          rw [HAL.out, decide_eq_true h16]
          rfl
      · have h16' : ¬ (l.length : Int) ≤ 16 := by omega
        go_wp2_with fail
        go_ret
        refine ⟨?_, rfl⟩
        unfold mayMds
        rw [decide_eq_false h16]
        rfl
set_option maxRecDepth 100000 in
set_option maxHeartbeats 6400000 in
theorem mos2_any (l : List Mo) (A : Option Addr) (c : Nat) (w : World) (hl : RwAt w w.heap.size A 3 moF l) (hn : l.length ≤ 1152921504606846976) :
    Calls Tryz.prog 51 #[.slice A l.length c] w fun e w' => e = .returned (.bool (mayMos l)) ∧ Below w.heap.size w w' := by
  have HL := Lib.hid hl
  clear hl
  go_enter Tryz.func51, Tryz.ntmps51
  go_wp2_with fail
  go_loopw [3] (fun i wr => ∃ k : Nat, k ≤ l.length ∧ i = .int .i64 k ∧ (l.take k).all moOk = true ∧ Below w.heap.size w wr) (fun i _ => l.length - (intOf i).toNat)
  case atStart => exact ⟨0, Nat.zero_le _, rfl, by simp, Below.refl _ _⟩
  case round =>
    obtain ⟨k, hk, rfl, hall, hbl⟩ := hrel
    have HA := Lib.hid hall
    have HB := Lib.hid hbl
    clear hall hbl
    by_cases hlt : k < l.length
    · have hlt' : (k : Int) < (l.length : Int) := by omega
      have hk0 : (0 : Int) ≤ (k : Int) := Int.natCast_nonneg _
      obtain ⟨ad, rfl, hab, hc⟩ := (HL.out.below HB.out (Nat.le_refl _)) (by omega)
      obtain ⟨hc0, hcj⟩ := hc k hlt
      have hc1 := hcj 1 (by omega) (by omega)
      have hc2 := hcj 2 (by omega) (by omega)
      obtain ⟨⟨mk, ma, mb⟩, hm⟩ : ∃ m, m = l[k] := ⟨_, rfl⟩
      rw [← hm] at hc0 hc1 hc2
      have d0 : wr.cell? (ad.add (k * 3)) = some (.int .i64 mk) := hc0
      have d1 : wr.cell? ⟨(ad.add (k * 3)).block, (ad.add (k * 3)).off + 1, none⟩ = some (.int .i64 ma) := hc1
      have d2 : wr.cell? ⟨(ad.add (k * 3)).block, (ad.add (k * 3)).off + 2, none⟩ = some (.int .i64 mb) := hc2
      clear hc0 hc1 hc2 hcj hc hab
      obtain ⟨b0, hb0⟩ : ∃ b, inR 1 6 mk = b := ⟨_, rfl⟩
      obtain ⟨b1, hb1⟩ : ∃ b, inR 0 255 ma = b := ⟨_, rfl⟩
      obtain ⟨b2, hb2⟩ : ∃ b, inR 0 255 mb = b := ⟨_, rfl⟩
      obtain ⟨x, hx⟩ : ∃ b, hasA2 mk = b := ⟨_, rfl⟩
      obtain ⟨y, hy⟩ : ∃ b, hasB mk = b := ⟨_, rfl⟩
      obtain ⟨za, hza⟩ : ∃ b, (ma != 0) = b := ⟨_, rfl⟩
      obtain ⟨zb, hzb⟩ : ∃ b, (mb != 0) = b := ⟨_, rfl⟩
      have HOK := Lib.hid (show moOk ⟨mk, ma, mb⟩ = (b0 && b1 && b2 && (x || !za) && (y || !zb)) by rw [← moOk2]; simp only [hb0, hb1, hb2, hx, hy, ← hza, ← hzb, bne, Bool.not_not])
      have HI0 := Lib.hid (fun w => hb0 ▸ in2R_any mk 1 6 w)
      have HI1 := Lib.hid (fun w => hb1 ▸ in2R_any ma 0 255 w)
      have HI2 := Lib.hid (fun w => hb2 ▸ in2R_any mb 0 255 w)
      have HH := Lib.hid (fun w => hx ▸ hasA2_any mk w)
      have HG := Lib.hid (fun w => hy ▸ hasB2_any mk w)
      have HMM := Lib.hid hm
      have HBA := Lib.hid (HB.out.alloc HB.out.size (.cells #[.int .i64 mk, .int .i64 ma, .int .i64 mb] 118))
      clear hm hb0 hb1 hb2 hx hy
      cases b0
      · skip
        go_wp2_with (first | (go_at_call 78; refine (HH.out _).mono ?_; rintro e w' ⟨rfl, rfl⟩) | (go_at_call 79; refine (HG.out _).mono ?_; rintro e w' ⟨rfl, rfl⟩) | (go_at_call 47; first | (with_reducible refine (HI0.out _).mono ?_; rintro e w' ⟨rfl, rfl⟩) | (with_reducible refine (HI1.out _).mono ?_; rintro e w' ⟨rfl, rfl⟩) | (with_reducible refine (HI2.out _).mono ?_; rintro e w' ⟨rfl, rfl⟩)))
        go_ret
        refine ⟨?_, HBA.out⟩
        have hno := all_no moOk l k hlt (by rw [← HMM.out, HOK.out]; simp)
        unfold mayMos
        rw [hno]
        simp
      · skip
        cases b1
        · skip
          go_wp2_with (first | (go_at_call 78; refine (HH.out _).mono ?_; rintro e w' ⟨rfl, rfl⟩) | (go_at_call 79; refine (HG.out _).mono ?_; rintro e w' ⟨rfl, rfl⟩) | (go_at_call 47; first | (with_reducible refine (HI0.out _).mono ?_; rintro e w' ⟨rfl, rfl⟩) | (with_reducible refine (HI1.out _).mono ?_; rintro e w' ⟨rfl, rfl⟩) | (with_reducible refine (HI2.out _).mono ?_; rintro e w' ⟨rfl, rfl⟩)))
          go_ret
          refine ⟨?_, HBA.out⟩
          have hno := all_no moOk l k hlt (by rw [← HMM.out, HOK.out]; simp)
          unfold mayMos
          rw [hno]
          simp
        · skip
          cases b2
          · skip
            go_wp2_with (first | (go_at_call 78; refine (HH.out _).mono ?_; rintro e w' ⟨rfl, rfl⟩) | (go_at_call 79; refine (HG.out _).mono ?_; rintro e w' ⟨rfl, rfl⟩) | (go_at_call 47; first | (with_reducible refine (HI0.out _).mono ?_; rintro e w' ⟨rfl, rfl⟩) | (with_reducible refine (HI1.out _).mono ?_; rintro e w' ⟨rfl, rfl⟩) | (with_reducible refine (HI2.out _).mono ?_; rintro e w' ⟨rfl, rfl⟩)))
            go_ret
            refine ⟨?_, HBA.out⟩
            have hno := all_no moOk l k hlt (by rw [← HMM.out, HOK.out]; simp)
            unfold mayMos
            rw [hno]
            simp
          · skip
            rcases (by cases x <;> cases za <;> simp : (x = false ∧ za = true) ∨ (x = false ∧ za = false) ∨ x = true) with ⟨rfl, rfl⟩ | ⟨rfl, rfl⟩ | rfl
            · skip
              go_wp2_with (first | (go_at_call 78; refine (HH.out _).mono ?_; rintro e w' ⟨rfl, rfl⟩) | (go_at_call 79; refine (HG.out _).mono ?_; rintro e w' ⟨rfl, rfl⟩) | (go_at_call 47; first | (with_reducible refine (HI0.out _).mono ?_; rintro e w' ⟨rfl, rfl⟩) | (with_reducible refine (HI1.out _).mono ?_; rintro e w' ⟨rfl, rfl⟩) | (with_reducible refine (HI2.out _).mono ?_; rintro e w' ⟨rfl, rfl⟩)))
              go_ret
              refine ⟨?_, HBA.out⟩
              have hno := all_no moOk l k hlt (by rw [← HMM.out, HOK.out]; simp)
              unfold mayMos
              rw [hno]
              simp
            · rcases (by cases y <;> cases zb <;> simp : (y = false ∧ zb = true) ∨ (y = false ∧ zb = false) ∨ y = true) with ⟨rfl, rfl⟩ | ⟨rfl, rfl⟩ | rfl
              · skip
                go_wp2_with (first | (go_at_call 78; refine (HH.out _).mono ?_; rintro e w' ⟨rfl, rfl⟩) | (go_at_call 79; refine (HG.out _).mono ?_; rintro e w' ⟨rfl, rfl⟩) | (go_at_call 47; first | (with_reducible refine (HI0.out _).mono ?_; rintro e w' ⟨rfl, rfl⟩) | (with_reducible refine (HI1.out _).mono ?_; rintro e w' ⟨rfl, rfl⟩) | (with_reducible refine (HI2.out _).mono ?_; rintro e w' ⟨rfl, rfl⟩)))
                go_ret
                refine ⟨?_, HBA.out⟩
                have hno := all_no moOk l k hlt (by rw [← HMM.out, HOK.out]; simp)
                unfold mayMos
                rw [hno]
                simp
              · skip
                go_wp2_with (first | (go_at_call 78; refine (HH.out _).mono ?_; rintro e w' ⟨rfl, rfl⟩) | (go_at_call 79; refine (HG.out _).mono ?_; rintro e w' ⟨rfl, rfl⟩) | (go_at_call 47; first | (with_reducible refine (HI0.out _).mono ?_; rintro e w' ⟨rfl, rfl⟩) | (with_reducible refine (HI1.out _).mono ?_; rintro e w' ⟨rfl, rfl⟩) | (with_reducible refine (HI2.out _).mono ?_; rintro e w' ⟨rfl, rfl⟩)))
                go_roundw
                case rel =>
                  have hyes := all_take moOk l k hlt HA.out (by rw [← HMM.out, HOK.out]; simp)
                  exact ⟨k + 1, by omega, by go_num, hyes, HBA.out⟩
                case measure => simp [intOf]; omega
              · skip
                go_wp2_with (first | (go_at_call 78; refine (HH.out _).mono ?_; rintro e w' ⟨rfl, rfl⟩) | (go_at_call 79; refine (HG.out _).mono ?_; rintro e w' ⟨rfl, rfl⟩) | (go_at_call 47; first | (with_reducible refine (HI0.out _).mono ?_; rintro e w' ⟨rfl, rfl⟩) | (with_reducible refine (HI1.out _).mono ?_; rintro e w' ⟨rfl, rfl⟩) | (with_reducible refine (HI2.out _).mono ?_; rintro e w' ⟨rfl, rfl⟩)))
                go_roundw
                case rel =>
                  have hyes := all_take moOk l k hlt HA.out (by rw [← HMM.out, HOK.out]; simp)
                  exact ⟨k + 1, by omega, by go_num, hyes, HBA.out⟩
                case measure => simp [intOf]; omega
            · rcases (by cases y <;> cases zb <;> simp : (y = false ∧ zb = true) ∨ (y = false ∧ zb = false) ∨ y = true) with ⟨rfl, rfl⟩ | ⟨rfl, rfl⟩ | rfl
              · skip
                go_wp2_with (first | (go_at_call 78; refine (HH.out _).mono ?_; rintro e w' ⟨rfl, rfl⟩) | (go_at_call 79; refine (HG.out _).mono ?_; rintro e w' ⟨rfl, rfl⟩) | (go_at_call 47; first | (with_reducible refine (HI0.out _).mono ?_; rintro e w' ⟨rfl, rfl⟩) | (with_reducible refine (HI1.out _).mono ?_; rintro e w' ⟨rfl, rfl⟩) | (with_reducible refine (HI2.out _).mono ?_; rintro e w' ⟨rfl, rfl⟩)))
                go_ret
                refine ⟨?_, HBA.out⟩
                have hno := all_no moOk l k hlt (by rw [← HMM.out, HOK.out]; simp)
                unfold mayMos
                rw [hno]
                simp
              · skip
                go_wp2_with (first | (go_at_call 78; refine (HH.out _).mono ?_; rintro e w' ⟨rfl, rfl⟩) | (go_at_call 79; refine (HG.out _).mono ?_; rintro e w' ⟨rfl, rfl⟩) | (go_at_call 47; first | (with_reducible refine (HI0.out _).mono ?_; rintro e w' ⟨rfl, rfl⟩) | (with_reducible refine (HI1.out _).mono ?_; rintro e w' ⟨rfl, rfl⟩) | (with_reducible refine (HI2.out _).mono ?_; rintro e w' ⟨rfl, rfl⟩)))
                go_roundw
                case rel =>
                  have hyes := all_take moOk l k hlt HA.out (by rw [← HMM.out, HOK.out]; simp)
                  exact ⟨k + 1, by omega, by go_num, hyes, HBA.out⟩
                case measure => simp [intOf]; omega
              · skip
                go_wp2_with (first | (go_at_call 78; refine (HH.out _).mono ?_; rintro e w' ⟨rfl, rfl⟩) | (go_at_call 79; refine (HG.out _).mono ?_; rintro e w' ⟨rfl, rfl⟩) | (go_at_call 47; first | (with_reducible refine (HI0.out _).mono ?_; rintro e w' ⟨rfl, rfl⟩) | (with_reducible refine (HI1.out _).mono ?_; rintro e w' ⟨rfl, rfl⟩) | (with_reducible refine (HI2.out _).mono ?_; rintro e w' ⟨rfl, rfl⟩)))
                go_roundw
                case rel =>
                  have hyes := all_take moOk l k hlt HA.out (by rw [← HMM.out, HOK.out]; simp)
                  exact ⟨k + 1, by omega, by go_num, hyes, HBA.out⟩
                case measure => simp [intOf]; omega
    · obtain rfl : k = l.length := by omega
      have hnl : ¬ (l.length : Int) < (l.length : Int) := by omega
      have hall : l.all moOk = true := by have := HA.out; rwa [List.take_length] at this
      have HAL := Lib.hid hall
      clear hall
      go_wp2_with fail
      go_ret
      refine ⟨?_, HB.out⟩
      unfold mayMos
      rw [HAL.out, Bool.and_true]
      congr 2
      simp; omega
set_option maxRecDepth 100000 in
set_option maxHeartbeats 12800000 in
theorem wts2_any (l : List Wt) (many : Int) (A : Option Addr) (c : Nat) (w : World) (hl : RwAt w w.heap.size A 6 wtF l) (hn : l.length ≤ 1152921504606846976) :
    Calls Tryz.prog 50 #[.slice A l.length c, .int .i64 many] w fun e w' => e = .returned (.bool (mayWts l many)) ∧ w = w' := by
  have HL := Lib.hid hl
  clear hl
  go_enter Tryz.func50, Tryz.ntmps50
  go_wp2_with fail
  go_loop [5, 6] (fun i _ => ∃ k : Nat, k ≤ l.length ∧ i = .int .i64 k ∧ (l.take k).all wtOk = true) (fun i _ => l.length - (intOf i).toNat)
  case atStart => exact ⟨0, Nat.zero_le _, rfl, by simp⟩
  case round =>
    obtain ⟨k, hk, rfl, hall⟩ := hrel
    have HA := Lib.hid hall
    clear hall
    by_cases hlt : k < l.length
    · have hlt' : (k : Int) < (l.length : Int) := by omega
      have hk0 : (0 : Int) ≤ (k : Int) := Int.natCast_nonneg _
      obtain ⟨ad, rfl, hab, hc⟩ := HL.out (by omega)
      obtain ⟨hc0, hcj⟩ := hc k hlt
      have hc1 := hcj 1 (by omega) (by omega)
      have hc2 := hcj 2 (by omega) (by omega)
      have hc3 := hcj 3 (by omega) (by omega)
      have hc4 := hcj 4 (by omega) (by omega)
      have hc5 := hcj 5 (by omega) (by omega)
      obtain ⟨⟨x0, x1, x2, y0, y1, y2⟩, hm⟩ : ∃ m, m = l[k] := ⟨_, rfl⟩
      rw [← hm] at hc0 hc1 hc2 hc3 hc4 hc5
      have d0 : w.cell? (ad.add (k * 6)) = some (.int .i64 x0) := hc0
      have d1 : w.cell? ⟨(ad.add (k * 6)).block, (ad.add (k * 6)).off + 1, none⟩ = some (.int .i64 x1) := hc1
      have d2 : w.cell? ⟨(ad.add (k * 6)).block, (ad.add (k * 6)).off + 2, none⟩ = some (.int .i64 x2) := hc2
      have d3 : w.cell? ⟨(ad.add (k * 6)).block, (ad.add (k * 6)).off + 3, none⟩ = some (.int .i64 y0) := hc3
      have d4 : w.cell? ⟨(ad.add (k * 6)).block, (ad.add (k * 6)).off + 4, none⟩ = some (.int .i64 y1) := hc4
      have d5 : w.cell? ⟨(ad.add (k * 6)).block, (ad.add (k * 6)).off + 5, none⟩ = some (.int .i64 y2) := hc5
      have d4' : w.cell? ⟨(ad.add (k * 6)).block, (ad.add (k * 6)).off + 3 + 1, none⟩ = some (.int .i64 y1) := hc4
      have d5' : w.cell? ⟨(ad.add (k * 6)).block, (ad.add (k * 6)).off + 3 + 2, none⟩ = some (.int .i64 y2) := hc5
      have HMM := Lib.hid hm
      clear hc0 hc1 hc2 hc3 hc4 hc5 hcj hc hm hab
      obtain ⟨bx0, hx0⟩ : ∃ b, inR (-128) 127 x0 = b := ⟨_, rfl⟩
      have Hx0 := Lib.hid (fun w => hx0 ▸ in2R_any x0 (-128) 127 w)
      obtain ⟨bz0, hy0⟩ : ∃ b, inR (-128) 127 y0 = b := ⟨_, rfl⟩
      have Hy0 := Lib.hid (fun w => hy0 ▸ in2R_any y0 (-128) 127 w)
      obtain ⟨bx1, hx1⟩ : ∃ b, inR (-128) 127 x1 = b := ⟨_, rfl⟩
      have Hx1 := Lib.hid (fun w => hx1 ▸ in2R_any x1 (-128) 127 w)
      obtain ⟨bz1, hy1⟩ : ∃ b, inR (-128) 127 y1 = b := ⟨_, rfl⟩
      have Hy1 := Lib.hid (fun w => hy1 ▸ in2R_any y1 (-128) 127 w)
      obtain ⟨bx2, hx2⟩ : ∃ b, inR (-128) 127 x2 = b := ⟨_, rfl⟩
      have Hx2 := Lib.hid (fun w => hx2 ▸ in2R_any x2 (-128) 127 w)
      obtain ⟨bz2, hy2⟩ : ∃ b, inR (-128) 127 y2 = b := ⟨_, rfl⟩
      have Hy2 := Lib.hid (fun w => hy2 ▸ in2R_any y2 (-128) 127 w)
      have HOK := Lib.hid (show wtOk ⟨x0, x1, x2, y0, y1, y2⟩ = (bx0 && bz0 && (bx1 && bz1) && (bx2 && bz2)) by unfold wtOk; simp only [hx0, hx1, hx2, hy0, hy1, hy2])
      clear hx0 hy0 hx1 hy1 hx2 hy2
      cases bx0
      · skip
        go_wp2_with (go_at_call 47; first | (with_reducible refine (Hx0.out _).mono ?_; rintro e w' ⟨rfl, rfl⟩) | (with_reducible refine (Hy0.out _).mono ?_; rintro e w' ⟨rfl, rfl⟩) | (with_reducible refine (Hx1.out _).mono ?_; rintro e w' ⟨rfl, rfl⟩) | (with_reducible refine (Hy1.out _).mono ?_; rintro e w' ⟨rfl, rfl⟩) | (with_reducible refine (Hx2.out _).mono ?_; rintro e w' ⟨rfl, rfl⟩) | (with_reducible refine (Hy2.out _).mono ?_; rintro e w' ⟨rfl, rfl⟩))
        refine wp_loop_rounds 1 ?_
        iterate 1 (rw [rounds_succ]; go_wp2_with (go_at_call 47; first | (with_reducible refine (Hx0.out _).mono ?_; rintro e w' ⟨rfl, rfl⟩) | (with_reducible refine (Hy0.out _).mono ?_; rintro e w' ⟨rfl, rfl⟩) | (with_reducible refine (Hx1.out _).mono ?_; rintro e w' ⟨rfl, rfl⟩) | (with_reducible refine (Hy1.out _).mono ?_; rintro e w' ⟨rfl, rfl⟩) | (with_reducible refine (Hx2.out _).mono ?_; rintro e w' ⟨rfl, rfl⟩) | (with_reducible refine (Hy2.out _).mono ?_; rintro e w' ⟨rfl, rfl⟩)))
        go_ret
        refine ⟨?_, rfl⟩
        have hno := all_no wtOk l k hlt (by rw [← HMM.out, HOK.out]; simp)
        unfold mayWts
        rw [hno]
        simp
      · skip
        cases bz0
        · skip
          go_wp2_with (go_at_call 47; first | (with_reducible refine (Hx0.out _).mono ?_; rintro e w' ⟨rfl, rfl⟩) | (with_reducible refine (Hy0.out _).mono ?_; rintro e w' ⟨rfl, rfl⟩) | (with_reducible refine (Hx1.out _).mono ?_; rintro e w' ⟨rfl, rfl⟩) | (with_reducible refine (Hy1.out _).mono ?_; rintro e w' ⟨rfl, rfl⟩) | (with_reducible refine (Hx2.out _).mono ?_; rintro e w' ⟨rfl, rfl⟩) | (with_reducible refine (Hy2.out _).mono ?_; rintro e w' ⟨rfl, rfl⟩))
          refine wp_loop_rounds 1 ?_
          iterate 1 (rw [rounds_succ]; go_wp2_with (go_at_call 47; first | (with_reducible refine (Hx0.out _).mono ?_; rintro e w' ⟨rfl, rfl⟩) | (with_reducible refine (Hy0.out _).mono ?_; rintro e w' ⟨rfl, rfl⟩) | (with_reducible refine (Hx1.out _).mono ?_; rintro e w' ⟨rfl, rfl⟩) | (with_reducible refine (Hy1.out _).mono ?_; rintro e w' ⟨rfl, rfl⟩) | (with_reducible refine (Hx2.out _).mono ?_; rintro e w' ⟨rfl, rfl⟩) | (with_reducible refine (Hy2.out _).mono ?_; rintro e w' ⟨rfl, rfl⟩)))
          go_ret
          refine ⟨?_, rfl⟩
          have hno := all_no wtOk l k hlt (by rw [← HMM.out, HOK.out]; simp)
          unfold mayWts
          rw [hno]
          simp
        · skip
          cases bx1
          · skip
            go_wp2_with (go_at_call 47; first | (with_reducible refine (Hx0.out _).mono ?_; rintro e w' ⟨rfl, rfl⟩) | (with_reducible refine (Hy0.out _).mono ?_; rintro e w' ⟨rfl, rfl⟩) | (with_reducible refine (Hx1.out _).mono ?_; rintro e w' ⟨rfl, rfl⟩) | (with_reducible refine (Hy1.out _).mono ?_; rintro e w' ⟨rfl, rfl⟩) | (with_reducible refine (Hx2.out _).mono ?_; rintro e w' ⟨rfl, rfl⟩) | (with_reducible refine (Hy2.out _).mono ?_; rintro e w' ⟨rfl, rfl⟩))
            refine wp_loop_rounds 2 ?_
            iterate 2 (rw [rounds_succ]; go_wp2_with (go_at_call 47; first | (with_reducible refine (Hx0.out _).mono ?_; rintro e w' ⟨rfl, rfl⟩) | (with_reducible refine (Hy0.out _).mono ?_; rintro e w' ⟨rfl, rfl⟩) | (with_reducible refine (Hx1.out _).mono ?_; rintro e w' ⟨rfl, rfl⟩) | (with_reducible refine (Hy1.out _).mono ?_; rintro e w' ⟨rfl, rfl⟩) | (with_reducible refine (Hx2.out _).mono ?_; rintro e w' ⟨rfl, rfl⟩) | (with_reducible refine (Hy2.out _).mono ?_; rintro e w' ⟨rfl, rfl⟩)))
            go_ret
            refine ⟨?_, rfl⟩
            have hno := all_no wtOk l k hlt (by rw [← HMM.out, HOK.out]; simp)
            unfold mayWts
            rw [hno]
            simp
          · skip
            cases bz1
            · skip
              go_wp2_with (go_at_call 47; first | (with_reducible refine (Hx0.out _).mono ?_; rintro e w' ⟨rfl, rfl⟩) | (with_reducible refine (Hy0.out _).mono ?_; rintro e w' ⟨rfl, rfl⟩) | (with_reducible refine (Hx1.out _).mono ?_; rintro e w' ⟨rfl, rfl⟩) | (with_reducible refine (Hy1.out _).mono ?_; rintro e w' ⟨rfl, rfl⟩) | (with_reducible refine (Hx2.out _).mono ?_; rintro e w' ⟨rfl, rfl⟩) | (with_reducible refine (Hy2.out _).mono ?_; rintro e w' ⟨rfl, rfl⟩))
              refine wp_loop_rounds 2 ?_
              iterate 2 (rw [rounds_succ]; go_wp2_with (go_at_call 47; first | (with_reducible refine (Hx0.out _).mono ?_; rintro e w' ⟨rfl, rfl⟩) | (with_reducible refine (Hy0.out _).mono ?_; rintro e w' ⟨rfl, rfl⟩) | (with_reducible refine (Hx1.out _).mono ?_; rintro e w' ⟨rfl, rfl⟩) | (with_reducible refine (Hy1.out _).mono ?_; rintro e w' ⟨rfl, rfl⟩) | (with_reducible refine (Hx2.out _).mono ?_; rintro e w' ⟨rfl, rfl⟩) | (with_reducible refine (Hy2.out _).mono ?_; rintro e w' ⟨rfl, rfl⟩)))
              go_ret
              refine ⟨?_, rfl⟩
              have hno := all_no wtOk l k hlt (by rw [← HMM.out, HOK.out]; simp)
              unfold mayWts
              rw [hno]
              simp
            · skip
              cases bx2
              · skip
                go_wp2_with (go_at_call 47; first | (with_reducible refine (Hx0.out _).mono ?_; rintro e w' ⟨rfl, rfl⟩) | (with_reducible refine (Hy0.out _).mono ?_; rintro e w' ⟨rfl, rfl⟩) | (with_reducible refine (Hx1.out _).mono ?_; rintro e w' ⟨rfl, rfl⟩) | (with_reducible refine (Hy1.out _).mono ?_; rintro e w' ⟨rfl, rfl⟩) | (with_reducible refine (Hx2.out _).mono ?_; rintro e w' ⟨rfl, rfl⟩) | (with_reducible refine (Hy2.out _).mono ?_; rintro e w' ⟨rfl, rfl⟩))
                refine wp_loop_rounds 3 ?_
                iterate 3 (rw [rounds_succ]; go_wp2_with (go_at_call 47; first | (with_reducible refine (Hx0.out _).mono ?_; rintro e w' ⟨rfl, rfl⟩) | (with_reducible refine (Hy0.out _).mono ?_; rintro e w' ⟨rfl, rfl⟩) | (with_reducible refine (Hx1.out _).mono ?_; rintro e w' ⟨rfl, rfl⟩) | (with_reducible refine (Hy1.out _).mono ?_; rintro e w' ⟨rfl, rfl⟩) | (with_reducible refine (Hx2.out _).mono ?_; rintro e w' ⟨rfl, rfl⟩) | (with_reducible refine (Hy2.out _).mono ?_; rintro e w' ⟨rfl, rfl⟩)))
                go_ret
                refine ⟨?_, rfl⟩
                have hno := all_no wtOk l k hlt (by rw [← HMM.out, HOK.out]; simp)
                unfold mayWts
                rw [hno]
                simp
              · skip
                cases bz2
                · skip
                  go_wp2_with (go_at_call 47; first | (with_reducible refine (Hx0.out _).mono ?_; rintro e w' ⟨rfl, rfl⟩) | (with_reducible refine (Hy0.out _).mono ?_; rintro e w' ⟨rfl, rfl⟩) | (with_reducible refine (Hx1.out _).mono ?_; rintro e w' ⟨rfl, rfl⟩) | (with_reducible refine (Hy1.out _).mono ?_; rintro e w' ⟨rfl, rfl⟩) | (with_reducible refine (Hx2.out _).mono ?_; rintro e w' ⟨rfl, rfl⟩) | (with_reducible refine (Hy2.out _).mono ?_; rintro e w' ⟨rfl, rfl⟩))
                  refine wp_loop_rounds 3 ?_
                  iterate 3 (rw [rounds_succ]; go_wp2_with (go_at_call 47; first | (with_reducible refine (Hx0.out _).mono ?_; rintro e w' ⟨rfl, rfl⟩) | (with_reducible refine (Hy0.out _).mono ?_; rintro e w' ⟨rfl, rfl⟩) | (with_reducible refine (Hx1.out _).mono ?_; rintro e w' ⟨rfl, rfl⟩) | (with_reducible refine (Hy1.out _).mono ?_; rintro e w' ⟨rfl, rfl⟩) | (with_reducible refine (Hx2.out _).mono ?_; rintro e w' ⟨rfl, rfl⟩) | (with_reducible refine (Hy2.out _).mono ?_; rintro e w' ⟨rfl, rfl⟩)))
                  go_ret
                  refine ⟨?_, rfl⟩
                  have hno := all_no wtOk l k hlt (by rw [← HMM.out, HOK.out]; simp)
                  unfold mayWts
                  rw [hno]
                  simp
                · skip
                  go_wp2_with (go_at_call 47; first | (with_reducible refine (Hx0.out _).mono ?_; rintro e w' ⟨rfl, rfl⟩) | (with_reducible refine (Hy0.out _).mono ?_; rintro e w' ⟨rfl, rfl⟩) | (with_reducible refine (Hx1.out _).mono ?_; rintro e w' ⟨rfl, rfl⟩) | (with_reducible refine (Hy1.out _).mono ?_; rintro e w' ⟨rfl, rfl⟩) | (with_reducible refine (Hx2.out _).mono ?_; rintro e w' ⟨rfl, rfl⟩) | (with_reducible refine (Hy2.out _).mono ?_; rintro e w' ⟨rfl, rfl⟩))
                  refine wp_loop_rounds 4 ?_
                  iterate 4 (rw [rounds_succ]; go_wp2_with (go_at_call 47; first | (with_reducible refine (Hx0.out _).mono ?_; rintro e w' ⟨rfl, rfl⟩) | (with_reducible refine (Hy0.out _).mono ?_; rintro e w' ⟨rfl, rfl⟩) | (with_reducible refine (Hx1.out _).mono ?_; rintro e w' ⟨rfl, rfl⟩) | (with_reducible refine (Hy1.out _).mono ?_; rintro e w' ⟨rfl, rfl⟩) | (with_reducible refine (Hx2.out _).mono ?_; rintro e w' ⟨rfl, rfl⟩) | (with_reducible refine (Hy2.out _).mono ?_; rintro e w' ⟨rfl, rfl⟩)))
                  go_round
                  case rel =>
                    have hyes := all_take wtOk l k hlt HA.out (by rw [← HMM.out, HOK.out]; rfl)
                    exact ⟨k + 1, by omega, by go_num, hyes⟩
                  case measure => simp [intOf]; omega
    · obtain rfl : k = l.length := by omega
      have hnl : ¬ (l.length : Int) < (l.length : Int) := by omega
      have hall : l.all wtOk = true := by have := HA.out; rwa [List.take_length] at this
      have HAL := Lib.hid hall
      clear hall
      go_wp2_with fail
      go_ret
      refine ⟨?_, rfl⟩
      unfold mayWts
      rw [HAL.out, Bool.and_true]
      rfl
end Go.Proofs.YtjokibagciehlaaGreat
