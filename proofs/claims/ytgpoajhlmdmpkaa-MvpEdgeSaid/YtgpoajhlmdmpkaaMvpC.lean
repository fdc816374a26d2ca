/- The document's own Predict. -/
import Derived.Test.YtgpoajhlmdmpkaaMvpB
import Derived.Deep.CutBlock
import Derived.StillTailTactics
namespace Go.Proofs.Ytgpoajhlmdmpkaa
open Go.RowKit
set_option linter.unusedVariables false

set_option maxRecDepth 100000 in
set_option maxHeartbeats 3200000 in
theorem pred2_any (r0 r1 r2 x0 y0 x1 y1 x2 y2 ref shape part : Int) (w : World) :
    Calls Try.prog 12 #[.agg #[.int .i64 r0, .int .i64 r1, .int .i64 r2], .agg #[.int .i64 x0, .int .i64 y0, .int .i64 x1, .int .i64 y1, .int .i64 x2, .int .i64 y2], .int .i64 ref, .int .i64 shape, .int .i64 part] w
      fun e w' => e = .returned (.agg #[.int .i64 (pred shape part r0 r1 r2 x0 x1 x2 ref), .int .i64 (pred shape part r0 r1 r2 y0 y1 y2 ref)]) ∧ Below w.heap.size w w' := by
  have i0 : ∀ w, (Instr.index 22 (.agg #[.int .i64 r0, .int .i64 r1, .int .i64 r2]) (.int .i64 0)).run Try.prog w = .ok (.int .i64 r0) w := fun _ => by kernel_rfl
  have i1 : ∀ w, (Instr.index 22 (.agg #[.int .i64 r0, .int .i64 r1, .int .i64 r2]) (.int .i64 1)).run Try.prog w = .ok (.int .i64 r1) w := fun _ => by kernel_rfl
  have i2 : ∀ w, (Instr.index 22 (.agg #[.int .i64 r0, .int .i64 r1, .int .i64 r2]) (.int .i64 2)).run Try.prog w = .ok (.int .i64 r2) w := fun _ => by kernel_rfl
  generalize hPX : pred shape part r0 r1 r2 x0 x1 x2 ref = PX
  generalize hPY : pred shape part r0 r1 r2 y0 y1 y2 ref = PY
  have HPX := Lib.hid hPX
  have HPY := Lib.hid hPY
  clear hPX hPY
  go_enter Try.func12, Try.ntmps12
  go_upto_block 0 with fail
  go_cut [11] (fun s17 wx => s17 = .int .i64 3 ∧ wx = ((w.alloc (.cells #[.int .i64 r0, .int .i64 r1, .int .i64 r2] 22)).alloc (.cells #[.int .i64 (zr r0 x0), .int .i64 (zr r0 y0), .int .i64 (zr r1 x1), .int .i64 (zr r1 y1), .int .i64 (zr r2 x2), .int .i64 (zr r2 y2)] 25)).alloc (.cells #[.int .i64 0, .int .i64 0] 24))
  case first =>
    have z0 : zr r0 x0 = (if r0 < 0 then 0 else x0) ∧ zr r0 y0 = (if r0 < 0 then 0 else y0) := ⟨rfl, rfl⟩
    have z1 : zr r1 x1 = (if r1 < 0 then 0 else x1) ∧ zr r1 y1 = (if r1 < 0 then 0 else y1) := ⟨rfl, rfl⟩
    have z2 : zr r2 x2 = (if r2 < 0 then 0 else x2) ∧ zr r2 y2 = (if r2 < 0 then 0 else y2) := ⟨rfl, rfl⟩
    rcases (by omega : r0 < 0 ∨ 0 ≤ r0) with h0 | h0 <;> rcases (by omega : r1 < 0 ∨ 0 ≤ r1) with h1 | h1 <;> rcases (by omega : r2 < 0 ∨ 0 ≤ r2) with h2 | h2
    all_goals
      simp only [h0, h1, h2, if_true, if_false, Int.not_lt.2 h0, Int.not_lt.2 h1, Int.not_lt.2 h2] at z0 z1 z2
      have Z0 := Lib.hid z0
      have Z1 := Lib.hid z1
      have Z2 := Lib.hid z2
      clear z0 z1 z2
      go_wp2_with fail
      refine wp_loop_rounds 4 ?_
      iterate 4 (rw [rounds_succ]; go_wp2_with fail)
      go_meet
      refine ⟨rfl, ?_⟩
      rw [Z0.out.1, Z0.out.2, Z1.out.1, Z1.out.2, Z2.out.1, Z2.out.2]
  case rest =>
    obtain ⟨rfl, rfl⟩ := hcut
    go_upto_block 2 with fail
    go_cut [12] (fun s12 wx => s12 = .int .i64 (firstOf shape part) ∧ wx = ((w.alloc (.cells #[.int .i64 r0, .int .i64 r1, .int .i64 r2] 22)).alloc (.cells #[.int .i64 (zr r0 x0), .int .i64 (zr r0 y0), .int .i64 (zr r1 x1), .int .i64 (zr r1 y1), .int .i64 (zr r2 x2), .int .i64 (zr r2 y2)] 25)).alloc (.cells #[.int .i64 0, .int .i64 0] 24))
    case first =>
      have hs : ((shape == 1) = true ∧ (shape == 2) = false) ∨ ((shape == 1) = false ∧ (shape == 2) = true) ∨ ((shape == 1) = false ∧ (shape == 2) = false) := by
        simp only [beq_iff_eq, beq_eq_false_iff_ne]
        omega
      have hp : ((part == 0) = true ∧ (part == 1) = false) ∨ ((part == 0) = false ∧ (part == 1) = true) ∨ ((part == 0) = false ∧ (part == 1) = false) := by
        simp only [beq_iff_eq, beq_eq_false_iff_ne]
        omega
      rcases hs with ⟨h1, h2⟩ | ⟨h1, h2⟩ | ⟨h1, h2⟩ <;> rcases hp with ⟨h3, h4⟩ | ⟨h3, h4⟩ | ⟨h3, h4⟩
      all_goals
        go_wp2_with fail
        go_meet
        refine ⟨?_, rfl⟩
        congr 1
        simp only [beq_iff_eq, beq_eq_false_iff_ne, ne_eq] at h1 h2 h3 h4
        unfold firstOf
        omega
    case rest =>
      obtain ⟨rfl, rfl⟩ := hcut
      have hf : firstOf shape part = -1 ∨ firstOf shape part = 0 ∨ firstOf shape part = 1 ∨ firstOf shape part = 2 := by unfold firstOf; omega
      have KX : Hid (predV (firstOf shape part) r0 r1 r2 (zr r0 x0) (zr r1 x1) (zr r2 x2) ref = PX) := HPX.out
      have KY : Hid (predV (firstOf shape part) r0 r1 r2 (zr r0 y0) (zr r1 y1) (zr r2 y2) ref = PY) := HPY.out
      clear HPX HPY
      generalize firstOf shape part = f at *
      generalize zr r0 x0 = x0 at *
      generalize zr r0 y0 = y0 at *
      generalize zr r1 x1 = x1 at *
      generalize zr r1 y1 = y1 at *
      generalize zr r2 x2 = x2 at *
      generalize zr r2 y2 = y2 at *
      go_upto_region 14 with fail
      go_cut [62] (fun s63 wx => s63 = .bool (hitB f r0 r1 r2 ref) ∧ wx = ((w.alloc (.cells #[.int .i64 r0, .int .i64 r1, .int .i64 r2] 22)).alloc (.cells #[.int .i64 x0, .int .i64 y0, .int .i64 x1, .int .i64 y1, .int .i64 x2, .int .i64 y2] 25)).alloc (.cells #[.int .i64 0, .int .i64 0] 24))
      case first =>
        have e0 : (r0 == ref) = true ∨ (r0 == ref) = false := by cases (r0 == ref) <;> simp
        have e1 : (r1 == ref) = true ∨ (r1 == ref) = false := by cases (r1 == ref) <;> simp
        have e2 : (r2 == ref) = true ∨ (r2 == ref) = false := by cases (r2 == ref) <;> simp
        rcases hf with rfl | rfl | rfl | rfl <;> rcases e0 with e0 | e0 <;> rcases e1 with e1 | e1 <;> rcases e2 with e2 | e2
        all_goals
          go_wp2_with fail
          go_meet
          refine ⟨vb ?_, rfl⟩
          simp only [beq_iff_eq, beq_eq_false_iff_ne, ne_eq] at e0 e1 e2
          unfold hitB
          first | (symm; rw [decide_eq_true_iff]; omega) | (symm; rw [decide_eq_false_iff_not]; omega)
      case rest =>
        obtain ⟨rfl, rfl⟩ := hcut
        have hBd : hitB f r0 r1 r2 ref = decide ((f = 0 ∧ r0 = ref) ∨ (f = 1 ∧ r1 = ref) ∨ (f = 2 ∧ r2 = ref)) := rfl
        have HBd := Lib.hid hBd
        clear hBd
        cases hB : hitB f r0 r1 r2 ref
        · have HB := Lib.hid hB
          clear hB
          go_upto_region 16 with fail
          go_cut [78] (fun s79 wx => s79 = .bool (edgeB r0 r1 r2) ∧ wx = ((w.alloc (.cells #[.int .i64 r0, .int .i64 r1, .int .i64 r2] 22)).alloc (.cells #[.int .i64 x0, .int .i64 y0, .int .i64 x1, .int .i64 y1, .int .i64 x2, .int .i64 y2] 25)).alloc (.cells #[.int .i64 0, .int .i64 0] 24))
          case first =>
            have e0 : (r0 != -2) = true ∨ (r0 != -2) = false := by cases (r0 != -2) <;> simp
            have e1 : (r1 == -2) = true ∨ (r1 == -2) = false := by cases (r1 == -2) <;> simp
            have e2 : (r2 == -2) = true ∨ (r2 == -2) = false := by cases (r2 == -2) <;> simp
            rcases e0 with e0 | e0 <;> rcases e1 with e1 | e1 <;> rcases e2 with e2 | e2
            all_goals
              go_wp2_with fail
              go_meet
              refine ⟨vb ?_, rfl⟩
              simp only [beq_iff_eq, beq_eq_false_iff_ne, ne_eq, bne_iff_ne, bne_eq_false_iff_eq] at e0 e1 e2
              unfold edgeB
              first | (symm; rw [decide_eq_true_iff]; omega) | (symm; rw [decide_eq_false_iff_not]; omega)
          case rest =>
            obtain ⟨rfl, rfl⟩ := hcut
            cases hE : edgeB r0 r1 r2
            · have HE := Lib.hid hE
              clear hE
              go_upto_block 3 with fail
              go_cut [13, 14, 15] (fun s13 s14 s83 wx => s13 = .int .i64 (cntI r0 r1 r2 ref) ∧ s14 = .int .i64 (onlyI r0 r1 r2 ref) ∧ s83 = .int .i64 3 ∧ wx = ((w.alloc (.cells #[.int .i64 r0, .int .i64 r1, .int .i64 r2] 22)).alloc (.cells #[.int .i64 x0, .int .i64 y0, .int .i64 x1, .int .i64 y1, .int .i64 x2, .int .i64 y2] 25)).alloc (.cells #[.int .i64 0, .int .i64 0] 24))
              case first =>
                have e0 : (r0 == ref) = true ∨ (r0 == ref) = false := by cases (r0 == ref) <;> simp
                have e1 : (r1 == ref) = true ∨ (r1 == ref) = false := by cases (r1 == ref) <;> simp
                have e2 : (r2 == ref) = true ∨ (r2 == ref) = false := by cases (r2 == ref) <;> simp
                rcases e0 with e0 | e0 <;> rcases e1 with e1 | e1 <;> rcases e2 with e2 | e2
                all_goals
                  go_wp2_with fail
                  refine wp_loop_rounds 4 ?_
                  iterate 4 (rw [rounds_succ]; go_wp2_with fail)
                  go_meet
                  simp only [beq_iff_eq, beq_eq_false_iff_ne, ne_eq] at e0 e1 e2
                  exact ⟨vi (by unfold cntI; omega), vi (by unfold onlyI; omega), rfl, rfl⟩
              case rest =>
                obtain ⟨rfl, rfl, rfl, rfl⟩ := hcut
                have hO : onlyI r0 r1 r2 ref = 0 ∨ onlyI r0 r1 r2 ref = 1 ∨ onlyI r0 r1 r2 ref = 2 := by unfold onlyI; omega
                by_cases hc : cntI r0 r1 r2 ref = 1
                · have HC := Lib.hid hc
                  have hc' : (cntI r0 r1 r2 ref == 1) = true := by simp [hc]
                  clear hc
                  rcases hO with hO | hO | hO
                  · have HO := Lib.hid hO
                    rw [hO]
                    clear hO
                    go_wp2_with fail
                    refine bodyPost_ret (v := .agg #[.int .i64 x0, .int .i64 y0]) (by simp [results, Try.results12, go_sem]) rfl ⟨?_, (((Below.refl _ _).alloc (Nat.le_refl _) _).alloc (by simp) _).alloc (by simp <;> omega) _⟩
                    rw [← KX.out, ← KY.out, predV_one HB.out HE.out HC.out, predV_one HB.out HE.out HC.out, HO.out]
                    exact ret_vec (by simp) (by simp)
                  · have HO := Lib.hid hO
                    rw [hO]
                    clear hO
                    go_wp2_with fail
                    refine bodyPost_ret (v := .agg #[.int .i64 x1, .int .i64 y1]) (by simp [results, Try.results12, go_sem]) rfl ⟨?_, (((Below.refl _ _).alloc (Nat.le_refl _) _).alloc (by simp) _).alloc (by simp <;> omega) _⟩
                    rw [← KX.out, ← KY.out, predV_one HB.out HE.out HC.out, predV_one HB.out HE.out HC.out, HO.out]
                    exact ret_vec (by simp) (by simp)
                  · have HO := Lib.hid hO
                    rw [hO]
                    clear hO
                    go_wp2_with fail
                    refine bodyPost_ret (v := .agg #[.int .i64 x2, .int .i64 y2]) (by simp [results, Try.results12, go_sem]) rfl ⟨?_, (((Below.refl _ _).alloc (Nat.le_refl _) _).alloc (by simp) _).alloc (by simp <;> omega) _⟩
                    rw [← KX.out, ← KY.out, predV_one HB.out HE.out HC.out, predV_one HB.out HE.out HC.out, HO.out]
                    exact ret_vec (by simp) (by simp)
                · have HC := Lib.hid hc
                  have hc' : (cntI r0 r1 r2 ref == 1) = false := by simp [hc]
                  clear hc hO
                  go_wp2_with fail
                  refine wp_region_still_tail 21 (by kernel_rfl) (by kernel_rfl) ?_
                  simp only [List.take_succ_cons, List.take_zero, List.drop_succ_cons, List.drop_zero]
                  change wpStill _ _ (World.drew _) (fun a' => wpList _ _ _ _ a' (World.drew _)) _ _
                  repeat still_step
                  still_call (sw (med2_any _ _ _ _))
                  repeat still_step
                  still_call (sw (med2_any _ _ _ _))
                  repeat still_step
                  refine wpStill_nil ?_
                  change wpList _ _ _ _ _ (World.drew _)
                  go_wp2
                  refine bodyPost_ret (v := .agg #[.int .i64 (med x0 x1 x2), .int .i64 (med y0 y1 y2)]) (by simp [results, Try.results12, go_sem]) rfl ⟨?_, ((((Below.refl _ _).alloc (Nat.le_refl _) _).alloc (by simp) _).alloc (by simp <;> omega) _).drew⟩
                  rw [← KX.out, ← KY.out, predV_med HB.out HE.out HC.out, predV_med HB.out HE.out HC.out]
            · have HE := Lib.hid hE
              clear hE
              go_wp2_with fail
              refine bodyPost_ret (v := .agg #[.int .i64 x0, .int .i64 y0]) (by simp [results, Try.results12, go_sem]) rfl ⟨?_, (((Below.refl _ _).alloc (Nat.le_refl _) _).alloc (by simp) _).alloc (by simp <;> omega) _⟩
              rw [← KX.out, ← KY.out, predV_edge HB.out HE.out, predV_edge HB.out HE.out]
        · have HB := Lib.hid hB
          clear hB
          rcases hf with rfl | rfl | rfl | rfl
          · exfalso
            have h2 := HB.out
            rw [HBd.out, decide_eq_true_iff] at h2
            omega
          · go_wp2_with fail
            refine bodyPost_ret (v := .agg #[.int .i64 x0, .int .i64 y0]) (by simp [results, Try.results12, go_sem]) rfl ⟨?_, (((Below.refl _ _).alloc (Nat.le_refl _) _).alloc (by simp) _).alloc (by simp <;> omega) _⟩
            rw [← KX.out, ← KY.out, predV_hit HB.out, predV_hit HB.out]
            exact ret_vec (by simp) (by simp)
          · go_wp2_with fail
            refine bodyPost_ret (v := .agg #[.int .i64 x1, .int .i64 y1]) (by simp [results, Try.results12, go_sem]) rfl ⟨?_, (((Below.refl _ _).alloc (Nat.le_refl _) _).alloc (by simp) _).alloc (by simp <;> omega) _⟩
            rw [← KX.out, ← KY.out, predV_hit HB.out, predV_hit HB.out]
            exact ret_vec (by simp) (by simp)
          · go_wp2_with fail
            refine bodyPost_ret (v := .agg #[.int .i64 x2, .int .i64 y2]) (by simp [results, Try.results12, go_sem]) rfl ⟨?_, (((Below.refl _ _).alloc (Nat.le_refl _) _).alloc (by simp) _).alloc (by simp <;> omega) _⟩
            rw [← KX.out, ← KY.out, predV_hit HB.out, predV_hit HB.out]
            exact ret_vec (by simp) (by simp)

end Go.Proofs.Ytgpoajhlmdmpkaa
