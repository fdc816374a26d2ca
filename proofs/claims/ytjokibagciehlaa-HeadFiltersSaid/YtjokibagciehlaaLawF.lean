/- HeadFilters: offsets of the filter stand where it is not off. Printed by gen-lawf.py. -/
import Derived.Test.YtjokibagciehlaaHeaZ
import Derived.Deep.DeepCutAuto
namespace Go.Proofs.Ytjokibagciehlaa
open Go.RowKit
set_option linter.unusedVariables false
set_option linter.unusedSimpArgs false

def fH (A B : Int) (off : Bool) : Hd := { tH with a := A, b := B, off := off }
def fP (deb : Bool) : Pp := { tP with deb := deb }
theorem filt_law (A B : Int) (off deb : Bool) : mayHd (fH A B off) tS (fP deb) 0 false = ((if (off || !deb) = true then (A == 0) && (B == 0) else inR (-6) 6 A && inR (-6) 6 B) && (deb || !off)) := by
  have h0 : maySp tS = true := by decide
  have h1 : mayPp (fP deb) = true := by cases deb <;> decide
  have h2 : inR 0 3 0 = true := by decide
  have h3 : r4 (fH A B off) tS false = true := rfl
  have h4 : r6 (fH A B off) tS false = true := rfl
  have h5 : r8 (fH A B off) tS = true := rfl
  have h6 : r10 (fH A B off) (fP deb) 0 false = true := by cases deb <;> rfl
  have h7 : inR 0 51 (fH A B off).qp = true := rfl
  unfold mayHd
  rw [h0, h1, h2, h3, h4, h5, h6, h7]
  have e : r12 (fH A B off) (fP deb) = (!(off && !deb) && inR (-6) 6 A && inR (-6) 6 B && !((off || !deb) && (A != 0 || B != 0))) := rfl
  rw [e]
  have hA : (A == 0) = true → inR (-6) 6 A = true := fun e => by rw [show A = 0 by simpa using e]; decide
  have hB : (B == 0) = true → inR (-6) 6 B = true := fun e => by rw [show B = 0 by simpa using e]; decide
  have nA : (A != 0) = !(A == 0) := rfl
  have nB : (B != 0) = !(B == 0) := rfl
  rw [nA, nB]
  generalize (A == 0) = x at *
  generalize (B == 0) = y at *
  generalize inR (-6) 6 A = u at *
  generalize inR (-6) 6 B = v at *
  clear nA nB h0 h1 h2 h3 h4 h5 h6 h7 e
  revert hA hB
  cases x <;> cases y <;> cases u <;> cases v <;> cases off <;> cases deb <;> simp
set_option maxRecDepth 100000 in
set_option maxHeartbeats 6400000 in
theorem walk_HeadFilters (a0 : Int) (a1 : Int) (a2 : Bool) (a3 : Bool) (w : World) (w_a0 : (Lit.int .i64 a0).wf = true) (w_a1 : (Lit.int .i64 a1).wf = true) :
    Calls Try.prog 5 #[.int .i64 a0, .int .i64 a1, .bool a2, .bool a3] w fun e w' => e = .returned (.bool true) ∧ Below w.heap.size w w' := by
  clear w_a0 w_a1
  go_enter Try.func5, Try.ntmps5
  go_wp2_with fail
  refine (awake_any w).mono ?_
  rintro e wa ⟨rfl, hba⟩
  have HBA := Lib.hid hba
  clear hba
  go_upto_region 3 with fail
  refine wp_region_lit ?_
  refine tiny_run (N := 74) 16 15 17 18 19 9 10 11 rfl rfl rfl rfl rfl rfl rfl rfl rfl rfl rfl rfl rfl rfl rfl rfl rfl rfl rfl rfl rfl rfl rfl rfl rfl rfl rfl rfl rfl rfl rfl rfl rfl rfl (by decide) (by decide) ?_
  intro w1 hb1
  have HN := Lib.hid (Tn.new (HBA.out.trans (hb1.mono HBA.out.size)))
  obtain ⟨n, hn⟩ : ∃ n, w1.heap.size = n := ⟨_, rfl⟩
  obtain ⟨w4, hw4⟩ : ∃ w4, tnW w1 = w4 := ⟨_, rfl⟩
  rw [hw4, hn] at HN ⊢
  clear hw4 hb1 hn HBA
  have c18 := HN.out.k3.cell 18
  have f18 := HN.out.k3.frozen 18
  have c19 := HN.out.k3.cell 19
  have f19 := HN.out.k3.frozen 19
  have c20 := HN.out.k3.cell 20
  have f20 := HN.out.k3.frozen 20
  have c6 := HN.out.k2.cell 6
  have f6 := HN.out.k2.frozen 6
  simp [hdV, tH, Hd.zero] at c18 c19 c20
  simp [ppV, tP] at c6
  have hnn : ¬ n + 1 + 1 = n + 1 := by omega
  have hnm : ¬ n + 1 = n + 1 + 1 := by omega
  go_upto_region 8 with fail
  obtain ⟨A, hA⟩ : ∃ A, a0.tmod 9 = A := ⟨_, rfl⟩
  obtain ⟨B, hB⟩ : ∃ A, a1.tmod 9 = A := ⟨_, rfl⟩
  rw [hA, hB]
  obtain ⟨w8, hw8⟩ : ∃ w8, (((w4.setCell ⟨n + 1 + 1, 19, none⟩ (.int .i64 A)).setCell ⟨n + 1 + 1, 20, none⟩ (.int .i64 B)).setCell ⟨n + 1 + 1, 18, none⟩ (.bool a2)).setCell ⟨n + 1, 6, none⟩ (.bool a3) = w8 := ⟨_, rfl⟩
  have hN8 : Tn w w8 n tS (fP a3) (fH A B a2) Ha.zero := hw8 ▸ (((HN.out.hset (h' := { tH with a := A }) (q' := Ha.zero) 19 (.int .i64 A) rfl).hset (h' := { tH with a := A, b := B }) (q' := Ha.zero) 20 (.int .i64 B) rfl).hset (h' := fH A B a2) (q' := Ha.zero) 18 (.bool a2) rfl).pset 6 (.bool a3) rfl
  rw [hw8]
  have HN8 := Lib.hid hN8
  clear c18 c19 c20 f18 f19 f20 c6 f6 hA hB hw8 hN8 HN hnn hnm
  have hM := filt_law A B a2 a3
  obtain ⟨M, hMM⟩ : ∃ M, mayHd (fH A B a2) tS (fP a3) 0 false = M := ⟨_, rfl⟩
  rw [hMM] at hM
  have HM := Lib.hid hM
  have HC := Lib.hid (fun w => hMM ▸ mayhd_any (fH A B a2) Ha.zero tS none 0 (fP a3) 0 false w ⟨RwAt.nil _ _ _ _ _, RwAt.nil _ _ _ _ _, RwAt.nil _ _ _ _ _, RwAt.nil _ _ _ _ _, RwAt.nil _ _ _ _ _⟩ ⟨Nat.zero_le _, Nat.zero_le _, Nat.zero_le _, Nat.zero_le _, Nat.zero_le _⟩ (Rd.zero w w.heap.size none _ : Rd w w.heap.size none 0 _) (by decide))
  clear hM hMM
  have c19 := HN8.out.k3.cell 19
  have c20 := HN8.out.k3.cell 20
  simp [hdV, fH] at c19 c20
  obtain ⟨R, hR⟩ : ∃ R, (inR (-6) 6 A && inR (-6) 6 B) = R := ⟨_, rfl⟩
  rw [hR] at HM
  have HRR := Lib.hid hR
  clear hR
  go_cut [12] (fun s_ wx => s_ = .bool R ∧ w8 = wx)
  case first =>
    by_cases p1 : -6 ≤ A
    · by_cases p2 : A ≤ 6
      · by_cases p3 : -6 ≤ B
        · by_cases p4 : B ≤ 6
          · skip
            go_wp2_with fail
            go_meet
            refine ⟨?_, rfl⟩
            rw [← HRR.out, inR_yes (by omega), inR_yes (by omega)]
            rfl
          · skip
            go_wp2_with fail
            go_meet
            refine ⟨?_, rfl⟩
            rw [← HRR.out, inR_yes (by omega), inR_no (by omega)]
            rfl
        · skip
          go_wp2_with fail
          go_meet
          refine ⟨?_, rfl⟩
          rw [← HRR.out, inR_yes (by omega), inR_no (by omega)]
          rfl
      · skip
        go_wp2_with fail
        go_meet
        refine ⟨?_, rfl⟩
        rw [← HRR.out, inR_no (by omega)]
        rfl
    · skip
      go_wp2_with fail
      go_meet
      refine ⟨?_, rfl⟩
      rw [← HRR.out, inR_no (by omega)]
      rfl
  case rest =>
    obtain ⟨rfl, rfl⟩ := hcut
    clear HRR
    cases a2 <;> cases a3
    · skip
      by_cases x : A = 0
      · have x' : (A == 0) = true := by rw [x]; rfl
        by_cases y : B = 0
        · have y' : (B == 0) = true := by rw [y]; rfl
          rw [x', y'] at HM
          go_upto_region 11 with fail
          clear c19 c20
          refine wp_region_lit ?_
          refine wpl_val rfl (run_load_row rfl rfl (load_head HN8.out.k3)) ?_
          refine wpl_val rfl (run_load_row rfl rfl (load_sps HN8.out.k1)) ?_
          refine wpl_val rfl (run_load_row rfl rfl (load_pps HN8.out.k2)) ?_
          refine wpl_call rfl (f := 10) (args := #[.agg (hdV (fH A B false) Ha.zero), .agg (spV tS none 0), .agg (ppV (fP false)), .int .i64 0, .bool false]) (by kernel_rfl) ?_
          refine (HC.out w8).mono ?_
          rintro e w9 ⟨rfl, hb⟩
          refine ⟨_, rfl, ?_⟩
          have HB := Lib.hid (HN8.out.go hb)
          clear hb
          go_wp2_with fail
          go_ret
          refine ⟨?_, HB.out.below⟩
          rw [HM.out]
          simp
        · have y' : (B == 0) = false := by simpa using y
          rw [x', y'] at HM
          go_upto_region 11 with fail
          clear c19 c20
          refine wp_region_lit ?_
          refine wpl_val rfl (run_load_row rfl rfl (load_head HN8.out.k3)) ?_
          refine wpl_val rfl (run_load_row rfl rfl (load_sps HN8.out.k1)) ?_
          refine wpl_val rfl (run_load_row rfl rfl (load_pps HN8.out.k2)) ?_
          refine wpl_call rfl (f := 10) (args := #[.agg (hdV (fH A B false) Ha.zero), .agg (spV tS none 0), .agg (ppV (fP false)), .int .i64 0, .bool false]) (by kernel_rfl) ?_
          refine (HC.out w8).mono ?_
          rintro e w9 ⟨rfl, hb⟩
          refine ⟨_, rfl, ?_⟩
          have HB := Lib.hid (HN8.out.go hb)
          clear hb
          go_wp2_with fail
          go_ret
          refine ⟨?_, HB.out.below⟩
          rw [HM.out]
          simp
      · have x' : (A == 0) = false := by simpa using x
        rw [x'] at HM
        go_upto_region 11 with fail
        clear c19 c20
        refine wp_region_lit ?_
        refine wpl_val rfl (run_load_row rfl rfl (load_head HN8.out.k3)) ?_
        refine wpl_val rfl (run_load_row rfl rfl (load_sps HN8.out.k1)) ?_
        refine wpl_val rfl (run_load_row rfl rfl (load_pps HN8.out.k2)) ?_
        refine wpl_call rfl (f := 10) (args := #[.agg (hdV (fH A B false) Ha.zero), .agg (spV tS none 0), .agg (ppV (fP false)), .int .i64 0, .bool false]) (by kernel_rfl) ?_
        refine (HC.out w8).mono ?_
        rintro e w9 ⟨rfl, hb⟩
        refine ⟨_, rfl, ?_⟩
        have HB := Lib.hid (HN8.out.go hb)
        clear hb
        go_wp2_with fail
        go_ret
        refine ⟨?_, HB.out.below⟩
        rw [HM.out]
        simp
    · skip
      cases R
      all_goals
        go_upto_region 11 with fail
        clear c19 c20
        refine wp_region_lit ?_
        refine wpl_val rfl (run_load_row rfl rfl (load_head HN8.out.k3)) ?_
        refine wpl_val rfl (run_load_row rfl rfl (load_sps HN8.out.k1)) ?_
        refine wpl_val rfl (run_load_row rfl rfl (load_pps HN8.out.k2)) ?_
        refine wpl_call rfl (f := 10) (args := #[.agg (hdV (fH A B false) Ha.zero), .agg (spV tS none 0), .agg (ppV (fP true)), .int .i64 0, .bool false]) (by kernel_rfl) ?_
        refine (HC.out w8).mono ?_
        rintro e w9 ⟨rfl, hb⟩
        refine ⟨_, rfl, ?_⟩
        have HB := Lib.hid (HN8.out.go hb)
        clear hb
        go_wp2_with fail
        go_ret
        refine ⟨?_, HB.out.below⟩
        rw [HM.out]
        simp
    · skip
      by_cases x : A = 0
      · have x' : (A == 0) = true := by rw [x]; rfl
        by_cases y : B = 0
        · have y' : (B == 0) = true := by rw [y]; rfl
          rw [x', y'] at HM
          go_upto_region 11 with fail
          clear c19 c20
          refine wp_region_lit ?_
          refine wpl_val rfl (run_load_row rfl rfl (load_head HN8.out.k3)) ?_
          refine wpl_val rfl (run_load_row rfl rfl (load_sps HN8.out.k1)) ?_
          refine wpl_val rfl (run_load_row rfl rfl (load_pps HN8.out.k2)) ?_
          refine wpl_call rfl (f := 10) (args := #[.agg (hdV (fH A B true) Ha.zero), .agg (spV tS none 0), .agg (ppV (fP false)), .int .i64 0, .bool false]) (by kernel_rfl) ?_
          refine (HC.out w8).mono ?_
          rintro e w9 ⟨rfl, hb⟩
          refine ⟨_, rfl, ?_⟩
          have HB := Lib.hid (HN8.out.go hb)
          clear hb
          go_wp2_with fail
          go_ret
          refine ⟨?_, HB.out.below⟩
          rw [HM.out]
          simp
        · have y' : (B == 0) = false := by simpa using y
          rw [x', y'] at HM
          go_upto_region 11 with fail
          clear c19 c20
          refine wp_region_lit ?_
          refine wpl_val rfl (run_load_row rfl rfl (load_head HN8.out.k3)) ?_
          refine wpl_val rfl (run_load_row rfl rfl (load_sps HN8.out.k1)) ?_
          refine wpl_val rfl (run_load_row rfl rfl (load_pps HN8.out.k2)) ?_
          refine wpl_call rfl (f := 10) (args := #[.agg (hdV (fH A B true) Ha.zero), .agg (spV tS none 0), .agg (ppV (fP false)), .int .i64 0, .bool false]) (by kernel_rfl) ?_
          refine (HC.out w8).mono ?_
          rintro e w9 ⟨rfl, hb⟩
          refine ⟨_, rfl, ?_⟩
          have HB := Lib.hid (HN8.out.go hb)
          clear hb
          go_wp2_with fail
          go_ret
          refine ⟨?_, HB.out.below⟩
          rw [HM.out]
          simp
      · have x' : (A == 0) = false := by simpa using x
        rw [x'] at HM
        go_upto_region 11 with fail
        clear c19 c20
        refine wp_region_lit ?_
        refine wpl_val rfl (run_load_row rfl rfl (load_head HN8.out.k3)) ?_
        refine wpl_val rfl (run_load_row rfl rfl (load_sps HN8.out.k1)) ?_
        refine wpl_val rfl (run_load_row rfl rfl (load_pps HN8.out.k2)) ?_
        refine wpl_call rfl (f := 10) (args := #[.agg (hdV (fH A B true) Ha.zero), .agg (spV tS none 0), .agg (ppV (fP false)), .int .i64 0, .bool false]) (by kernel_rfl) ?_
        refine (HC.out w8).mono ?_
        rintro e w9 ⟨rfl, hb⟩
        refine ⟨_, rfl, ?_⟩
        have HB := Lib.hid (HN8.out.go hb)
        clear hb
        go_wp2_with fail
        go_ret
        refine ⟨?_, HB.out.below⟩
        rw [HM.out]
        simp
    · skip
      by_cases x : A = 0
      · have x' : (A == 0) = true := by rw [x]; rfl
        by_cases y : B = 0
        · have y' : (B == 0) = true := by rw [y]; rfl
          rw [x', y'] at HM
          go_upto_region 11 with fail
          clear c19 c20
          refine wp_region_lit ?_
          refine wpl_val rfl (run_load_row rfl rfl (load_head HN8.out.k3)) ?_
          refine wpl_val rfl (run_load_row rfl rfl (load_sps HN8.out.k1)) ?_
          refine wpl_val rfl (run_load_row rfl rfl (load_pps HN8.out.k2)) ?_
          refine wpl_call rfl (f := 10) (args := #[.agg (hdV (fH A B true) Ha.zero), .agg (spV tS none 0), .agg (ppV (fP true)), .int .i64 0, .bool false]) (by kernel_rfl) ?_
          refine (HC.out w8).mono ?_
          rintro e w9 ⟨rfl, hb⟩
          refine ⟨_, rfl, ?_⟩
          have HB := Lib.hid (HN8.out.go hb)
          clear hb
          go_wp2_with fail
          go_ret
          refine ⟨?_, HB.out.below⟩
          rw [HM.out]
          simp
        · have y' : (B == 0) = false := by simpa using y
          rw [x', y'] at HM
          go_upto_region 11 with fail
          clear c19 c20
          refine wp_region_lit ?_
          refine wpl_val rfl (run_load_row rfl rfl (load_head HN8.out.k3)) ?_
          refine wpl_val rfl (run_load_row rfl rfl (load_sps HN8.out.k1)) ?_
          refine wpl_val rfl (run_load_row rfl rfl (load_pps HN8.out.k2)) ?_
          refine wpl_call rfl (f := 10) (args := #[.agg (hdV (fH A B true) Ha.zero), .agg (spV tS none 0), .agg (ppV (fP true)), .int .i64 0, .bool false]) (by kernel_rfl) ?_
          refine (HC.out w8).mono ?_
          rintro e w9 ⟨rfl, hb⟩
          refine ⟨_, rfl, ?_⟩
          have HB := Lib.hid (HN8.out.go hb)
          clear hb
          go_wp2_with fail
          go_ret
          refine ⟨?_, HB.out.below⟩
          rw [HM.out]
          simp
      · have x' : (A == 0) = false := by simpa using x
        rw [x'] at HM
        go_upto_region 11 with fail
        clear c19 c20
        refine wp_region_lit ?_
        refine wpl_val rfl (run_load_row rfl rfl (load_head HN8.out.k3)) ?_
        refine wpl_val rfl (run_load_row rfl rfl (load_sps HN8.out.k1)) ?_
        refine wpl_val rfl (run_load_row rfl rfl (load_pps HN8.out.k2)) ?_
        refine wpl_call rfl (f := 10) (args := #[.agg (hdV (fH A B true) Ha.zero), .agg (spV tS none 0), .agg (ppV (fP true)), .int .i64 0, .bool false]) (by kernel_rfl) ?_
        refine (HC.out w8).mono ?_
        rintro e w9 ⟨rfl, hb⟩
        refine ⟨_, rfl, ?_⟩
        have HB := Lib.hid (HN8.out.go hb)
        clear hb
        go_wp2_with fail
        go_ret
        refine ⟨?_, HB.out.below⟩
        rw [HM.out]
        simp
end Go.Proofs.Ytjokibagciehlaa
