/- HeadPlaces: which macroblocks a slice may have. Printed by gen-lawp.py. -/
import Derived.Test.YtjokibagciehlaaHeaZ
import Derived.Deep.DeepCutAuto
namespace Go.Proofs.Ytjokibagciehlaa
open Go.RowKit
set_option linter.unusedVariables false
set_option linter.unusedSimpArgs false

theorem hdL_pos (h : Hd) (s : Sp) (p : Pp) (ref : Int) (key : Bool) : 0 < (hdL h s p ref key).length := by
  have h1 := ueL_len h.first.toNat
  unfold hdL hdL1
  simp only [List.length_append]
  omega
def pH (F C : Int) : Hd := { tH with first := F, count := C }
theorem place_law (F C : Int) : mayHd (pH F C) tS tP 0 false = (decide (0 ≤ F) && decide (1 ≤ C) && decide (F + C ≤ 4)) := by
  have h0 : maySp tS = true := by decide
  have h1 : mayPp tP = true := by decide
  have h2 : inR 0 3 0 = true := by decide
  have h4 : r6 (pH F C) tS false = true := rfl
  have h5 : r8 (pH F C) tS = true := rfl
  have h6 : r10 (pH F C) tP 0 false = true := rfl
  have h8 : r12 (pH F C) tP = true := rfl
  have h7 : inR 0 51 (pH F C).qp = true := rfl
  have h3 : r4 (pH F C) tS false = (inR 0 4 F && inR 1 (4 - F) C) := by
    have e : r4 (pH F C) tS false = (inR 0 4 F && inR 1 (4 - F) C && true && !(false && false)) := rfl
    rw [e]
    simp
  unfold mayHd
  rw [h0, h1, h2, h3, h4, h5, h6, h7, h8]
  by_cases p1 : 0 ≤ F
  · by_cases p2 : 1 ≤ C
    · by_cases p3 : F + C ≤ 4
      · rw [inR_yes (by omega), inR_yes (by omega)]; simp [p1, p2, p3]
      · have : inR 1 (4 - F) C = false := inR_no (by omega)
        rw [this]; simp [p3]
    · have : inR 1 (4 - F) C = false := inR_no (by omega)
      rw [this]; simp [p2]
  · have : inR 0 4 F = false := inR_no (by omega)
    rw [this]; simp [p1]
set_option maxRecDepth 100000 in
set_option maxHeartbeats 6400000 in
theorem walk_HeadPlaces (a0 : Int) (a1 : Int) (w : World) (w_a0 : (Lit.int .i64 a0).wf = true) (w_a1 : (Lit.int .i64 a1).wf = true) :
    Calls Try.prog 6 #[.int .i64 a0, .int .i64 a1] w fun e w' => e = .returned (.bool true) ∧ Below w.heap.size w w' := by
  clear w_a0 w_a1
  have b0 := Int.tmod_lt_of_pos a0 (show (0 : Int) < 7 by decide)
  have b1 := Int.tmod_lt_of_pos a1 (show (0 : Int) < 7 by decide)
  have b2 := Int.lt_tmod_of_pos a0 (show (0 : Int) < 7 by decide)
  have b3 := Int.lt_tmod_of_pos a1 (show (0 : Int) < 7 by decide)
  have HBD := Lib.hid (And.intro b0 (And.intro b1 (And.intro b2 b3)))
  clear b0 b1 b2 b3
  go_enter Try.func6, Try.ntmps6
  go_wp2_with fail
  refine (awake_any w).mono ?_
  rintro e wa ⟨rfl, hba⟩
  have HBA := Lib.hid hba
  clear hba
  go_upto_region 3 with fail
  refine wp_region_lit ?_
  refine tiny_run (N := 66) 14 13 15 16 17 5 6 7 rfl rfl rfl rfl rfl rfl rfl rfl rfl rfl rfl rfl rfl rfl rfl rfl rfl rfl rfl rfl rfl rfl rfl rfl rfl rfl rfl rfl rfl rfl rfl rfl rfl rfl (by decide) (by decide) ?_
  intro w1 hb1
  have HN := Lib.hid (Tn.new (HBA.out.trans (hb1.mono HBA.out.size)))
  obtain ⟨n, hn⟩ : ∃ n, w1.heap.size = n := ⟨_, rfl⟩
  obtain ⟨w4, hw4⟩ : ∃ w4, tnW w1 = w4 := ⟨_, rfl⟩
  rw [hw4, hn] at HN ⊢
  clear hw4 hb1 hn HBA
  have c0 := HN.out.k3.cell 0
  have f0 := HN.out.k3.frozen 0
  have c1 := HN.out.k3.cell 1
  have f1 := HN.out.k3.frozen 1
  simp [hdV, tH, Hd.zero] at c0 c1
  go_upto_region 6 with fail
  obtain ⟨F, hF⟩ : ∃ A, a0.tmod 7 = A := ⟨_, rfl⟩
  obtain ⟨C, hC⟩ : ∃ A, a1.tmod 7 = A := ⟨_, rfl⟩
  rw [hF, hC] at HBD ⊢
  obtain ⟨d0, d1, d2, d3⟩ := HBD.out
  obtain ⟨w8, hw8⟩ : ∃ w8, (w4.setCell ⟨n + 1 + 1, 0, none⟩ (.int .i64 F)).setCell ⟨n + 1 + 1, 1, none⟩ (.int .i64 C) = w8 := ⟨_, rfl⟩
  have hN8 : Tn w w8 n tS tP (pH F C) Ha.zero := hw8 ▸ ((HN.out.hset (h' := { tH with first := F }) (q' := Ha.zero) 0 (.int .i64 F) rfl).hset (h' := pH F C) (q' := Ha.zero) 1 (.int .i64 C) rfl)
  rw [hw8]
  have HN8 := Lib.hid hN8
  clear c0 c1 f0 f1 hF hC hw8 hN8 HN HBD
  have hM := place_law F C
  obtain ⟨R, hR⟩ : ∃ R, (decide (0 ≤ F) && decide (1 ≤ C) && decide (F + C ≤ 4)) = R := ⟨_, rfl⟩
  rw [hR] at hM
  have HM := Lib.hid hM
  have HRR := Lib.hid hR
  have HC := Lib.hid (fun w => hM ▸ mayhd_any (pH F C) Ha.zero tS none 0 tP 0 false w ⟨RwAt.nil _ _ _ _ _, RwAt.nil _ _ _ _ _, RwAt.nil _ _ _ _ _, RwAt.nil _ _ _ _ _, RwAt.nil _ _ _ _ _⟩ ⟨Nat.zero_le _, Nat.zero_le _, Nat.zero_le _, Nat.zero_le _, Nat.zero_le _⟩ (Rd.zero w w.heap.size none _ : Rd w w.heap.size none 0 _) (by decide))
  clear hM hR
  have c0 := HN8.out.k3.cell 0
  have c1 := HN8.out.k3.cell 1
  simp [hdV, pH] at c0 c1
  go_cut [8] (fun s_ wx => s_ = .bool R ∧ w8 = wx)
  case first =>
    by_cases p1 : 0 ≤ F
    · by_cases p2 : 1 ≤ C
      · by_cases p3 : F + C ≤ 4
        · have hRt : R = true := by rw [← HRR.out]; simp [p1, p2, p3]
          go_wp2_with fail
          go_meet
          exact ⟨by rw [hRt], rfl⟩
        · have hRt : R = false := by rw [← HRR.out]; simp [p3]
          go_wp2_with fail
          go_meet
          exact ⟨by rw [hRt], rfl⟩
      · have hRt : R = false := by rw [← HRR.out]; simp [p2]
        go_wp2_with fail
        go_meet
        exact ⟨by rw [hRt], rfl⟩
    · have hRt : R = false := by rw [← HRR.out]; simp [p1]
      go_wp2_with fail
      go_meet
      exact ⟨by rw [hRt], rfl⟩
  case rest =>
    obtain ⟨rfl, rfl⟩ := hcut
    clear HRR c0 c1
    cases R
    · skip
      go_wp2_with fail
      refine (new_any w8).mono ?_
      rintro e w9 ⟨rfl, hw9⟩
      have hng : n + 1 + 1 < w8.heap.size := HN8.out.k3.lt
      have hwr : Wr w9 w8.heap.size w8.heap.size (.slice none 0 0) [] := hw9 ▸ Wr.new w8 w8.heap.size
      have HN9 := Lib.hid (HN8.out.go (hw9 ▸ (Below.refl w8.heap.size w8).alloc (Nat.le_refl _) _ : Below w8.heap.size w8 w9))
      have hsz9 : w8.heap.size ≤ w9.heap.size := by rw [← hw9]; simp
      obtain ⟨g, hg⟩ : ∃ g, w8.heap.size = g := ⟨_, rfl⟩
      rw [hg] at hwr hsz9 hng ⊢
      clear hw9 hg HN8
      go_upto_region 8 with fail
      refine wp_region_lit ?_
      refine wpl_val rfl (run_move rfl rfl) ?_
      refine wpl_val rfl (run_load_row rfl rfl (load_head HN9.out.k3)) ?_
      refine wpl_val rfl (run_load_row rfl rfl (load_sps HN9.out.k1)) ?_
      refine wpl_val rfl (run_load_row rfl rfl (load_pps HN9.out.k2)) ?_
      refine wpl_call rfl (f := 13) (args := #[.pointer (some ⟨g, 0, none⟩), .agg (hdV (pH F C) Ha.zero), .agg (spV tS none 0), .agg (ppV tP), .int .i64 0, .bool false]) (by kernel_rfl) ?_
      refine (put_no (w := w9) (pH F C) Ha.zero tS none 0 tP 0 false ⟨RwAt.nil _ _ _ _ _, RwAt.nil _ _ _ _ _, RwAt.nil _ _ _ _ _, RwAt.nil _ _ _ _ _, RwAt.nil _ _ _ _ _⟩ ⟨Nat.zero_le _, Nat.zero_le _, Nat.zero_le _, Nat.zero_le _, Nat.zero_le _⟩ (Rd.zero w9 w9.heap.size none _ : Rd w9 w9.heap.size none 0 _) (by decide) ⟨g, 0, none⟩ HM.out).mono ?_
      rintro e w10 ⟨rfl, hb⟩
      refine ⟨_, rfl, ?_⟩
      have HN10 := Lib.hid (HN9.out.go hb)
      have hwr10 := hwr.go hb
      obtain ⟨L, hL⟩ : ∃ L : List Bool, [] = L := ⟨_, rfl⟩
      have hL0 : L.length = 0 := by rw [← hL]; rfl
      rw [hL] at hwr10
      have HW := Lib.hid hwr10
      clear hwr hsz9 hng HN9 hwr10 hL
      go_upto_region 9 with fail
      refine wp_region_lit ?_
      refine wpl_val rfl (run_load_row rfl rfl (load_head HN10.out.k3)) ?_
      refine wpl_val rfl (run_load_row rfl rfl (load_sps HN10.out.k1)) ?_
      refine wpl_val rfl (run_load_row rfl rfl (load_pps HN10.out.k2)) ?_
      refine wpl_call rfl (f := 10) (args := #[.agg (hdV (pH F C) Ha.zero), .agg (spV tS none 0), .agg (ppV tP), .int .i64 0, .bool false]) (by kernel_rfl) ?_
      refine (HC.out w10).mono ?_
      rintro e w11 ⟨rfl, hb⟩
      refine ⟨_, rfl, ?_⟩
      have HN11 := Lib.hid (HN10.out.go hb)
      replace HW := Lib.hid (HW.out.go hb)
      have HLN := Lib.hid (wlen_any _ _ _ _ w11 HW.out)
      clear hb HN10
      obtain ⟨K, hK⟩ : ∃ K, L.length = K := ⟨_, rfl⟩
      rw [hK] at HLN hL0
      clear hK HW
      go_wp2_with (first | (go_at_call 11; refine (num_any _ _).mono ?_; rintro e w' ⟨rfl, rfl⟩) | (go_at_call 14; refine HLN.out.mono ?_; rintro e w' ⟨rfl, rfl⟩))
      go_ret
      exact ⟨by first | rfl | (simp; omega), HN11.out.below⟩
    · skip
      go_wp2_with fail
      refine (new_any w8).mono ?_
      rintro e w9 ⟨rfl, hw9⟩
      have hng : n + 1 + 1 < w8.heap.size := HN8.out.k3.lt
      have hwr : Wr w9 w8.heap.size w8.heap.size (.slice none 0 0) [] := hw9 ▸ Wr.new w8 w8.heap.size
      have HN9 := Lib.hid (HN8.out.go (hw9 ▸ (Below.refl w8.heap.size w8).alloc (Nat.le_refl _) _ : Below w8.heap.size w8 w9))
      have hsz9 : w8.heap.size ≤ w9.heap.size := by rw [← hw9]; simp
      obtain ⟨g, hg⟩ : ∃ g, w8.heap.size = g := ⟨_, rfl⟩
      rw [hg] at hwr hsz9 hng ⊢
      clear hw9 hg HN8
      go_upto_region 8 with fail
      refine wp_region_lit ?_
      refine wpl_val rfl (run_move rfl rfl) ?_
      refine wpl_val rfl (run_load_row rfl rfl (load_head HN9.out.k3)) ?_
      refine wpl_val rfl (run_load_row rfl rfl (load_sps HN9.out.k1)) ?_
      refine wpl_val rfl (run_load_row rfl rfl (load_pps HN9.out.k2)) ?_
      refine wpl_call rfl (f := 13) (args := #[.pointer (some ⟨g, 0, none⟩), .agg (hdV (pH F C) Ha.zero), .agg (spV tS none 0), .agg (ppV tP), .int .i64 0, .bool false]) (by kernel_rfl) ?_
      refine (put_yes (g := g) (w := w9) (pH F C) Ha.zero tS none 0 tP 0 false ⟨RwAt.nil _ _ _ _ _, RwAt.nil _ _ _ _ _, RwAt.nil _ _ _ _ _, RwAt.nil _ _ _ _ _, RwAt.nil _ _ _ _ _⟩ ⟨Nat.zero_le _, Nat.zero_le _, Nat.zero_le _, Nat.zero_le _, Nat.zero_le _⟩ (Rd.zero w9 w9.heap.size none _ : Rd w9 w9.heap.size none 0 _) (by decide) g (.slice none 0 0) [] hwr hsz9 (by simp) HM.out (fun A hA ad e => by rcases hA with rfl | rfl | rfl | rfl | rfl <;> cases e)).mono ?_
      rintro e w10 ⟨rfl, v', hwr10, ht, hn⟩
      refine ⟨_, rfl, ?_⟩
      have HN10 := Lib.hid (HN9.out.touch ht hng rfl)
      obtain ⟨L, hL⟩ : ∃ L, [] ++ hdL (pH F C) tS tP 0 false = L := ⟨_, rfl⟩
      have hL0 : 0 < L.length := by rw [← hL, List.nil_append]; exact hdL_pos _ _ _ _ _
      rw [hL] at hwr10
      have HW := Lib.hid hwr10
      clear hwr hsz9 hng HN9 hwr10 hL
      go_upto_region 9 with fail
      refine wp_region_lit ?_
      refine wpl_val rfl (run_load_row rfl rfl (load_head HN10.out.k3)) ?_
      refine wpl_val rfl (run_load_row rfl rfl (load_sps HN10.out.k1)) ?_
      refine wpl_val rfl (run_load_row rfl rfl (load_pps HN10.out.k2)) ?_
      refine wpl_call rfl (f := 10) (args := #[.agg (hdV (pH F C) Ha.zero), .agg (spV tS none 0), .agg (ppV tP), .int .i64 0, .bool false]) (by kernel_rfl) ?_
      refine (HC.out w10).mono ?_
      rintro e w11 ⟨rfl, hb⟩
      refine ⟨_, rfl, ?_⟩
      have HN11 := Lib.hid (HN10.out.go hb)
      replace HW := Lib.hid (HW.out.go hb)
      have HLN := Lib.hid (wlen_any _ _ _ _ w11 HW.out)
      clear hb HN10
      obtain ⟨K, hK⟩ : ∃ K, L.length = K := ⟨_, rfl⟩
      rw [hK] at HLN hL0
      clear hK HW
      go_wp2_with (first | (go_at_call 11; refine (num_any _ _).mono ?_; rintro e w' ⟨rfl, rfl⟩) | (go_at_call 14; refine HLN.out.mono ?_; rintro e w' ⟨rfl, rfl⟩))
      go_ret
      exact ⟨by first | rfl | (simp; omega), HN11.out.below⟩
end Go.Proofs.Ytjokibagciehlaa
