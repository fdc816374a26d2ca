/- The statement LevelsRange: the walk. -/
import Derived.Test.YtocooplmfkeepaaLevS
namespace Go.Proofs.Ytocooplmfkeepaa
open Go.RowKit
set_option linter.unusedVariables false
set_option linter.unusedSimpArgs false

theorem not_ws_none {g k : Nat} (h : k ≠ g) : ¬ WS g (.slice none 0 0) k := by
  rintro (q | q)
  · exact h q
  · simp [Value.ownBlock] at q
def oz (m : Nat) (x : Int) (j : Nat) : Int := if j = m then x else 0
theorem oz_ok (m k : Nat) (x : Int) (hm : m < k) : lvOk (oz m x) k = decide (-32767 ≤ x ∧ x ≤ 32767) := by
  rw [Bool.eq_iff_iff, lvOk_iff, decide_eq_true_iff]
  unfold oz
  constructor
  · intro h
    have := h m hm
    rw [if_pos rfl] at this
    exact this
  · intro h i hi
    split
    · exact h
    · omega

set_option maxRecDepth 100000 in
set_option maxHeartbeats 6400000 in
theorem walk_LevelsRange (a0 : Int) (a1 : Int) (w : World) (w_a0 : (Lit.int .i64 a0).wf = true) (w_a1 : (Lit.int .i64 a1).wf = true) :
    Calls Try.prog 7 #[.int .i64 a0, .int .i64 a1] w fun e w' => e = .returned (.bool true) ∧ Below w.heap.size w w' := by
  clear w_a0 w_a1
  have hu := u64_tmod_bd a1 20 (by omega)
  obtain ⟨k, hk⟩ : ∃ k : Nat, (IntKind.u64.wrap a1).tmod 20 = k := ⟨((IntKind.u64.wrap a1).tmod 20).toNat, by omega⟩
  have hk20 : k < 20 := by omega
  obtain ⟨i0, hi, hz0, hz1, hz2⟩ := info_parts int_info
  rcases Nat.eq_zero_or_pos k with hk0 | hk0
  · subst hk0
    go_enter Try.func7, Try.ntmps7
    go_wp2_with fail
    refine (awake_any _).mono ?_
    rintro e w1 ⟨rfl, hb1⟩
    have HB1 := Lib.hid hb1
    have hz1' := hb1.size
    have hmk : (Instr.makeSlice 22 (.int .i64 0) (.int .i64 0)).run Try.prog w1 = .ok (.slice (some ⟨w1.heap.size, 0, none⟩) 0 0) (w1.alloc (.cells (Array.replicate 0 (.int .i64 0)) 3)) := run_make_one (P := Try.prog) 22 3 i0 (.int .i64 0) Try.underlying22 hi hz0 hz1 rfl 0 (by omega) (by omega) w1
    have hb2 := (Below.refl w1.heap.size w1).alloc (Nat.le_refl _) (.cells (Array.replicate 0 (.int .i64 0)) 3)
    obtain ⟨W1, hW1⟩ : ∃ W1, W1 = w1.alloc (.cells (Array.replicate 0 (.int .i64 0)) 3) := ⟨_, rfl⟩
    rw [← hW1] at hmk hb2
    have HB2 := Lib.hid (HB1.out.trans (hb2.mono hz1'))
    have hzW := hb2.size
    clear hb1 hb2 hW1 hu hz0 hz1 hz2
    go_wp2_with fail
    clear hmk
    refine (st_new _).mono ?_
    rintro e w3 ⟨rfl, hw⟩
    have HW := Lib.hid hw
    clear hw
    have hf : Far w3 (WS W1.heap.size (.slice none 0 0)) (some ⟨w1.heap.size, 0, none⟩) 0 (fun _ => 0) := fun h => absurd h (by omega)
    have HF := Lib.hid hf
    clear hf
    go_wp2_with fail
    refine (st_lput HW.out (by omega) HF.out).mono ?_
    rintro e w4 ⟨rfl, ⟨v, hw⟩, _⟩
    rw [(lvE_no (z := fun _ => 0) (k := 0) (by decide)).1]
    rw [(lvE_no (z := fun _ => 0) (k := 0) (by decide)).2] at hw
    have HW := Lib.hid hw
    clear hw HF
    go_wp2_with (first | (go_at_call 15; refine (num_any _ _).mono ?_; rintro e w' ⟨rfl, rfl⟩) | (go_at_call 18; refine (st_len HW.out rfl).mono ?_; rintro e w' ⟨rfl, rfl⟩))
    go_ret
    exact ⟨rfl, HW.out.from HB2.out⟩
  · obtain ⟨m, hm⟩ : ∃ m, m = k / 2 := ⟨_, rfl⟩
    have hmk2 : (k : Int) / 2 = (m : Int) := by omega
    have hmlt : m < k := by omega
    have hmlt' : (m : Int) < (k : Int) := by omega
    have hm0 : (0 : Int) ≤ (m : Int) := Int.natCast_nonneg _
    have hk0' : (0 : Int) < (k : Int) := by omega
    have hok := oz_ok m k a0 hmlt
    have hways : (sizeOk k = false ∧ ((k : Int) != 4) = true ∧ ((k : Int) != 15) = true ∧ ((k : Int) != 16) = true) ∨ (sizeOk k = true ∧ (((k : Int) != 4) = false ∨ (((k : Int) != 4) = true ∧ ((k : Int) != 15) = false) ∨ (((k : Int) != 4) = true ∧ ((k : Int) != 15) = true ∧ ((k : Int) != 16) = false))) := by
      unfold sizeOk
      by_cases h4 : k = 4
      · right; subst h4; exact ⟨rfl, .inl rfl⟩
      · by_cases h15 : k = 15
        · right; subst h15; exact ⟨rfl, .inr (.inl ⟨rfl, rfl⟩)⟩
        · by_cases h16 : k = 16
          · right; subst h16; exact ⟨rfl, .inr (.inr ⟨rfl, rfl, rfl⟩)⟩
          · left
            simp [h4, h15, h16]
            omega
    have HOK := Lib.hid hok
    clear hok hm hu
    have hstart : ∀ w1 : World, ∃ W1 W2 : World, (Instr.makeSlice 22 (.int .i64 (k : Int)) (.int .i64 (k : Int))).run Try.prog w1 = .ok (.slice (some ⟨w1.heap.size, 0, none⟩) k k) W1 ∧ W1.cell? ⟨w1.heap.size, m, none⟩ = some (.int .i64 0) ∧ W1.frozen? ⟨w1.heap.size, m, none⟩ = false ∧ W2 = W1.setCell ⟨w1.heap.size, m, none⟩ (.int .i64 a0) ∧ Ar W2 w1.heap.size k (fun j => .int .i64 (oz m a0 j)) ∧ Below w1.heap.size w1 W2 := by
      intro w1
      have hmk := run_make_one (P := Try.prog) 22 3 i0 (.int .i64 0) Try.underlying22 hi hz0 hz1 rfl k (by rw [hz2]; omega) (by omega) w1
      have har := Ar.made w1 3 k (.int .i64 0)
      refine ⟨_, _, hmk, har.1 m hmlt, har.2.1 m, rfl, (har.set_ hmlt (.int .i64 a0)).congr fun j _ => ?_, ((Below.refl _ _).alloc (Nat.le_refl _) _).setCell (Nat.le_refl _) _⟩
      unfold oz
      split <;> rfl
    have HST := Lib.hid hstart
    clear hstart hi hz0 hz1 hz2
    rcases hways with ⟨hs, t1, t2, t3⟩ | ⟨hs, ht⟩
    · have HE := Lib.hid (lvE_no (z := oz m a0) (k := k) (by simp [hs]))
      clear hs
      go_enter Try.func7, Try.ntmps7
      go_wp2_with fail
      refine (awake_any _).mono ?_
      rintro e w1 ⟨rfl, hb1⟩
      obtain ⟨W1, W2, hmk, hc1, hf1, hW2, har, hb2⟩ := HST.out w1
      have HB2 := Lib.hid (hb1.trans (hb2.mono hb1.size))
      have HAR := Lib.hid har
      clear hb1 har hb2
      go_wp2_with fail
      rw [← hW2]
      clear hmk hc1 hf1 hW2
      refine (st_new _).mono ?_
      rintro e w3 ⟨rfl, hw⟩
      have hf : Far w3 (WS W2.heap.size (.slice none 0 0)) (some ⟨w1.heap.size, 0, none⟩) k (oz m a0) := (Far.of_ar HAR.out (not_ws_none (by have := HAR.out.2.2; omega))).go hw.2.2.1
      have HW := Lib.hid hw
      have HF := Lib.hid hf
      clear hw hf
      go_wp2_with fail
      refine (st_lput HW.out (by omega) HF.out).mono ?_
      rintro e w4 ⟨rfl, ⟨v, hw⟩, _⟩
      rw [HE.out.1]
      rw [HE.out.2] at hw
      have HW := Lib.hid hw
      clear hw HF
      go_wp2_with (first | (go_at_call 15; refine (num_any _ _).mono ?_; rintro e w' ⟨rfl, rfl⟩) | (go_at_call 18; refine (st_len HW.out rfl).mono ?_; rintro e w' ⟨rfl, rfl⟩))
      go_ret
      exact ⟨rfl, HW.out.from HB2.out⟩
    · rcases ht with t1 | ⟨t1, t2⟩ | ⟨t1, t2, t3⟩
      all_goals
        by_cases hr : -32767 ≤ a0 ∧ a0 ≤ 32767
        · have hlv : lvOk (oz m a0) k = true := by rw [HOK.out, decide_eq_true_iff]; exact hr
          obtain ⟨r1, r2⟩ := hr
          have r1' : ¬ a0 < -32767 := by omega
          have r2' : ¬ 32767 < a0 := by omega
          have HE := Lib.hid (lvE_yes hs hlv)
          have HS := Lib.hid hs
          have HLV := Lib.hid hlv
          clear hs hlv
          go_enter Try.func7, Try.ntmps7
          go_wp2_with fail
          refine (awake_any _).mono ?_
          rintro e w1 ⟨rfl, hb1⟩
          obtain ⟨W1, W2, hmk, hc1, hf1, hW2, har, hb2⟩ := HST.out w1
          have HB2 := Lib.hid (hb1.trans (hb2.mono hb1.size))
          have HAR := Lib.hid har
          clear hb1 har hb2
          go_wp2_with fail
          rw [← hW2]
          clear hmk hc1 hf1 hW2
          refine (st_new _).mono ?_
          rintro e w3 ⟨rfl, hw⟩
          have hf : Far w3 (WS W2.heap.size (.slice none 0 0)) (some ⟨w1.heap.size, 0, none⟩) k (oz m a0) := (Far.of_ar HAR.out (not_ws_none (by have := HAR.out.2.2; omega))).go hw.2.2.1
          have HW := Lib.hid hw
          have HF := Lib.hid hf
          clear hw hf
          go_wp2_with fail
          refine (st_lput HW.out (by omega) HF.out).mono ?_
          rintro e w4 ⟨rfl, _, hkeep⟩
          obtain ⟨v, hw, hfk⟩ := hkeep _ _ _ HF.out
          rw [HE.out.1]
          rw [HE.out.2, List.nil_append] at hw
          have hbk := getB_of (a := 0) HS.out HLV.out (Lies.packed (lvPut (oz m a0) k))
          have hps : (packS (lvPut (oz m a0) k)).size ≤ 300 := by
            have := lvB_len (oz m a0) k
            rw [HE.out.2] at this
            rw [packS_size]
            omega
          have HW := Lib.hid hw
          have HF := Lib.hid hfk
          clear hw hfk hkeep
          obtain ⟨B, hB⟩ : ∃ B, B = lvPut (oz m a0) k := ⟨_, rfl⟩
          rw [← hB] at hbk hps HW
          have HBK := Lib.hid hbk
          clear hbk hB
          go_wp2_with fail
          refine (st_bytes HW.out rfl).mono ?_
          rintro e w' ⟨rfl, rfl⟩
          have hbk := HBK.out
          generalize packS B = S at hbk hps ⊢
          obtain ⟨z', hab, hzz⟩ := hbk
          have HAB := Lib.hid hab
          have HZZ := Lib.hid hzz
          clear hab hzz HBK
          go_wp2_with fail
          refine (st_open S _).mono ?_
          rintro e w5 ⟨rfl, hr⟩
          have HR := Lib.hid hr
          clear hr
          go_wp2_with fail
          refine (st_lget HR.out (by omega) (Nat.zero_le _) k).mono ?_
          rintro e w6 hg
          rcases hg with ⟨k2, z2, b, hk2, hks, hgb, hb, ⟨O, rfl, hO, har⟩, hr⟩ | ⟨c, _, _, hbad⟩
          · obtain rfl : k = k2 := by omega
            rw [HAB.out] at hgb
            injection hgb with hgb
            injection hgb with hz _
            subst hz
            have hfin := (HF.out.go hr.2.2).ri
            have hsame := fun c d => same_yes (some ⟨O, 0, none⟩) (some ⟨w1.heap.size, 0, none⟩) k c d z' (oz m a0) w6 har.rd hfin (by omega) HZZ.out
            have hend := (HW.out.go hr.2.2).from HB2.out
            have HSAME := Lib.hid hsame
            have HEND := Lib.hid hend
            clear hfin hsame hend har hr hb hO hks hk2
            go_wp2_with (first | (go_at_call 15; refine (num_any _ _).mono ?_; rintro e w' ⟨rfl, rfl⟩) | (go_at_call 27; refine (HSAME.out _ _).mono ?_; rintro e w7 ⟨rfl, hb7⟩))
            go_ret
            exact ⟨rfl, HEND.out.trans (hb7.mono HEND.out.size)⟩
          · exfalso
            rcases hbad with ⟨h1, _⟩ | ⟨k2, hk2, _, he⟩
            · rw [sizeI_nat, HS.out] at h1
              cases h1
            · obtain rfl : k = k2 := by omega
              rw [HAB.out] at he
              cases he
        · have hlv : ¬ lvOk (oz m a0) k = true := by rw [HOK.out, decide_eq_true_iff]; exact hr
          have hrr : a0 < -32767 ∨ (¬ a0 < -32767 ∧ 32767 < a0) := by omega
          have HE := Lib.hid (lvE_far hs hlv)
          clear hs hlv hr
          rcases hrr with r1 | ⟨r1, r2⟩
          all_goals
            go_enter Try.func7, Try.ntmps7
            go_wp2_with fail
            refine (awake_any _).mono ?_
            rintro e w1 ⟨rfl, hb1⟩
            obtain ⟨W1, W2, hmk, hc1, hf1, hW2, har, hb2⟩ := HST.out w1
            have HB2 := Lib.hid (hb1.trans (hb2.mono hb1.size))
            have HAR := Lib.hid har
            clear hb1 har hb2
            go_wp2_with fail
            rw [← hW2]
            clear hmk hc1 hf1 hW2
            refine (st_new _).mono ?_
            rintro e w3 ⟨rfl, hw⟩
            have hf : Far w3 (WS W2.heap.size (.slice none 0 0)) (some ⟨w1.heap.size, 0, none⟩) k (oz m a0) := (Far.of_ar HAR.out (not_ws_none (by have := HAR.out.2.2; omega))).go hw.2.2.1
            have HW := Lib.hid hw
            have HF := Lib.hid hf
            clear hw hf
            go_wp2_with fail
            refine (st_lput HW.out (by omega) HF.out).mono ?_
            rintro e w4 ⟨rfl, ⟨v, hw⟩, _⟩
            rw [HE.out.1]
            rw [HE.out.2] at hw
            have HW := Lib.hid hw
            clear hw HF
            go_wp2_with (first | (go_at_call 15; refine (num_any _ _).mono ?_; rintro e w' ⟨rfl, rfl⟩) | (go_at_call 18; refine (st_len HW.out rfl).mono ?_; rintro e w' ⟨rfl, rfl⟩))
            go_ret
            exact ⟨rfl, HW.out.from HB2.out⟩
end Go.Proofs.Ytocooplmfkeepaa
