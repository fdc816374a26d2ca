/- The statement LevelsOnes: the plain part and the walk. -/
import Derived.Test.YtocooplmfkeepaaLawA
namespace Go.Proofs.Ytocooplmfkeepaa
open Go.RowKit
set_option linter.unusedVariables false
set_option linter.unusedSimpArgs false

theorem atL_oz (m : Nat) (x : Int) (hx : x ≠ 0) : ∀ k, atL (oz m x) k = if m < k then [m] else []
  | 0 => by simp [atL]
  | k + 1 => by
    unfold atL
    have ih := atL_oz m x hx k
    by_cases h : k = m
    · subst h
      rw [if_neg (by unfold oz; rw [if_pos rfl]; exact hx), ih, if_neg (by omega), if_pos (by omega)]
    · rw [if_pos (by unfold oz; rw [if_neg h]), ih]
      by_cases h2 : m < k
      · rw [if_pos h2, if_pos (by omega)]
      · rw [if_neg h2, if_neg (by omega)]
theorem lvPut_one (m k : Nat) (x : Int) (hm : m < k) (hx : x = 1 ∨ x = -1) (hk : 1 < k) : lvPut (oz m x) k = teL 1 k ++ teL 1 1 ++ dig (if x = -1 then 1 else 0) 1 ++ teL m (k - 1) := by
  have h0 : x ≠ 0 := by omega
  have hl : atL (oz m x) k = [m] := by rw [atL_oz m x h0 k, if_pos hm]
  have hz : oz m x m = x := by unfold oz; rw [if_pos rfl]
  have ho : lvOnes (oz m x) [m] = 1 := by
    unfold lvOnes
    show onesN (oz m x) 1 [m] = 1
    unfold onesN
    rw [hz, if_pos (by unfold isOne; rw [decide_eq_true_iff]; exact hx)]
    rfl
  unfold lvPut
  rw [hl, ho]
  have e1 : lvL (oz m x) 1 0 [m] = dig (if x = -1 then 1 else 0) 1 := by
    show oneL 1 0 (oz m x m) ++ [] = _
    rw [hz]
    unfold oneL
    rcases hx with h | h <;> subst h <;> decide
  have e2 : lvLeft [m] = m := by simp [lvLeft]
  have e3 : teZ m (k - 1) = teL m (k - 1) := if_neg (by omega)
  show teL 1 k ++ (if ([m] : List Nat).length = 0 then [] else _) = _
  rw [if_neg (by simp), e1, e2]
  show teL 1 k ++ (teL 1 (min 3 1) ++ dig _ 1 ++ teZ m (k - 1) ++ []) = _
  rw [e3, List.append_nil]
  simp only [List.append_assoc]
  rfl

theorem made_one_at (k m : Nat) (K : Int) (hK : K = (k : Int)) (hmlt : m < k) (hk : k ≤ 100) (w1 : World) : ∃ W1 W2 W3 : World, (Instr.makeSlice 22 (.int .i64 K) (.int .i64 K)).run Try.prog w1 = .ok (.slice (some ⟨w1.heap.size, 0, none⟩) k k) W1 ∧ W1.cell? ⟨w1.heap.size, m, none⟩ = some (.int .i64 0) ∧ W1.frozen? ⟨w1.heap.size, m, none⟩ = false ∧
    W2 = W1.setCell ⟨w1.heap.size, m, none⟩ (.int .i64 1) ∧ Ar W2 w1.heap.size k (fun j => .int .i64 (oz m 1 j)) ∧ Below w1.heap.size w1 W2 ∧ W2.cell? ⟨w1.heap.size, m, none⟩ = some (.int .i64 1) ∧ W2.frozen? ⟨w1.heap.size, m, none⟩ = false ∧
    W3 = W2.setCell ⟨w1.heap.size, m, none⟩ (.int .i64 (-1)) ∧ Ar W3 w1.heap.size k (fun j => .int .i64 (oz m (-1) j)) ∧ Below w1.heap.size w1 W3 := by
  subst hK
  obtain ⟨i0, hi, hz0, hz1, hz2⟩ := info_parts int_info
  have hmk := run_make_one (P := Try.prog) 22 3 i0 (.int .i64 0) Try.underlying22 hi hz0 hz1 rfl k (by rw [hz2]; omega) (by omega) w1
  have har := Ar.made w1 3 k (.int .i64 0)
  have har2 : Ar ((w1.alloc (.cells (Array.replicate k (.int .i64 0)) 3)).setCell ⟨w1.heap.size, m, none⟩ (.int .i64 1)) w1.heap.size k (fun j => .int .i64 (oz m 1 j)) := (har.set_ hmlt (.int .i64 1)).congr fun j _ => by
    unfold oz
    split <;> rfl
  have hb := (Below.refl w1.heap.size w1).alloc (Nat.le_refl _) (.cells (Array.replicate k (.int .i64 0)) 3)
  have hc := har2.1 m hmlt
  simp only [oz, if_true] at hc
  refine ⟨_, _, _, hmk, har.1 m hmlt, har.2.1 m, rfl, har2, hb.setCell (Nat.le_refl _) _, hc, har2.2.1 m, rfl, (har2.set_ hmlt (.int .i64 (-1))).congr fun j _ => ?_, (hb.setCell (Nat.le_refl _) _).setCell (Nat.le_refl _) _⟩
  unfold oz
  split <;> rfl

set_option maxRecDepth 100000 in
set_option maxHeartbeats 6400000 in
theorem walk_LevelsOnes (a0 : Int) (a1 : Int) (a2 : Bool) (w : World) (w_a0 : (Lit.int .i64 a0).wf = true) (w_a1 : (Lit.int .i64 a1).wf = true) :
    Calls Try.prog 5 #[.int .i64 a0, .int .i64 a1, .bool a2] w fun e w' => e = .returned (.bool true) ∧ Below w.heap.size w w' := by
  clear w_a0 w_a1
  have hu := u64_tmod_bd a0 3 (by omega)
  obtain ⟨q, hq⟩ : ∃ q : Nat, (IntKind.u64.wrap a0).tmod 3 = q := ⟨((IntKind.u64.wrap a0).tmod 3).toNat, by omega⟩
  have hq3 : q = 0 ∨ q = 1 ∨ q = 2 := by omega
  obtain ⟨i0, hi, hz0, hz1, hz2⟩ := info_parts int_info
  clear hu
  rcases hq3 with rfl | rfl | rfl
  · have hv := u64_tmod_bd a1 4 (by omega)
    obtain ⟨m, hm⟩ : ∃ m : Nat, (IntKind.u64.wrap a1).tmod 4 = m := ⟨((IntKind.u64.wrap a1).tmod 4).toNat, by omega⟩
    have hmlt : m < 4 := by omega
    have hmlt' : (m : Int) < 4 := by omega
    have hm0 : (0 : Int) ≤ (m : Int) := Int.natCast_nonneg _
    have HST := Lib.hid (made_one_at 4 m 4 rfl hmlt (by omega))
    clear hv
    rcases a2 with _ | _
    · have hlv : lvB (oz m (1)) 4 = lvPut (oz m (1)) 4 := (lvE_yes (by decide) (by rw [oz_ok m _ _ hmlt]; decide)).2
      have hle : lvE (oz m (1)) 4 = 0 := (lvE_yes (by decide) (by rw [oz_ok m _ _ hmlt]; decide)).1
      have heq : [] ++ lvB (oz m (1)) 4 = [] ++ teL (1 : Int).toNat (4 : Int).toNat ++ teL (1 : Int).toNat (1 : Int).toNat ++ dig (0 : Int).toNat (1 : Int).toNat ++ teL (m : Int).toNat (3 : Int).toNat := by
        rw [hlv, lvPut_one m _ _ hmlt (by decide) (by decide)]
        rfl
      have HEQ := Lib.hid heq
      have HLE := Lib.hid hle
      clear hlv hle heq
      go_enter Try.func5, Try.ntmps5
      go_wp2_with fail
      refine (awake_any _).mono ?_
      rintro e w1 ⟨rfl, hb1⟩
      have hb1a := hb1.alloc hb1.size (.cells #[.int .i64 4, .int .i64 15, .int .i64 16] 3)
      obtain ⟨W1, W2, W3, hmk, hc1, hf1, hW2, har2, hb2, hc2, hf2, hW3, har3, hb3⟩ := HST.out (w1.alloc (.cells #[.int .i64 4, .int .i64 15, .int .i64 16] 3))
      have HB2 := Lib.hid (hb1a.trans (hb2.mono hb1a.size))
      have HAR := Lib.hid har2
      clear hb1 hb1a har2 hb2 har3 hb3
      simp only [World.size_alloc] at hmk hc1 hf1 hW2 hc2 hf2 hW3 HAR
      go_wp2_with fail
      try rw [← hW2]
      clear hmk hc1 hf1 hW2 hc2 hf2 hW3
      refine (st_new _).mono ?_
      rintro e w3 ⟨rfl, hw⟩
      have hf : Far w3 (WS W2.heap.size (.slice none 0 0)) (some ⟨w1.heap.size + 1, 0, none⟩) 4 (oz m (1)) := (Far.of_ar HAR.out (not_ws_none (by have := HAR.out.2.2; omega))).go hw.2.2.1
      have HW := Lib.hid hw
      have HF := Lib.hid hf
      clear hw hf
      go_wp2_with fail
      refine (st_lput HW.out (by omega) HF.out).mono ?_
      rintro e w4 ⟨rfl, ⟨v, hw⟩, _⟩
      rw [HLE.out]
      have HW1 := Lib.hid hw
      clear hw HF HW
      go_wp2_with fail
      refine (st_new _).mono ?_
      rintro e w5 ⟨rfl, hw⟩
      have HW := Lib.hid hw
      clear hw
      go_wp2_with fail
      refine (st_te HW.out (by omega) 1 4 (by omega) (by omega) (by omega) (by omega)).mono ?_
      rintro e w6 ⟨rfl, v2, hw⟩
      have HW := Lib.hid hw
      clear hw
      go_wp2_with fail
      refine (st_te HW.out (by omega) 1 1 (by omega) (by omega) (by omega) (by omega)).mono ?_
      rintro e w7 ⟨rfl, v3, hw⟩
      have HW := Lib.hid hw
      clear hw
      go_wp2_with fail
      refine (st_bits HW.out (by omega) 0 1 (by omega) (by omega) (by omega) (by decide)).mono ?_
      rintro e w8 ⟨rfl, v4, hw⟩
      have HW := Lib.hid hw
      clear hw
      go_wp2_with fail
      refine (st_te HW.out (by omega) m 3 (by omega) (by omega) (by omega) (by omega)).mono ?_
      rintro e w9 ⟨rfl, v5, hw⟩
      rw [← HEQ.out] at hw
      have hw1 := HW1.out.go hw.2.2.1
      clear HW1 HEQ
      generalize [] ++ lvB (oz m (1)) 4 = B at hw hw1
      have hend := hw1.from HB2.out
      have HW := Lib.hid hw
      have HW1 := Lib.hid hw1
      have HEND := Lib.hid hend
      clear hw hw1 hend
      go_wp2_with fail
      refine (num_any _ _).mono ?_
      rintro e w' ⟨rfl, rfl⟩
      go_wp2_with fail
      refine (st_len HW1.out rfl).mono ?_
      rintro e w' ⟨rfl, rfl⟩
      go_wp2_with fail
      refine (st_len HW.out rfl).mono ?_
      rintro e w' ⟨rfl, rfl⟩
      go_wp2_with fail
      refine (st_bytes HW1.out rfl).mono ?_
      rintro e w' ⟨rfl, rfl⟩
      go_wp2_with fail
      refine (st_bytes HW.out rfl).mono ?_
      rintro e w' ⟨rfl, rfl⟩
      generalize packS B = S
      go_wp2_with fail
      go_ret
      exact ⟨rfl, HEND.out⟩
    · have hlv : lvB (oz m (-1)) 4 = lvPut (oz m (-1)) 4 := (lvE_yes (by decide) (by rw [oz_ok m _ _ hmlt]; decide)).2
      have hle : lvE (oz m (-1)) 4 = 0 := (lvE_yes (by decide) (by rw [oz_ok m _ _ hmlt]; decide)).1
      have heq : [] ++ lvB (oz m (-1)) 4 = [] ++ teL (1 : Int).toNat (4 : Int).toNat ++ teL (1 : Int).toNat (1 : Int).toNat ++ dig (1 : Int).toNat (1 : Int).toNat ++ teL (m : Int).toNat (3 : Int).toNat := by
        rw [hlv, lvPut_one m _ _ hmlt (by decide) (by decide)]
        rfl
      have HEQ := Lib.hid heq
      have HLE := Lib.hid hle
      clear hlv hle heq
      go_enter Try.func5, Try.ntmps5
      go_wp2_with fail
      refine (awake_any _).mono ?_
      rintro e w1 ⟨rfl, hb1⟩
      have hb1a := hb1.alloc hb1.size (.cells #[.int .i64 4, .int .i64 15, .int .i64 16] 3)
      obtain ⟨W1, W2, W3, hmk, hc1, hf1, hW2, har2, hb2, hc2, hf2, hW3, har3, hb3⟩ := HST.out (w1.alloc (.cells #[.int .i64 4, .int .i64 15, .int .i64 16] 3))
      have HB2 := Lib.hid (hb1a.trans (hb3.mono hb1a.size))
      have HAR := Lib.hid har3
      clear hb1 hb1a har2 hb2 har3 hb3
      simp only [World.size_alloc] at hmk hc1 hf1 hW2 hc2 hf2 hW3 HAR
      go_wp2_with fail
      first | rw [← hW3] | rw [← hW2, ← hW3]
      clear hmk hc1 hf1 hW2 hc2 hf2 hW3
      refine (st_new _).mono ?_
      rintro e w3 ⟨rfl, hw⟩
      have hf : Far w3 (WS W3.heap.size (.slice none 0 0)) (some ⟨w1.heap.size + 1, 0, none⟩) 4 (oz m (-1)) := (Far.of_ar HAR.out (not_ws_none (by have := HAR.out.2.2; omega))).go hw.2.2.1
      have HW := Lib.hid hw
      have HF := Lib.hid hf
      clear hw hf
      go_wp2_with fail
      refine (st_lput HW.out (by omega) HF.out).mono ?_
      rintro e w4 ⟨rfl, ⟨v, hw⟩, _⟩
      rw [HLE.out]
      have HW1 := Lib.hid hw
      clear hw HF HW
      go_wp2_with fail
      refine (st_new _).mono ?_
      rintro e w5 ⟨rfl, hw⟩
      have HW := Lib.hid hw
      clear hw
      go_wp2_with fail
      refine (st_te HW.out (by omega) 1 4 (by omega) (by omega) (by omega) (by omega)).mono ?_
      rintro e w6 ⟨rfl, v2, hw⟩
      have HW := Lib.hid hw
      clear hw
      go_wp2_with fail
      refine (st_te HW.out (by omega) 1 1 (by omega) (by omega) (by omega) (by omega)).mono ?_
      rintro e w7 ⟨rfl, v3, hw⟩
      have HW := Lib.hid hw
      clear hw
      go_wp2_with fail
      refine (st_bits HW.out (by omega) 1 1 (by omega) (by omega) (by omega) (by decide)).mono ?_
      rintro e w8 ⟨rfl, v4, hw⟩
      have HW := Lib.hid hw
      clear hw
      go_wp2_with fail
      refine (st_te HW.out (by omega) m 3 (by omega) (by omega) (by omega) (by omega)).mono ?_
      rintro e w9 ⟨rfl, v5, hw⟩
      rw [← HEQ.out] at hw
      have hw1 := HW1.out.go hw.2.2.1
      clear HW1 HEQ
      generalize [] ++ lvB (oz m (-1)) 4 = B at hw hw1
      have hend := hw1.from HB2.out
      have HW := Lib.hid hw
      have HW1 := Lib.hid hw1
      have HEND := Lib.hid hend
      clear hw hw1 hend
      go_wp2_with fail
      refine (num_any _ _).mono ?_
      rintro e w' ⟨rfl, rfl⟩
      go_wp2_with fail
      refine (st_len HW1.out rfl).mono ?_
      rintro e w' ⟨rfl, rfl⟩
      go_wp2_with fail
      refine (st_len HW.out rfl).mono ?_
      rintro e w' ⟨rfl, rfl⟩
      go_wp2_with fail
      refine (st_bytes HW1.out rfl).mono ?_
      rintro e w' ⟨rfl, rfl⟩
      go_wp2_with fail
      refine (st_bytes HW.out rfl).mono ?_
      rintro e w' ⟨rfl, rfl⟩
      generalize packS B = S
      go_wp2_with fail
      go_ret
      exact ⟨rfl, HEND.out⟩
  · have hv := u64_tmod_bd a1 15 (by omega)
    obtain ⟨m, hm⟩ : ∃ m : Nat, (IntKind.u64.wrap a1).tmod 15 = m := ⟨((IntKind.u64.wrap a1).tmod 15).toNat, by omega⟩
    have hmlt : m < 15 := by omega
    have hmlt' : (m : Int) < 15 := by omega
    have hm0 : (0 : Int) ≤ (m : Int) := Int.natCast_nonneg _
    have HST := Lib.hid (made_one_at 15 m 15 rfl hmlt (by omega))
    clear hv
    rcases a2 with _ | _
    · have hlv : lvB (oz m (1)) 15 = lvPut (oz m (1)) 15 := (lvE_yes (by decide) (by rw [oz_ok m _ _ hmlt]; decide)).2
      have hle : lvE (oz m (1)) 15 = 0 := (lvE_yes (by decide) (by rw [oz_ok m _ _ hmlt]; decide)).1
      have heq : [] ++ lvB (oz m (1)) 15 = [] ++ teL (1 : Int).toNat (15 : Int).toNat ++ teL (1 : Int).toNat (1 : Int).toNat ++ dig (0 : Int).toNat (1 : Int).toNat ++ teL (m : Int).toNat (14 : Int).toNat := by
        rw [hlv, lvPut_one m _ _ hmlt (by decide) (by decide)]
        rfl
      have HEQ := Lib.hid heq
      have HLE := Lib.hid hle
      clear hlv hle heq
      go_enter Try.func5, Try.ntmps5
      go_wp2_with fail
      refine (awake_any _).mono ?_
      rintro e w1 ⟨rfl, hb1⟩
      have hb1a := hb1.alloc hb1.size (.cells #[.int .i64 4, .int .i64 15, .int .i64 16] 3)
      obtain ⟨W1, W2, W3, hmk, hc1, hf1, hW2, har2, hb2, hc2, hf2, hW3, har3, hb3⟩ := HST.out (w1.alloc (.cells #[.int .i64 4, .int .i64 15, .int .i64 16] 3))
      have HB2 := Lib.hid (hb1a.trans (hb2.mono hb1a.size))
      have HAR := Lib.hid har2
      clear hb1 hb1a har2 hb2 har3 hb3
      simp only [World.size_alloc] at hmk hc1 hf1 hW2 hc2 hf2 hW3 HAR
      go_wp2_with fail
      try rw [← hW2]
      clear hmk hc1 hf1 hW2 hc2 hf2 hW3
      refine (st_new _).mono ?_
      rintro e w3 ⟨rfl, hw⟩
      have hf : Far w3 (WS W2.heap.size (.slice none 0 0)) (some ⟨w1.heap.size + 1, 0, none⟩) 15 (oz m (1)) := (Far.of_ar HAR.out (not_ws_none (by have := HAR.out.2.2; omega))).go hw.2.2.1
      have HW := Lib.hid hw
      have HF := Lib.hid hf
      clear hw hf
      go_wp2_with fail
      refine (st_lput HW.out (by omega) HF.out).mono ?_
      rintro e w4 ⟨rfl, ⟨v, hw⟩, _⟩
      rw [HLE.out]
      have HW1 := Lib.hid hw
      clear hw HF HW
      go_wp2_with fail
      refine (st_new _).mono ?_
      rintro e w5 ⟨rfl, hw⟩
      have HW := Lib.hid hw
      clear hw
      go_wp2_with fail
      refine (st_te HW.out (by omega) 1 15 (by omega) (by omega) (by omega) (by omega)).mono ?_
      rintro e w6 ⟨rfl, v2, hw⟩
      have HW := Lib.hid hw
      clear hw
      go_wp2_with fail
      refine (st_te HW.out (by omega) 1 1 (by omega) (by omega) (by omega) (by omega)).mono ?_
      rintro e w7 ⟨rfl, v3, hw⟩
      have HW := Lib.hid hw
      clear hw
      go_wp2_with fail
      refine (st_bits HW.out (by omega) 0 1 (by omega) (by omega) (by omega) (by decide)).mono ?_
      rintro e w8 ⟨rfl, v4, hw⟩
      have HW := Lib.hid hw
      clear hw
      go_wp2_with fail
      refine (st_te HW.out (by omega) m 14 (by omega) (by omega) (by omega) (by omega)).mono ?_
      rintro e w9 ⟨rfl, v5, hw⟩
      rw [← HEQ.out] at hw
      have hw1 := HW1.out.go hw.2.2.1
      clear HW1 HEQ
      generalize [] ++ lvB (oz m (1)) 15 = B at hw hw1
      have hend := hw1.from HB2.out
      have HW := Lib.hid hw
      have HW1 := Lib.hid hw1
      have HEND := Lib.hid hend
      clear hw hw1 hend
      go_wp2_with fail
      refine (num_any _ _).mono ?_
      rintro e w' ⟨rfl, rfl⟩
      go_wp2_with fail
      refine (st_len HW1.out rfl).mono ?_
      rintro e w' ⟨rfl, rfl⟩
      go_wp2_with fail
      refine (st_len HW.out rfl).mono ?_
      rintro e w' ⟨rfl, rfl⟩
      go_wp2_with fail
      refine (st_bytes HW1.out rfl).mono ?_
      rintro e w' ⟨rfl, rfl⟩
      go_wp2_with fail
      refine (st_bytes HW.out rfl).mono ?_
      rintro e w' ⟨rfl, rfl⟩
      generalize packS B = S
      go_wp2_with fail
      go_ret
      exact ⟨rfl, HEND.out⟩
    · have hlv : lvB (oz m (-1)) 15 = lvPut (oz m (-1)) 15 := (lvE_yes (by decide) (by rw [oz_ok m _ _ hmlt]; decide)).2
      have hle : lvE (oz m (-1)) 15 = 0 := (lvE_yes (by decide) (by rw [oz_ok m _ _ hmlt]; decide)).1
      have heq : [] ++ lvB (oz m (-1)) 15 = [] ++ teL (1 : Int).toNat (15 : Int).toNat ++ teL (1 : Int).toNat (1 : Int).toNat ++ dig (1 : Int).toNat (1 : Int).toNat ++ teL (m : Int).toNat (14 : Int).toNat := by
        rw [hlv, lvPut_one m _ _ hmlt (by decide) (by decide)]
        rfl
      have HEQ := Lib.hid heq
      have HLE := Lib.hid hle
      clear hlv hle heq
      go_enter Try.func5, Try.ntmps5
      go_wp2_with fail
      refine (awake_any _).mono ?_
      rintro e w1 ⟨rfl, hb1⟩
      have hb1a := hb1.alloc hb1.size (.cells #[.int .i64 4, .int .i64 15, .int .i64 16] 3)
      obtain ⟨W1, W2, W3, hmk, hc1, hf1, hW2, har2, hb2, hc2, hf2, hW3, har3, hb3⟩ := HST.out (w1.alloc (.cells #[.int .i64 4, .int .i64 15, .int .i64 16] 3))
      have HB2 := Lib.hid (hb1a.trans (hb3.mono hb1a.size))
      have HAR := Lib.hid har3
      clear hb1 hb1a har2 hb2 har3 hb3
      simp only [World.size_alloc] at hmk hc1 hf1 hW2 hc2 hf2 hW3 HAR
      go_wp2_with fail
      first | rw [← hW3] | rw [← hW2, ← hW3]
      clear hmk hc1 hf1 hW2 hc2 hf2 hW3
      refine (st_new _).mono ?_
      rintro e w3 ⟨rfl, hw⟩
      have hf : Far w3 (WS W3.heap.size (.slice none 0 0)) (some ⟨w1.heap.size + 1, 0, none⟩) 15 (oz m (-1)) := (Far.of_ar HAR.out (not_ws_none (by have := HAR.out.2.2; omega))).go hw.2.2.1
      have HW := Lib.hid hw
      have HF := Lib.hid hf
      clear hw hf
      go_wp2_with fail
      refine (st_lput HW.out (by omega) HF.out).mono ?_
      rintro e w4 ⟨rfl, ⟨v, hw⟩, _⟩
      rw [HLE.out]
      have HW1 := Lib.hid hw
      clear hw HF HW
      go_wp2_with fail
      refine (st_new _).mono ?_
      rintro e w5 ⟨rfl, hw⟩
      have HW := Lib.hid hw
      clear hw
      go_wp2_with fail
      refine (st_te HW.out (by omega) 1 15 (by omega) (by omega) (by omega) (by omega)).mono ?_
      rintro e w6 ⟨rfl, v2, hw⟩
      have HW := Lib.hid hw
      clear hw
      go_wp2_with fail
      refine (st_te HW.out (by omega) 1 1 (by omega) (by omega) (by omega) (by omega)).mono ?_
      rintro e w7 ⟨rfl, v3, hw⟩
      have HW := Lib.hid hw
      clear hw
      go_wp2_with fail
      refine (st_bits HW.out (by omega) 1 1 (by omega) (by omega) (by omega) (by decide)).mono ?_
      rintro e w8 ⟨rfl, v4, hw⟩
      have HW := Lib.hid hw
      clear hw
      go_wp2_with fail
      refine (st_te HW.out (by omega) m 14 (by omega) (by omega) (by omega) (by omega)).mono ?_
      rintro e w9 ⟨rfl, v5, hw⟩
      rw [← HEQ.out] at hw
      have hw1 := HW1.out.go hw.2.2.1
      clear HW1 HEQ
      generalize [] ++ lvB (oz m (-1)) 15 = B at hw hw1
      have hend := hw1.from HB2.out
      have HW := Lib.hid hw
      have HW1 := Lib.hid hw1
      have HEND := Lib.hid hend
      clear hw hw1 hend
      go_wp2_with fail
      refine (num_any _ _).mono ?_
      rintro e w' ⟨rfl, rfl⟩
      go_wp2_with fail
      refine (st_len HW1.out rfl).mono ?_
      rintro e w' ⟨rfl, rfl⟩
      go_wp2_with fail
      refine (st_len HW.out rfl).mono ?_
      rintro e w' ⟨rfl, rfl⟩
      go_wp2_with fail
      refine (st_bytes HW1.out rfl).mono ?_
      rintro e w' ⟨rfl, rfl⟩
      go_wp2_with fail
      refine (st_bytes HW.out rfl).mono ?_
      rintro e w' ⟨rfl, rfl⟩
      generalize packS B = S
      go_wp2_with fail
      go_ret
      exact ⟨rfl, HEND.out⟩
  · have hv := u64_tmod_bd a1 16 (by omega)
    obtain ⟨m, hm⟩ : ∃ m : Nat, (IntKind.u64.wrap a1).tmod 16 = m := ⟨((IntKind.u64.wrap a1).tmod 16).toNat, by omega⟩
    have hmlt : m < 16 := by omega
    have hmlt' : (m : Int) < 16 := by omega
    have hm0 : (0 : Int) ≤ (m : Int) := Int.natCast_nonneg _
    have HST := Lib.hid (made_one_at 16 m 16 rfl hmlt (by omega))
    clear hv
    rcases a2 with _ | _
    · have hlv : lvB (oz m (1)) 16 = lvPut (oz m (1)) 16 := (lvE_yes (by decide) (by rw [oz_ok m _ _ hmlt]; decide)).2
      have hle : lvE (oz m (1)) 16 = 0 := (lvE_yes (by decide) (by rw [oz_ok m _ _ hmlt]; decide)).1
      have heq : [] ++ lvB (oz m (1)) 16 = [] ++ teL (1 : Int).toNat (16 : Int).toNat ++ teL (1 : Int).toNat (1 : Int).toNat ++ dig (0 : Int).toNat (1 : Int).toNat ++ teL (m : Int).toNat (15 : Int).toNat := by
        rw [hlv, lvPut_one m _ _ hmlt (by decide) (by decide)]
        rfl
      have HEQ := Lib.hid heq
      have HLE := Lib.hid hle
      clear hlv hle heq
      go_enter Try.func5, Try.ntmps5
      go_wp2_with fail
      refine (awake_any _).mono ?_
      rintro e w1 ⟨rfl, hb1⟩
      have hb1a := hb1.alloc hb1.size (.cells #[.int .i64 4, .int .i64 15, .int .i64 16] 3)
      obtain ⟨W1, W2, W3, hmk, hc1, hf1, hW2, har2, hb2, hc2, hf2, hW3, har3, hb3⟩ := HST.out (w1.alloc (.cells #[.int .i64 4, .int .i64 15, .int .i64 16] 3))
      have HB2 := Lib.hid (hb1a.trans (hb2.mono hb1a.size))
      have HAR := Lib.hid har2
      clear hb1 hb1a har2 hb2 har3 hb3
      simp only [World.size_alloc] at hmk hc1 hf1 hW2 hc2 hf2 hW3 HAR
      go_wp2_with fail
      try rw [← hW2]
      clear hmk hc1 hf1 hW2 hc2 hf2 hW3
      refine (st_new _).mono ?_
      rintro e w3 ⟨rfl, hw⟩
      have hf : Far w3 (WS W2.heap.size (.slice none 0 0)) (some ⟨w1.heap.size + 1, 0, none⟩) 16 (oz m (1)) := (Far.of_ar HAR.out (not_ws_none (by have := HAR.out.2.2; omega))).go hw.2.2.1
      have HW := Lib.hid hw
      have HF := Lib.hid hf
      clear hw hf
      go_wp2_with fail
      refine (st_lput HW.out (by omega) HF.out).mono ?_
      rintro e w4 ⟨rfl, ⟨v, hw⟩, _⟩
      rw [HLE.out]
      have HW1 := Lib.hid hw
      clear hw HF HW
      go_wp2_with fail
      refine (st_new _).mono ?_
      rintro e w5 ⟨rfl, hw⟩
      have HW := Lib.hid hw
      clear hw
      go_wp2_with fail
      refine (st_te HW.out (by omega) 1 16 (by omega) (by omega) (by omega) (by omega)).mono ?_
      rintro e w6 ⟨rfl, v2, hw⟩
      have HW := Lib.hid hw
      clear hw
      go_wp2_with fail
      refine (st_te HW.out (by omega) 1 1 (by omega) (by omega) (by omega) (by omega)).mono ?_
      rintro e w7 ⟨rfl, v3, hw⟩
      have HW := Lib.hid hw
      clear hw
      go_wp2_with fail
      refine (st_bits HW.out (by omega) 0 1 (by omega) (by omega) (by omega) (by decide)).mono ?_
      rintro e w8 ⟨rfl, v4, hw⟩
      have HW := Lib.hid hw
      clear hw
      go_wp2_with fail
      refine (st_te HW.out (by omega) m 15 (by omega) (by omega) (by omega) (by omega)).mono ?_
      rintro e w9 ⟨rfl, v5, hw⟩
      rw [← HEQ.out] at hw
      have hw1 := HW1.out.go hw.2.2.1
      clear HW1 HEQ
      generalize [] ++ lvB (oz m (1)) 16 = B at hw hw1
      have hend := hw1.from HB2.out
      have HW := Lib.hid hw
      have HW1 := Lib.hid hw1
      have HEND := Lib.hid hend
      clear hw hw1 hend
      go_wp2_with fail
      refine (num_any _ _).mono ?_
      rintro e w' ⟨rfl, rfl⟩
      go_wp2_with fail
      refine (st_len HW1.out rfl).mono ?_
      rintro e w' ⟨rfl, rfl⟩
      go_wp2_with fail
      refine (st_len HW.out rfl).mono ?_
      rintro e w' ⟨rfl, rfl⟩
      go_wp2_with fail
      refine (st_bytes HW1.out rfl).mono ?_
      rintro e w' ⟨rfl, rfl⟩
      go_wp2_with fail
      refine (st_bytes HW.out rfl).mono ?_
      rintro e w' ⟨rfl, rfl⟩
      generalize packS B = S
      go_wp2_with fail
      go_ret
      exact ⟨rfl, HEND.out⟩
    · have hlv : lvB (oz m (-1)) 16 = lvPut (oz m (-1)) 16 := (lvE_yes (by decide) (by rw [oz_ok m _ _ hmlt]; decide)).2
      have hle : lvE (oz m (-1)) 16 = 0 := (lvE_yes (by decide) (by rw [oz_ok m _ _ hmlt]; decide)).1
      have heq : [] ++ lvB (oz m (-1)) 16 = [] ++ teL (1 : Int).toNat (16 : Int).toNat ++ teL (1 : Int).toNat (1 : Int).toNat ++ dig (1 : Int).toNat (1 : Int).toNat ++ teL (m : Int).toNat (15 : Int).toNat := by
        rw [hlv, lvPut_one m _ _ hmlt (by decide) (by decide)]
        rfl
      have HEQ := Lib.hid heq
      have HLE := Lib.hid hle
      clear hlv hle heq
      go_enter Try.func5, Try.ntmps5
      go_wp2_with fail
      refine (awake_any _).mono ?_
      rintro e w1 ⟨rfl, hb1⟩
      have hb1a := hb1.alloc hb1.size (.cells #[.int .i64 4, .int .i64 15, .int .i64 16] 3)
      obtain ⟨W1, W2, W3, hmk, hc1, hf1, hW2, har2, hb2, hc2, hf2, hW3, har3, hb3⟩ := HST.out (w1.alloc (.cells #[.int .i64 4, .int .i64 15, .int .i64 16] 3))
      have HB2 := Lib.hid (hb1a.trans (hb3.mono hb1a.size))
      have HAR := Lib.hid har3
      clear hb1 hb1a har2 hb2 har3 hb3
      simp only [World.size_alloc] at hmk hc1 hf1 hW2 hc2 hf2 hW3 HAR
      go_wp2_with fail
      first | rw [← hW3] | rw [← hW2, ← hW3]
      clear hmk hc1 hf1 hW2 hc2 hf2 hW3
      refine (st_new _).mono ?_
      rintro e w3 ⟨rfl, hw⟩
      have hf : Far w3 (WS W3.heap.size (.slice none 0 0)) (some ⟨w1.heap.size + 1, 0, none⟩) 16 (oz m (-1)) := (Far.of_ar HAR.out (not_ws_none (by have := HAR.out.2.2; omega))).go hw.2.2.1
      have HW := Lib.hid hw
      have HF := Lib.hid hf
      clear hw hf
      go_wp2_with fail
      refine (st_lput HW.out (by omega) HF.out).mono ?_
      rintro e w4 ⟨rfl, ⟨v, hw⟩, _⟩
      rw [HLE.out]
      have HW1 := Lib.hid hw
      clear hw HF HW
      go_wp2_with fail
      refine (st_new _).mono ?_
      rintro e w5 ⟨rfl, hw⟩
      have HW := Lib.hid hw
      clear hw
      go_wp2_with fail
      refine (st_te HW.out (by omega) 1 16 (by omega) (by omega) (by omega) (by omega)).mono ?_
      rintro e w6 ⟨rfl, v2, hw⟩
      have HW := Lib.hid hw
      clear hw
      go_wp2_with fail
      refine (st_te HW.out (by omega) 1 1 (by omega) (by omega) (by omega) (by omega)).mono ?_
      rintro e w7 ⟨rfl, v3, hw⟩
      have HW := Lib.hid hw
      clear hw
      go_wp2_with fail
      refine (st_bits HW.out (by omega) 1 1 (by omega) (by omega) (by omega) (by decide)).mono ?_
      rintro e w8 ⟨rfl, v4, hw⟩
      have HW := Lib.hid hw
      clear hw
      go_wp2_with fail
      refine (st_te HW.out (by omega) m 15 (by omega) (by omega) (by omega) (by omega)).mono ?_
      rintro e w9 ⟨rfl, v5, hw⟩
      rw [← HEQ.out] at hw
      have hw1 := HW1.out.go hw.2.2.1
      clear HW1 HEQ
      generalize [] ++ lvB (oz m (-1)) 16 = B at hw hw1
      have hend := hw1.from HB2.out
      have HW := Lib.hid hw
      have HW1 := Lib.hid hw1
      have HEND := Lib.hid hend
      clear hw hw1 hend
      go_wp2_with fail
      refine (num_any _ _).mono ?_
      rintro e w' ⟨rfl, rfl⟩
      go_wp2_with fail
      refine (st_len HW1.out rfl).mono ?_
      rintro e w' ⟨rfl, rfl⟩
      go_wp2_with fail
      refine (st_len HW.out rfl).mono ?_
      rintro e w' ⟨rfl, rfl⟩
      go_wp2_with fail
      refine (st_bytes HW1.out rfl).mono ?_
      rintro e w' ⟨rfl, rfl⟩
      go_wp2_with fail
      refine (st_bytes HW.out rfl).mono ?_
      rintro e w' ⟨rfl, rfl⟩
      generalize packS B = S
      go_wp2_with fail
      go_ret
      exact ⟨rfl, HEND.out⟩
end Go.Proofs.Ytocooplmfkeepaa
