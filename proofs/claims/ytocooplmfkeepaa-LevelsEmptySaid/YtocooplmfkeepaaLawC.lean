/- The statement LevelsEmpty: the plain part and the walk. -/
import Derived.Test.YtocooplmfkeepaaLawA
namespace Go.Proofs.Ytocooplmfkeepaa
open Go.RowKit
set_option linter.unusedVariables false
set_option linter.unusedSimpArgs false

theorem lvB_noughts : lvB (fun _ => 0) 4 = [true] ∧ lvB (fun _ => 0) 15 = [true] ∧ lvB (fun _ => 0) 16 = [true] ∧ lvE (fun _ => 0) 4 = 0 ∧ lvE (fun _ => 0) 15 = 0 ∧ lvE (fun _ => 0) 16 = 0 := by decide +kernel
/-- a level's bits, n times -/
def reps (x : Int) : Nat → List Bool
  | 0 => []
  | n + 1 => reps x n ++ seL x
theorem reps_cons (x : Int) : ∀ n, seL x ++ reps x n = reps x (n + 1)
  | 0 => by simp [reps]
  | n + 1 => by
    show seL x ++ (reps x n ++ seL x) = reps x (n + 1) ++ seL x
    rw [← List.append_assoc, reps_cons x n]
theorem atL_full (x : Int) (hx : x ≠ 0) : ∀ k, (atL (fun _ => x) k).length = k ∧ (∀ h : 0 < k, (atL (fun _ => x) k).getD 0 0 = k - 1)
  | 0 => by simp [atL]
  | k + 1 => by
    unfold atL
    rw [if_neg hx]
    have := (atL_full x hx k).1
    exact ⟨by simp [this], fun _ => by simp⟩
theorem lvL_full (x : Int) : ∀ (l : List Nat) (i : Nat), 0 < i → lvL (fun _ => x) 0 i l = reps x l.length
  | [], i, _ => rfl
  | p :: r, i, hi => by
    show oneL 0 i x ++ lvL _ 0 (i + 1) r = _
    rw [lvL_full x r (i + 1) (by omega)]
    have : oneL 0 i x = seL x := by
      unfold oneL told
      rw [if_neg (by omega), if_neg (by omega)]
    rw [this, reps_cons]
    rfl
theorem lvPut_full (x : Int) (k : Nat) (hx : 2 ≤ x) (hk : 3 ≤ k) : lvPut (fun _ => x) k = teL k k ++ teL 0 3 ++ seL (x - 1) ++ reps x (k - 1) := by
  have hf := atL_full x (by omega) k
  have hl := hf.1
  have hg := hf.2 (by omega)
  unfold lvPut
  obtain ⟨l, hll⟩ : ∃ l, l = atL (fun _ => x) k := ⟨_, rfl⟩
  rw [← hll] at hl hg ⊢
  have h1 : isOne x = false := by unfold isOne; rw [decide_eq_false_iff_not]; omega
  have ho : lvOnes (fun _ => x) l = 0 := by
    unfold lvOnes
    rw [hl, show min 3 k = 2 + 1 by omega]
    cases l with
    | nil => rfl
    | cons p r => show (if isOne x = true then _ else 0) = 0; rw [if_neg (by simp [h1])]
  have hq : lvLeft l = 0 := by unfold lvLeft; rw [hg, hl]; omega
  rw [ho, hq, hl, if_neg (by omega), Nat.sub_self, show min 3 k = 3 by omega]
  have hr : rnL 0 l = [] := by have := rnL_end l 0 0 (.inr rfl); simpa using this
  have hz : teZ 0 0 = [] := rfl
  rw [hr, hz, List.append_nil, List.append_nil]
  cases l with
  | nil => simp at hl; omega
  | cons p r =>
    have e1 : lvL (fun _ => x) 0 0 (p :: r) = seL (x - 1) ++ reps x (k - 1) := by
      show oneL 0 0 x ++ lvL (fun _ => x) 0 1 r = _
      rw [lvL_full x r 1 (by omega)]
      have : oneL 0 0 x = seL (x - 1) := by
        unfold oneL told near
        rw [if_neg (by omega), if_pos ⟨rfl, by omega⟩, if_pos (by omega)]
      rw [this]
      simp only [List.length_cons] at hl
      rw [show r.length = k - 1 by omega]
    rw [e1]
    simp only [List.append_assoc]

set_option maxRecDepth 100000 in
set_option maxHeartbeats 6400000 in
theorem walk_LevelsEmpty (a0 : Int) (a1 : Int) (w : World) (w_a0 : (Lit.int .i64 a0).wf = true) (w_a1 : (Lit.int .i64 a1).wf = true) :
    Calls Try.prog 6 #[.int .i64 a0, .int .i64 a1] w fun e w' => e = .returned (.bool true) ∧ Below w.heap.size w w' := by
  clear w_a0 w_a1
  have hu := u64_tmod_bd a0 3 (by omega)
  obtain ⟨q, hq⟩ : ∃ q : Nat, (IntKind.u64.wrap a0).tmod 3 = q := ⟨((IntKind.u64.wrap a0).tmod 3).toNat, by omega⟩
  have hq3 : q = 0 ∨ q = 1 ∨ q = 2 := by omega
  have hv := u64_tmod_bd a1 1000 (by omega)
  obtain ⟨y, hy⟩ : ∃ y, (IntKind.u64.wrap a1).tmod 1000 = y := ⟨_, rfl⟩
  have hy0 : 0 ≤ y := by omega
  have hy1 : y < 1000 := by omega
  obtain ⟨i0, hi, hz0, hz1, hz2⟩ := info_parts int_info
  have HMK : Hid (∀ (n : Nat) (K : Int) (w : World), K = (n : Int) → n ≤ 100 → (Instr.makeSlice 22 (.int .i64 K) (.int .i64 K)).run Try.prog w = .ok (.slice (some ⟨w.heap.size, 0, none⟩) n n) (w.alloc (.cells (Array.replicate n (.int .i64 0)) 3))) := Lib.hid fun n K w hK hn => by
    subst hK
    exact run_make_one (P := Try.prog) 22 3 i0 (.int .i64 0) Try.underlying22 hi hz0 hz1 rfl n (by rw [hz2]; omega) (by omega) w
  clear hu hv hi hz0 hz1 hz2
  rcases hq3 with rfl | rfl | rfl
  · have hmk := fun w => HMK.out 4 4 w rfl (by omega)
    go_enter Try.func6, Try.ntmps6
    go_wp2_with fail
    refine (awake_any _).mono ?_
    rintro e w1 ⟨rfl, hb1⟩
    have HB1 := Lib.hid hb1
    have hz1' := hb1.size
    clear hb1
    go_wp2_with fail
    have hbl := HB1.out.alloc hz1' (.cells #[.int .i64 4, .int .i64 15, .int .i64 16] 3)
    generalize w1.alloc (.cells #[.int .i64 4, .int .i64 15, .int .i64 16] 3) = Wl at hbl ⊢
    refine (st_new _).mono ?_
    rintro e w3 ⟨rfl, hw⟩
    have hwa := hw.go ((Below.refl w3.heap.size w3).alloc (Nat.le_refl _) (.cells (Array.replicate 4 (.int .i64 0)) 3))
    have hfa : Far _ (WS Wl.heap.size (.slice none 0 0)) (some ⟨w3.heap.size, 0, none⟩) 4 (fun _ => 0) := Far.of_ar (Ar.made w3 3 4 (.int .i64 0)) (fun q => by have := hw.1.old q; omega)
    have HBL := Lib.hid hbl
    have HW := Lib.hid hwa
    have HF := Lib.hid hfa
    clear hw hwa hfa hbl HB1
    go_wp2_with fail
    refine (st_lput HW.out (by omega) HF.out).mono ?_
    rintro e w4 ⟨rfl, ⟨v, hw⟩, _⟩
    rw [lvB_noughts.1] at hw
    rw [lvB_noughts.2.2.2.1]
    have HW1 := Lib.hid hw
    have HB4 := Lib.hid (hw.from HBL.out)
    have hz4 := (hw.from HBL.out).size
    clear hw HF HW HBL
    obtain ⟨x, hx⟩ : ∃ x, 2 + y = x := ⟨_, rfl⟩
    have hx2 : 2 ≤ x := by omega
    have hx3 : x < 1002 := by omega
    have har := Ar.made w4 3 4 (.int .i64 0)
    have hb4a := (Below.refl w4.heap.size w4).alloc (Nat.le_refl _) (.cells (Array.replicate 4 (.int .i64 0)) 3)
    have HAR := Lib.hid har
    have HBA := Lib.hid hb4a
    clear har hb4a
    go_wp2_with fail
    clear hmk
    generalize w4.alloc (.cells (Array.replicate 4 (.int .i64 0)) 3) = Wm at HAR HBA ⊢
    go_loopw [10] (fun s wr => ∃ j : Nat, j ≤ 4 ∧ s = .int .i64 j ∧ Ar wr w4.heap.size 4 (fun i => .int .i64 (if i < j then x else 0)) ∧ Below w4.heap.size w4 wr) (fun s _ => 4 - (intOf s).toNat)
    case atStart => exact ⟨0, by omega, rfl, HAR.out.congr fun i _ => by simp, HBA.out⟩
    case round =>
      clear HAR HBA
      obtain ⟨j, hj, rfl, har, hbe⟩ := hrel
      have hj0 : (0 : Int) ≤ (j : Int) := Int.natCast_nonneg _
      by_cases hlt : j < 4
      · have hlt' : (j : Int) < 4 := by omega
        have hc := har.1 j hlt
        have hf := har.2.1 j
        simp only [Nat.lt_irrefl, if_false] at hc
        have hs := har.set_ hlt (.int .i64 x)
        have HS := Lib.hid hs
        have HBE := Lib.hid (hbe.setCell (p := ⟨w4.heap.size, j, none⟩) (Nat.le_refl _) (.int .i64 x))
        clear har hbe hs
        go_wp2_with fail
        go_roundw
        case rel =>
          refine ⟨j + 1, by omega, by go_num, HS.out.congr fun i _ => ?_, HBE.out⟩
          by_cases h1 : i = j
          · rw [if_pos h1, if_pos (by omega)]
          · rw [if_neg h1]
            by_cases h2 : i < j
            · rw [if_pos h2, if_pos (by omega)]
            · rw [if_neg h2, if_neg (by omega)]
        case measure => simp [intOf]; omega
      · obtain rfl : j = 4 := by omega
        have har2 : Ar _ w4.heap.size 4 (fun _ => .int .i64 x) := har.congr fun i hi => by rw [if_pos hi]
        have HAR := Lib.hid har2
        have HBE := Lib.hid hbe
        have hlok : lvOk (fun _ => x) 4 = true := (lvOk_iff _ _).2 fun i _ => (by omega : -32767 ≤ x ∧ x ≤ 32767)
        have hle := lvE_yes (z := fun _ => x) (k := 4) (by decide) hlok
        have hpf := lvPut_full x 4 hx2 (by omega)
        have HLE := Lib.hid hle
        have HPF := Lib.hid hpf
        clear har har2 hbe hlt hlok hle hpf
        go_wp2_with fail
        refine (st_new _).mono ?_
        rintro e w5 ⟨rfl, hw⟩
        have hf : Far w5 (WS wr.heap.size (.slice none 0 0)) (some ⟨w4.heap.size, 0, none⟩) 4 (fun _ => x) := (Far.of_ar HAR.out (not_ws_none (by have := HAR.out.2.2; omega))).go hw.2.2.1
        have HW := Lib.hid hw
        have HF := Lib.hid hf
        clear hw hf
        go_wp2_with fail
        refine (st_lput HW.out (by omega) HF.out).mono ?_
        rintro e w6 ⟨rfl, ⟨v2, hw⟩, _⟩
        rw [HLE.out.1]
        rw [HLE.out.2] at hw
        have HW2 := Lib.hid hw
        have HB6 := Lib.hid (hw.from HBE.out)
        have hz6 := (hw.from HBE.out).size
        clear hw HF HW
        go_wp2_with fail
        refine (st_new _).mono ?_
        rintro e w7 ⟨rfl, hw⟩
        have HW := Lib.hid hw
        clear hw
        go_wp2_with fail
        refine (st_te HW.out (by omega) 4 4 (by omega) (by omega) (by omega) (by omega)).mono ?_
        rintro e w8 ⟨rfl, v3, hw⟩
        have HW := Lib.hid hw
        clear hw
        go_wp2_with fail
        refine (st_te HW.out (by omega) 0 3 (by omega) (by omega) (by omega) (by omega)).mono ?_
        rintro e w9 ⟨rfl, v4, hw⟩
        have HW := Lib.hid hw
        clear hw
        go_wp2_with fail
        refine (st_se HW.out (by omega) (x - 1) (by omega) (by omega)).mono ?_
        rintro e w10 ⟨rfl, v5, hw⟩
        have hbb : [] ++ teL (4 : Int).toNat (4 : Int).toNat ++ teL (0 : Int).toNat (3 : Int).toNat ++ seL (x - 1) = teL 4 4 ++ teL 0 3 ++ seL (x - 1) := rfl
        rw [hbb] at hw
        have hpq := HPF.out
        generalize teL 4 4 ++ teL 0 3 ++ seL (x - 1) = B at hw hpq
        have HW := Lib.hid hw
        have HPQ := Lib.hid hpq
        clear hw hbb hpq HPF
        go_wp2_with fail
        go_loopw [14] (fun s wr => ∃ (j : Nat) (v : Value), 1 ≤ j ∧ j ≤ 4 ∧ s = .int .i64 j ∧ WStep w6 wr w6.heap.size v (B ++ reps x (j - 1)) (192 + 64 * j)) (fun s _ => 4 - (intOf s).toNat)
        case atStart => exact ⟨1, v5, by omega, by omega, rfl, by rw [show B ++ reps x (1 - 1) = B from List.append_nil B]; exact ⟨HW.out.1, HW.out.2.1, HW.out.2.2.1, by have := HW.out.2.2.2; omega⟩⟩
        case round =>
          clear HW
          obtain ⟨j, v6, hj1, hj2, rfl, hw⟩ := hrel
          have HW := Lib.hid hw
          have hj0 : (0 : Int) ≤ (j : Int) := Int.natCast_nonneg _
          by_cases hlt : j < 4
          · have hlt' : (j : Int) < 4 := by omega
            clear hw
            go_wp2_with fail
            refine (st_se HW.out (by omega) x (by omega) (by omega)).mono ?_
            rintro e w11 ⟨rfl, v7, hw⟩
            rw [List.append_assoc, show reps x (j - 1) ++ seL x = reps x (j + 1 - 1) by rw [show j + 1 - 1 = (j - 1) + 1 by omega]; rfl] at hw
            have HW := Lib.hid hw
            clear hw
            go_wp2_with fail
            go_roundw
            case rel => exact ⟨j + 1, v7, by omega, by omega, by go_num, ⟨HW.out.1, HW.out.2.1, HW.out.2.2.1, by have := HW.out.2.2.2; omega⟩⟩
            case measure => simp [intOf]; omega
          · obtain rfl : j = 4 := by omega
            have hw1 := HW1.out.go (HB6.out.trans (hw.2.2.1.mono hz6))
            have hw2 := HW2.out.go hw.2.2.1
            have hend := (HB4.out.trans (HB6.out.mono hz4)).trans (hw.2.2.1.mono (Nat.le_trans hz4 hz6))
            rw [List.nil_append, HPQ.out] at hw2
            generalize B ++ reps x (4 - 1) = C at hw hw2
            have HW := Lib.hid hw
            have HW1 := Lib.hid hw1
            have HW2 := Lib.hid hw2
            have HEND := Lib.hid hend
            clear hw hw1 hw2 hend hlt HPQ HLE
            go_wp2_with fail
            refine (num_any _ _).mono ?_
            rintro e w' ⟨rfl, rfl⟩
            go_wp2_with fail
            refine (st_len HW1.out (n := 1) rfl).mono ?_
            rintro e w' ⟨rfl, rfl⟩
            go_wp2_with fail
            refine (num_any _ _).mono ?_
            rintro e w' ⟨rfl, rfl⟩
            go_wp2_with fail
            refine (st_bytes HW2.out rfl).mono ?_
            rintro e w' ⟨rfl, rfl⟩
            go_wp2_with fail
            refine (st_bytes HW.out rfl).mono ?_
            rintro e w' ⟨rfl, rfl⟩
            generalize packS C = S
            go_wp2_with fail
            refine (st_len HW2.out rfl).mono ?_
            rintro e w' ⟨rfl, rfl⟩
            go_wp2_with fail
            refine (st_len HW.out rfl).mono ?_
            rintro e w' ⟨rfl, rfl⟩
            go_wp2_with fail
            go_ret
            exact ⟨rfl, HEND.out⟩
  · have hmk := fun w => HMK.out 15 15 w rfl (by omega)
    go_enter Try.func6, Try.ntmps6
    go_wp2_with fail
    refine (awake_any _).mono ?_
    rintro e w1 ⟨rfl, hb1⟩
    have HB1 := Lib.hid hb1
    have hz1' := hb1.size
    clear hb1
    go_wp2_with fail
    have hbl := HB1.out.alloc hz1' (.cells #[.int .i64 4, .int .i64 15, .int .i64 16] 3)
    generalize w1.alloc (.cells #[.int .i64 4, .int .i64 15, .int .i64 16] 3) = Wl at hbl ⊢
    refine (st_new _).mono ?_
    rintro e w3 ⟨rfl, hw⟩
    have hwa := hw.go ((Below.refl w3.heap.size w3).alloc (Nat.le_refl _) (.cells (Array.replicate 15 (.int .i64 0)) 3))
    have hfa : Far _ (WS Wl.heap.size (.slice none 0 0)) (some ⟨w3.heap.size, 0, none⟩) 15 (fun _ => 0) := Far.of_ar (Ar.made w3 3 15 (.int .i64 0)) (fun q => by have := hw.1.old q; omega)
    have HBL := Lib.hid hbl
    have HW := Lib.hid hwa
    have HF := Lib.hid hfa
    clear hw hwa hfa hbl HB1
    go_wp2_with fail
    refine (st_lput HW.out (by omega) HF.out).mono ?_
    rintro e w4 ⟨rfl, ⟨v, hw⟩, _⟩
    rw [lvB_noughts.2.1] at hw
    rw [lvB_noughts.2.2.2.2.1]
    have HW1 := Lib.hid hw
    have HB4 := Lib.hid (hw.from HBL.out)
    have hz4 := (hw.from HBL.out).size
    clear hw HF HW HBL
    obtain ⟨x, hx⟩ : ∃ x, 2 + y = x := ⟨_, rfl⟩
    have hx2 : 2 ≤ x := by omega
    have hx3 : x < 1002 := by omega
    have har := Ar.made w4 3 15 (.int .i64 0)
    have hb4a := (Below.refl w4.heap.size w4).alloc (Nat.le_refl _) (.cells (Array.replicate 15 (.int .i64 0)) 3)
    have HAR := Lib.hid har
    have HBA := Lib.hid hb4a
    clear har hb4a
    go_wp2_with fail
    clear hmk
    generalize w4.alloc (.cells (Array.replicate 15 (.int .i64 0)) 3) = Wm at HAR HBA ⊢
    go_loopw [10] (fun s wr => ∃ j : Nat, j ≤ 15 ∧ s = .int .i64 j ∧ Ar wr w4.heap.size 15 (fun i => .int .i64 (if i < j then x else 0)) ∧ Below w4.heap.size w4 wr) (fun s _ => 15 - (intOf s).toNat)
    case atStart => exact ⟨0, by omega, rfl, HAR.out.congr fun i _ => by simp, HBA.out⟩
    case round =>
      clear HAR HBA
      obtain ⟨j, hj, rfl, har, hbe⟩ := hrel
      have hj0 : (0 : Int) ≤ (j : Int) := Int.natCast_nonneg _
      by_cases hlt : j < 15
      · have hlt' : (j : Int) < 15 := by omega
        have hc := har.1 j hlt
        have hf := har.2.1 j
        simp only [Nat.lt_irrefl, if_false] at hc
        have hs := har.set_ hlt (.int .i64 x)
        have HS := Lib.hid hs
        have HBE := Lib.hid (hbe.setCell (p := ⟨w4.heap.size, j, none⟩) (Nat.le_refl _) (.int .i64 x))
        clear har hbe hs
        go_wp2_with fail
        go_roundw
        case rel =>
          refine ⟨j + 1, by omega, by go_num, HS.out.congr fun i _ => ?_, HBE.out⟩
          by_cases h1 : i = j
          · rw [if_pos h1, if_pos (by omega)]
          · rw [if_neg h1]
            by_cases h2 : i < j
            · rw [if_pos h2, if_pos (by omega)]
            · rw [if_neg h2, if_neg (by omega)]
        case measure => simp [intOf]; omega
      · obtain rfl : j = 15 := by omega
        have har2 : Ar _ w4.heap.size 15 (fun _ => .int .i64 x) := har.congr fun i hi => by rw [if_pos hi]
        have HAR := Lib.hid har2
        have HBE := Lib.hid hbe
        have hlok : lvOk (fun _ => x) 15 = true := (lvOk_iff _ _).2 fun i _ => (by omega : -32767 ≤ x ∧ x ≤ 32767)
        have hle := lvE_yes (z := fun _ => x) (k := 15) (by decide) hlok
        have hpf := lvPut_full x 15 hx2 (by omega)
        have HLE := Lib.hid hle
        have HPF := Lib.hid hpf
        clear har har2 hbe hlt hlok hle hpf
        go_wp2_with fail
        refine (st_new _).mono ?_
        rintro e w5 ⟨rfl, hw⟩
        have hf : Far w5 (WS wr.heap.size (.slice none 0 0)) (some ⟨w4.heap.size, 0, none⟩) 15 (fun _ => x) := (Far.of_ar HAR.out (not_ws_none (by have := HAR.out.2.2; omega))).go hw.2.2.1
        have HW := Lib.hid hw
        have HF := Lib.hid hf
        clear hw hf
        go_wp2_with fail
        refine (st_lput HW.out (by omega) HF.out).mono ?_
        rintro e w6 ⟨rfl, ⟨v2, hw⟩, _⟩
        rw [HLE.out.1]
        rw [HLE.out.2] at hw
        have HW2 := Lib.hid hw
        have HB6 := Lib.hid (hw.from HBE.out)
        have hz6 := (hw.from HBE.out).size
        clear hw HF HW
        go_wp2_with fail
        refine (st_new _).mono ?_
        rintro e w7 ⟨rfl, hw⟩
        have HW := Lib.hid hw
        clear hw
        go_wp2_with fail
        refine (st_te HW.out (by omega) 15 15 (by omega) (by omega) (by omega) (by omega)).mono ?_
        rintro e w8 ⟨rfl, v3, hw⟩
        have HW := Lib.hid hw
        clear hw
        go_wp2_with fail
        refine (st_te HW.out (by omega) 0 3 (by omega) (by omega) (by omega) (by omega)).mono ?_
        rintro e w9 ⟨rfl, v4, hw⟩
        have HW := Lib.hid hw
        clear hw
        go_wp2_with fail
        refine (st_se HW.out (by omega) (x - 1) (by omega) (by omega)).mono ?_
        rintro e w10 ⟨rfl, v5, hw⟩
        have hbb : [] ++ teL (15 : Int).toNat (15 : Int).toNat ++ teL (0 : Int).toNat (3 : Int).toNat ++ seL (x - 1) = teL 15 15 ++ teL 0 3 ++ seL (x - 1) := rfl
        rw [hbb] at hw
        have hpq := HPF.out
        generalize teL 15 15 ++ teL 0 3 ++ seL (x - 1) = B at hw hpq
        have HW := Lib.hid hw
        have HPQ := Lib.hid hpq
        clear hw hbb hpq HPF
        go_wp2_with fail
        go_loopw [14] (fun s wr => ∃ (j : Nat) (v : Value), 1 ≤ j ∧ j ≤ 15 ∧ s = .int .i64 j ∧ WStep w6 wr w6.heap.size v (B ++ reps x (j - 1)) (192 + 64 * j)) (fun s _ => 15 - (intOf s).toNat)
        case atStart => exact ⟨1, v5, by omega, by omega, rfl, by rw [show B ++ reps x (1 - 1) = B from List.append_nil B]; exact ⟨HW.out.1, HW.out.2.1, HW.out.2.2.1, by have := HW.out.2.2.2; omega⟩⟩
        case round =>
          clear HW
          obtain ⟨j, v6, hj1, hj2, rfl, hw⟩ := hrel
          have HW := Lib.hid hw
          have hj0 : (0 : Int) ≤ (j : Int) := Int.natCast_nonneg _
          by_cases hlt : j < 15
          · have hlt' : (j : Int) < 15 := by omega
            clear hw
            go_wp2_with fail
            refine (st_se HW.out (by omega) x (by omega) (by omega)).mono ?_
            rintro e w11 ⟨rfl, v7, hw⟩
            rw [List.append_assoc, show reps x (j - 1) ++ seL x = reps x (j + 1 - 1) by rw [show j + 1 - 1 = (j - 1) + 1 by omega]; rfl] at hw
            have HW := Lib.hid hw
            clear hw
            go_wp2_with fail
            go_roundw
            case rel => exact ⟨j + 1, v7, by omega, by omega, by go_num, ⟨HW.out.1, HW.out.2.1, HW.out.2.2.1, by have := HW.out.2.2.2; omega⟩⟩
            case measure => simp [intOf]; omega
          · obtain rfl : j = 15 := by omega
            have hw1 := HW1.out.go (HB6.out.trans (hw.2.2.1.mono hz6))
            have hw2 := HW2.out.go hw.2.2.1
            have hend := (HB4.out.trans (HB6.out.mono hz4)).trans (hw.2.2.1.mono (Nat.le_trans hz4 hz6))
            rw [List.nil_append, HPQ.out] at hw2
            generalize B ++ reps x (15 - 1) = C at hw hw2
            have HW := Lib.hid hw
            have HW1 := Lib.hid hw1
            have HW2 := Lib.hid hw2
            have HEND := Lib.hid hend
            clear hw hw1 hw2 hend hlt HPQ HLE
            go_wp2_with fail
            refine (num_any _ _).mono ?_
            rintro e w' ⟨rfl, rfl⟩
            go_wp2_with fail
            refine (st_len HW1.out (n := 1) rfl).mono ?_
            rintro e w' ⟨rfl, rfl⟩
            go_wp2_with fail
            refine (num_any _ _).mono ?_
            rintro e w' ⟨rfl, rfl⟩
            go_wp2_with fail
            refine (st_bytes HW2.out rfl).mono ?_
            rintro e w' ⟨rfl, rfl⟩
            go_wp2_with fail
            refine (st_bytes HW.out rfl).mono ?_
            rintro e w' ⟨rfl, rfl⟩
            generalize packS C = S
            go_wp2_with fail
            refine (st_len HW2.out rfl).mono ?_
            rintro e w' ⟨rfl, rfl⟩
            go_wp2_with fail
            refine (st_len HW.out rfl).mono ?_
            rintro e w' ⟨rfl, rfl⟩
            go_wp2_with fail
            go_ret
            exact ⟨rfl, HEND.out⟩
  · have hmk := fun w => HMK.out 16 16 w rfl (by omega)
    go_enter Try.func6, Try.ntmps6
    go_wp2_with fail
    refine (awake_any _).mono ?_
    rintro e w1 ⟨rfl, hb1⟩
    have HB1 := Lib.hid hb1
    have hz1' := hb1.size
    clear hb1
    go_wp2_with fail
    have hbl := HB1.out.alloc hz1' (.cells #[.int .i64 4, .int .i64 15, .int .i64 16] 3)
    generalize w1.alloc (.cells #[.int .i64 4, .int .i64 15, .int .i64 16] 3) = Wl at hbl ⊢
    refine (st_new _).mono ?_
    rintro e w3 ⟨rfl, hw⟩
    have hwa := hw.go ((Below.refl w3.heap.size w3).alloc (Nat.le_refl _) (.cells (Array.replicate 16 (.int .i64 0)) 3))
    have hfa : Far _ (WS Wl.heap.size (.slice none 0 0)) (some ⟨w3.heap.size, 0, none⟩) 16 (fun _ => 0) := Far.of_ar (Ar.made w3 3 16 (.int .i64 0)) (fun q => by have := hw.1.old q; omega)
    have HBL := Lib.hid hbl
    have HW := Lib.hid hwa
    have HF := Lib.hid hfa
    clear hw hwa hfa hbl HB1
    go_wp2_with fail
    refine (st_lput HW.out (by omega) HF.out).mono ?_
    rintro e w4 ⟨rfl, ⟨v, hw⟩, _⟩
    rw [lvB_noughts.2.2.1] at hw
    rw [lvB_noughts.2.2.2.2.2]
    have HW1 := Lib.hid hw
    have HB4 := Lib.hid (hw.from HBL.out)
    have hz4 := (hw.from HBL.out).size
    clear hw HF HW HBL
    obtain ⟨x, hx⟩ : ∃ x, 2 + y = x := ⟨_, rfl⟩
    have hx2 : 2 ≤ x := by omega
    have hx3 : x < 1002 := by omega
    have har := Ar.made w4 3 16 (.int .i64 0)
    have hb4a := (Below.refl w4.heap.size w4).alloc (Nat.le_refl _) (.cells (Array.replicate 16 (.int .i64 0)) 3)
    have HAR := Lib.hid har
    have HBA := Lib.hid hb4a
    clear har hb4a
    go_wp2_with fail
    clear hmk
    generalize w4.alloc (.cells (Array.replicate 16 (.int .i64 0)) 3) = Wm at HAR HBA ⊢
    go_loopw [10] (fun s wr => ∃ j : Nat, j ≤ 16 ∧ s = .int .i64 j ∧ Ar wr w4.heap.size 16 (fun i => .int .i64 (if i < j then x else 0)) ∧ Below w4.heap.size w4 wr) (fun s _ => 16 - (intOf s).toNat)
    case atStart => exact ⟨0, by omega, rfl, HAR.out.congr fun i _ => by simp, HBA.out⟩
    case round =>
      clear HAR HBA
      obtain ⟨j, hj, rfl, har, hbe⟩ := hrel
      have hj0 : (0 : Int) ≤ (j : Int) := Int.natCast_nonneg _
      by_cases hlt : j < 16
      · have hlt' : (j : Int) < 16 := by omega
        have hc := har.1 j hlt
        have hf := har.2.1 j
        simp only [Nat.lt_irrefl, if_false] at hc
        have hs := har.set_ hlt (.int .i64 x)
        have HS := Lib.hid hs
        have HBE := Lib.hid (hbe.setCell (p := ⟨w4.heap.size, j, none⟩) (Nat.le_refl _) (.int .i64 x))
        clear har hbe hs
        go_wp2_with fail
        go_roundw
        case rel =>
          refine ⟨j + 1, by omega, by go_num, HS.out.congr fun i _ => ?_, HBE.out⟩
          by_cases h1 : i = j
          · rw [if_pos h1, if_pos (by omega)]
          · rw [if_neg h1]
            by_cases h2 : i < j
            · rw [if_pos h2, if_pos (by omega)]
            · rw [if_neg h2, if_neg (by omega)]
        case measure => simp [intOf]; omega
      · obtain rfl : j = 16 := by omega
        have har2 : Ar _ w4.heap.size 16 (fun _ => .int .i64 x) := har.congr fun i hi => by rw [if_pos hi]
        have HAR := Lib.hid har2
        have HBE := Lib.hid hbe
        have hlok : lvOk (fun _ => x) 16 = true := (lvOk_iff _ _).2 fun i _ => (by omega : -32767 ≤ x ∧ x ≤ 32767)
        have hle := lvE_yes (z := fun _ => x) (k := 16) (by decide) hlok
        have hpf := lvPut_full x 16 hx2 (by omega)
        have HLE := Lib.hid hle
        have HPF := Lib.hid hpf
        clear har har2 hbe hlt hlok hle hpf
        go_wp2_with fail
        refine (st_new _).mono ?_
        rintro e w5 ⟨rfl, hw⟩
        have hf : Far w5 (WS wr.heap.size (.slice none 0 0)) (some ⟨w4.heap.size, 0, none⟩) 16 (fun _ => x) := (Far.of_ar HAR.out (not_ws_none (by have := HAR.out.2.2; omega))).go hw.2.2.1
        have HW := Lib.hid hw
        have HF := Lib.hid hf
        clear hw hf
        go_wp2_with fail
        refine (st_lput HW.out (by omega) HF.out).mono ?_
        rintro e w6 ⟨rfl, ⟨v2, hw⟩, _⟩
        rw [HLE.out.1]
        rw [HLE.out.2] at hw
        have HW2 := Lib.hid hw
        have HB6 := Lib.hid (hw.from HBE.out)
        have hz6 := (hw.from HBE.out).size
        clear hw HF HW
        go_wp2_with fail
        refine (st_new _).mono ?_
        rintro e w7 ⟨rfl, hw⟩
        have HW := Lib.hid hw
        clear hw
        go_wp2_with fail
        refine (st_te HW.out (by omega) 16 16 (by omega) (by omega) (by omega) (by omega)).mono ?_
        rintro e w8 ⟨rfl, v3, hw⟩
        have HW := Lib.hid hw
        clear hw
        go_wp2_with fail
        refine (st_te HW.out (by omega) 0 3 (by omega) (by omega) (by omega) (by omega)).mono ?_
        rintro e w9 ⟨rfl, v4, hw⟩
        have HW := Lib.hid hw
        clear hw
        go_wp2_with fail
        refine (st_se HW.out (by omega) (x - 1) (by omega) (by omega)).mono ?_
        rintro e w10 ⟨rfl, v5, hw⟩
        have hbb : [] ++ teL (16 : Int).toNat (16 : Int).toNat ++ teL (0 : Int).toNat (3 : Int).toNat ++ seL (x - 1) = teL 16 16 ++ teL 0 3 ++ seL (x - 1) := rfl
        rw [hbb] at hw
        have hpq := HPF.out
        generalize teL 16 16 ++ teL 0 3 ++ seL (x - 1) = B at hw hpq
        have HW := Lib.hid hw
        have HPQ := Lib.hid hpq
        clear hw hbb hpq HPF
        go_wp2_with fail
        go_loopw [14] (fun s wr => ∃ (j : Nat) (v : Value), 1 ≤ j ∧ j ≤ 16 ∧ s = .int .i64 j ∧ WStep w6 wr w6.heap.size v (B ++ reps x (j - 1)) (192 + 64 * j)) (fun s _ => 16 - (intOf s).toNat)
        case atStart => exact ⟨1, v5, by omega, by omega, rfl, by rw [show B ++ reps x (1 - 1) = B from List.append_nil B]; exact ⟨HW.out.1, HW.out.2.1, HW.out.2.2.1, by have := HW.out.2.2.2; omega⟩⟩
        case round =>
          clear HW
          obtain ⟨j, v6, hj1, hj2, rfl, hw⟩ := hrel
          have HW := Lib.hid hw
          have hj0 : (0 : Int) ≤ (j : Int) := Int.natCast_nonneg _
          by_cases hlt : j < 16
          · have hlt' : (j : Int) < 16 := by omega
            clear hw
            go_wp2_with fail
            refine (st_se HW.out (by omega) x (by omega) (by omega)).mono ?_
            rintro e w11 ⟨rfl, v7, hw⟩
            rw [List.append_assoc, show reps x (j - 1) ++ seL x = reps x (j + 1 - 1) by rw [show j + 1 - 1 = (j - 1) + 1 by omega]; rfl] at hw
            have HW := Lib.hid hw
            clear hw
            go_wp2_with fail
            go_roundw
            case rel => exact ⟨j + 1, v7, by omega, by omega, by go_num, ⟨HW.out.1, HW.out.2.1, HW.out.2.2.1, by have := HW.out.2.2.2; omega⟩⟩
            case measure => simp [intOf]; omega
          · obtain rfl : j = 16 := by omega
            have hw1 := HW1.out.go (HB6.out.trans (hw.2.2.1.mono hz6))
            have hw2 := HW2.out.go hw.2.2.1
            have hend := (HB4.out.trans (HB6.out.mono hz4)).trans (hw.2.2.1.mono (Nat.le_trans hz4 hz6))
            rw [List.nil_append, HPQ.out] at hw2
            generalize B ++ reps x (16 - 1) = C at hw hw2
            have HW := Lib.hid hw
            have HW1 := Lib.hid hw1
            have HW2 := Lib.hid hw2
            have HEND := Lib.hid hend
            clear hw hw1 hw2 hend hlt HPQ HLE
            go_wp2_with fail
            refine (num_any _ _).mono ?_
            rintro e w' ⟨rfl, rfl⟩
            go_wp2_with fail
            refine (st_len HW1.out (n := 1) rfl).mono ?_
            rintro e w' ⟨rfl, rfl⟩
            go_wp2_with fail
            refine (num_any _ _).mono ?_
            rintro e w' ⟨rfl, rfl⟩
            go_wp2_with fail
            refine (st_bytes HW2.out rfl).mono ?_
            rintro e w' ⟨rfl, rfl⟩
            go_wp2_with fail
            refine (st_bytes HW.out rfl).mono ?_
            rintro e w' ⟨rfl, rfl⟩
            generalize packS C = S
            go_wp2_with fail
            refine (st_len HW2.out rfl).mono ?_
            rintro e w' ⟨rfl, rfl⟩
            go_wp2_with fail
            refine (st_len HW.out rfl).mono ?_
            rintro e w' ⟨rfl, rfl⟩
            go_wp2_with fail
            go_ret
            exact ⟨rfl, HEND.out⟩
end Go.Proofs.Ytocooplmfkeepaa
