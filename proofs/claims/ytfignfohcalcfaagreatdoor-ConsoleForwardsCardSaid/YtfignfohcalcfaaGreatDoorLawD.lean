/- The statement ConsoleForwards: its walk. -/
import Derived.Test.YtfignfohcalcfaaGreatDoorLawC
import Derived.Test.YtfignfohcalcfaaGreatDoorFwdA
import Derived.Test.YtfignfohcalcfaaGreatDoorRow
namespace Go.Proofs.YtfignfohcalcfaaGreatDoor
open Go.RowKit
set_option linter.unusedVariables false
set_option linter.unusedSimpArgs false
attribute [local go_sem] ite_max ite_min and_3

theorem cols_bd2 (l : List Int) (h : ∀ j, j < 16 → Sm 20000000 (g16 l j)) : ∀ x ∈ colsF l, -1000000000000 ≤ x ∧ x ≤ 1000000000000 := by
  intro x hx
  unfold colsF at hx
  obtain ⟨j, hj, rfl⟩ := List.mem_map.1 hx
  have hj := List.mem_range.1 hj
  have h0 := h (j % 4) (by omega)
  have h1 := h (4 + j % 4) (by omega)
  have h2 := h (8 + j % 4) (by omega)
  have h3 := h (12 + j % 4) (by omega)
  obtain ⟨i, hi⟩ : ∃ i, j / 4 = i := ⟨_, rfl⟩
  rw [hi]
  have hi4 : i = 0 ∨ i = 1 ∨ i = 2 ∨ i = 3 := by omega
  unfold Sm at *
  rcases hi4 with rfl | rfl | rfl | rfl <;> (simp only [g16, fwd4, List.getD_cons_zero, List.getD_cons_succ] at *; omega)
theorem fwd_bd2 (l : List Int) (hl : l.length = 16) : ∀ x ∈ fwdF l, -1000000000000 ≤ x ∧ x ≤ 1000000000000 := cols_bd2 _ (fun j hj => rowsF_bd _ (fun i hi => clip_bd l i hl hi) j hj)
/-- the block as it stands after k rounds -/
def fbL (f : Nat → Int) (k : Nat) : List Int := (List.range 16).map fun j => if j < k then f j else 0
theorem fbL_length (f : Nat → Int) (k : Nat) : (fbL f k).length = 16 := by simp [fbL]
theorem fbL_set (f : Nat → Int) (k : Nat) (hk : k < 16) (x : Int) : ((fbL f k).set k x).set k (f k) = fbL f (k + 1) := by
  refine g16_ext (by rw [List.length_set, List.length_set, fbL_length, fbL_length]) fun j hj => ?_
  rw [List.length_set, List.length_set, fbL_length] at hj
  rw [g16_set _ _ _ _ (by rw [List.length_set, fbL_length]; exact hk), g16_set _ _ _ _ (by rw [fbL_length]; exact hk)]
  unfold fbL
  rw [g16_range _ _ _ hj, g16_range _ _ _ hj]
  by_cases h : k = j
  · subst h
    rw [if_pos rfl, if_pos (by omega)]
  · rw [if_neg h, if_neg h]
    by_cases h2 : j < k
    · rw [if_pos h2, if_pos (by omega)]
    · rw [if_neg h2, if_neg (by omega)]
theorem fbL_one (f : Nat → Int) (k : Nat) (hk : k < 16) : (fbL f k).set k (f k) = fbL f (k + 1) := by
  have := fbL_set f k hk (f k)
  rw [List.set_set] at this
  exact this
theorem fbL_zero (f : Nat → Int) : iA (fbL f 0) = z16 := rfl
theorem fbL_full (f : Nat → Int) : fbL f 16 = (List.range 16).map f := by
  refine g16_ext (by simp [fbL]) fun j hj => ?_
  rw [fbL_length] at hj
  unfold fbL
  rw [g16_range _ _ _ hj, g16_range _ _ _ hj, if_pos hj]
def fbT (f : Nat → Int) (k : Nat) : List UInt8 := fwdW ++ numT ((List.range k).map f)
theorem fbT_step (f : Nat → Int) (k : Nat) : fbT f (k + 1) = fbT f k ++ [32] ++ Lib.itoa (f k) := by
  unfold fbT
  rw [List.range_succ, List.map_append, List.map_cons, List.map_nil, numT_snoc]
  simp
theorem fbT_len (f : Nat → Int) (h : ∀ j, -10000000000 < f j ∧ f j < 10000000000) (k : Nat) (hk : k ≤ 16) : (fbT f k).length ≤ 1000 := by
  unfold fbT
  have := numT_len ((List.range k).map f) (fun x hx => by
    obtain ⟨j, _, rfl⟩ := List.mem_map.1 hx
    exact h j)
  rw [List.length_map, List.length_range] at this
  have e : fwdW.length = 7 := rfl
  rw [List.length_append, e]
  have h2 : k * 22 ≤ 16 * 22 := Nat.mul_le_mul hk (Nat.le_refl _)
  omega
theorem iA_get2 {l : List Int} {k : Nat} {x : Int} (hk : k < l.length) : (iA (l.set k x))[k]? = some (.int .i64 x) := by
  simp [iA, hk]
set_option maxRecDepth 100000 in
set_option maxHeartbeats 3200000 in
theorem walk_ConsoleForwards (a0 : Option Addr) (len_a0 cap_a0 : Nat) (z_a0 : Nat → Int) (w : World) (w_a0 : IntsArg w a0 len_a0 cap_a0 z_a0) (T : Tabs w) :
    Calls Tryz.prog 5 #[.slice a0 len_a0 cap_a0] w fun e w' => e = .returned (.bool true) ∧ Below w.heap.size w w' := by
  obtain ⟨hRi, hA0, hle, hcap, hwf⟩ := w_a0
  obtain ⟨f, hf⟩ : ∃ f : Nat → Int, f = fun i => if i < len_a0 then (z_a0 i).tmod 10000 else (i : Int) := ⟨_, rfl⟩
  have hfb0 : ∀ j, j < 16 → -10000 < f j ∧ f j < 10000 := fun j hj => by
    have := tmod_bd (z_a0 j) 10000 (by decide)
    rw [hf]
    show -10000 < (if j < len_a0 then (z_a0 j).tmod 10000 else (j : Int)) ∧ (if j < len_a0 then (z_a0 j).tmod 10000 else (j : Int)) < 10000
    split <;> omega
  obtain ⟨F, hF⟩ : ∃ F : Nat → Int, F = fun i => if i < 16 then f i else 0 := ⟨_, rfl⟩
  have hFb : ∀ j, -10000 < F j ∧ F j < 10000 := fun j => by
    rw [hF]
    show -10000 < (if j < 16 then f j else 0) ∧ (if j < 16 then f j else 0) < 10000
    by_cases hj : j < 16
    · rw [if_pos hj]; exact hfb0 j hj
    · rw [if_neg hj]; decide
  have hF1 : ∀ j, j < 16 → j < len_a0 → F j = (z_a0 j).tmod 10000 := fun j hj h => by rw [hF, hf]; show (if j < 16 then (if j < len_a0 then (z_a0 j).tmod 10000 else (j : Int)) else 0) = _; rw [if_pos hj, if_pos h]
  have hF2 : ∀ j, j < 16 → ¬ j < len_a0 → F j = (j : Int) := fun j hj h => by rw [hF, hf]; show (if j < 16 then (if j < len_a0 then (z_a0 j).tmod 10000 else (j : Int)) else 0) = _; rw [if_pos hj, if_neg h]
  clear hF hf hfb0
  obtain ⟨l, hl⟩ : ∃ l, (List.range 16).map F = l := ⟨_, rfl⟩
  have hll : l.length = 16 := by rw [← hl]; simp
  have hlb : ∀ x ∈ l, -10000000000 < x ∧ x < 10000000000 := fun x hx => by
    rw [← hl] at hx
    obtain ⟨j, _, rfl⟩ := List.mem_map.1 hx
    have := hFb j
    omega
  have hcon := conF_fwd l hll hlb
  have hbt : fbT F 16 = fwdW ++ numT l := by unfold fbT; rw [hl]
  have hbl := fbL_full F
  rw [hl] at hbl
  rw [← hbt] at hcon
  have HFW := Lib.hid (fun w => forward_any l w hll)
  have hmb := fwd_bd2 l hll
  have hml := fwdF_length l
  obtain ⟨m, hm⟩ : ∃ m, fwdF l = m := ⟨_, rfl⟩
  rw [hm] at HFW hmb hml hcon
  have hrz := rowF_size m (by omega) (fun x hx => by have := hmb x hx; unfold I64; omega)
  have HTL := Lib.hid (fun k hk => fbT_len F (fun j => by have := hFb j; omega) k hk)
  have HFB := Lib.hid hFb
  have HF1 := Lib.hid hF1
  have HF2 := Lib.hid hF2
  have HROW := Lib.hid (fun A c w h => rowd_any m A c w h (by omega) hmb)
  have HONE := Lib.hid (fun w T => onex_any (tx (fbT F 16)) (rowF m) w T hcon (by omega))
  rw [hml] at HROW
  obtain ⟨R, hR⟩ : ∃ R, rowF m = R := ⟨_, rfl⟩
  rw [hR] at HROW HONE
  have HBL := Lib.hid hbl
  have HRI := Lib.hid hRi
  have HAW := Lib.hid (awake_any w T)
  have HT := Lib.hid T
  clear hRi hA0 hwf hFb hF1 hF2 hl hlb hcon hbt hbl hm hmb hrz hR T
  go_enter Tryz.func5, Tryz.ntmps5
  go_wp2_with fail
  refine HAW.out.mono ?_
  rintro e w1 ⟨rfl, hb1⟩
  obtain ⟨r, hr⟩ : ∃ r, w1.heap.size = r := ⟨_, rfl⟩
  have kz := Bk.new w1 38 z16
  have hbz := hb1.alloc hb1.size (.cells z16 38)
  have hsz1 := hb1.size
  rw [hr] at kz hsz1
  have HKZ := Lib.hid kz
  have HBZ := Lib.hid hbz
  have HR := Lib.hid hr
  clear hb1 kz hbz hr HAW
  go_wp2_with fail
  change Code.wp _ _ _ _ (w1.alloc (Obj.cells z16 38))
  obtain ⟨w0, hw0⟩ : ∃ x, x = w1.alloc (.cells z16 38) := ⟨_, rfl⟩
  rw [← hw0] at HKZ HBZ ⊢
  rw [HR.out]
  clear hw0
  go_loopw [4, 5] (fun s i wr => ∃ k : Nat, k ≤ 16 ∧ i = .int .i64 k ∧ s = .string (tx (fbT F k)) ∧ Bk wr r 38 (iA (fbL F k)) ∧ Below w.heap.size w wr) (fun _ i _ => 16 - (intOf i).toNat)
  case atStart => exact ⟨0, Nat.zero_le _, rfl, rfl, by rw [fbL_zero]; exact HKZ.out, HBZ.out⟩
  case round =>
    obtain ⟨k, hk, rfl, rfl, hA, hB⟩ := hrel
    have HA := Lib.hid hA
    have HB := Lib.hid hB
    clear hA hB HKZ HBZ
    by_cases hlt : k < 16
    · have hfz := HA.out.frozen k
      have hi0 : (0 : Int) ≤ (k : Int) := Int.natCast_nonneg _
      have hi1 : (k : Int) < 16 := by omega
      have hn0 : (0 : Int) ≤ (len_a0 : Int) := Int.natCast_nonneg _
      have hsize : (iA (fbL F k)).size = 16 := by rw [iA_size, fbL_length]
      have hst := fbT_step F k
      have htl := HTL.out k hk
      have hxb := HFB.out k
      have HD := Lib.hid (fun w => dec_any (F k) w (by omega) (by omega))
      have hil := itoa_len (F k) (by omega) (by omega)
      have hq1 := fbL_set F k hlt (k : Int)
      have hq2 := fbL_one F k hlt
      have hE : tx (fbT F k) ++ (⟨#[32]⟩ : ByteArray) ++ tx (Lib.itoa (F k)) = tx (fbT F (k + 1)) := by
        rw [hst, ← tx_data (tx (fbT F k) ++ (⟨#[32]⟩ : ByteArray) ++ tx (Lib.itoa (F k)))]
        simp [tx]
      obtain ⟨Y, hY⟩ : ∃ Y, tx (fbT F k) ++ (⟨#[32]⟩ : ByteArray) = Y := ⟨_, rfl⟩
      have hYs : (Y.size : Int) ≤ 8388608 := by
        rw [← hY, ByteArray.size_append, tx_size, show (⟨#[32]⟩ : ByteArray).size = 1 from rfl]
        omega
      have hTs : ((tx (fbT F k)).size : Int) ≤ 8388608 := by rw [tx_size]; omega
      have hIs : ((tx (Lib.itoa (F k))).size : Int) ≤ 8388608 := by rw [tx_size]; omega
      rw [hY] at hE
      obtain ⟨Z, hZ⟩ : ∃ Z, tx (fbT F k) = Z := ⟨_, rfl⟩
      rw [hZ] at hY hTs ⊢
      obtain ⟨D, hD⟩ : ∃ D, tx (Lib.itoa (F k)) = D := ⟨_, rfl⟩
      rw [hD] at hE HD hIs
      have hx1 := HF1.out k hlt
      have hx2 := HF2.out k hlt
      have hb1 := HB.out.setCell (p := ⟨r, k, none⟩) hsz1 (.int .i64 (k : Int))
      have hA1 := HA.out.set_ k (.int .i64 (k : Int))
      rw [iA_set] at hA1
      have HA1 := Lib.hid hA1
      have HB1 := Lib.hid hb1
      have HC3 : Hid ((wr.setCell ⟨r, k, none⟩ (.int .i64 (k : Int))).cell? ⟨r, k, none⟩ = some (.int .i64 (k : Int))) := Lib.hid (by
        have h := (HA.out.set_ k (.int .i64 (k : Int))).cell k
        rw [iA_set, iA_get2 (by rw [fbL_length]; exact hlt)] at h
        exact h)
      have hc0 := HA.out.cell k
      rw [iA_get (fbL_length F k) hlt] at hc0
      obtain ⟨y0, hy0⟩ : ∃ y, g16 (fbL F k) k = y := ⟨_, rfl⟩
      rw [hy0] at hc0
      clear hy0
      clear hst htl hil hZ hD hA1 hb1 hsize
      by_cases hkn : k < len_a0
      · obtain ⟨ad, rfl, had, hcc⟩ := HRI.out.at_ hkn
        have hkn2 : (k : Int) < (len_a0 : Int) := by omega
        have hx := hx1 hkn
        clear hx1 hx2
        have hcw : (wr.setCell ⟨r, k, none⟩ (.int .i64 (k : Int))).cell? (ad.add k) = some (.int .i64 (z_a0 k)) := (HB1.out.cell (p := ad.add k) (by rw [block_add]; exact had)).trans hcc
        obtain ⟨x, hxx⟩ : ∃ x, F k = x := ⟨_, rfl⟩
        rw [hxx] at hx hq1 hxb HD
        have HQ1 := Lib.hid hq1
        clear hq1 hq2 hxx hcc
        go_upto_region 10 with fail
        obtain ⟨w2, hw2⟩ : ∃ x, x = wr.setCell ⟨r, k, none⟩ (.int .i64 (k : Int)) := ⟨_, rfl⟩
        rw [← hw2] at HA1 HB1 hcw HC3 ⊢
        have hc2 := HC3.out
        clear hw2 hfz HA HB hc0
        have hfz := HA1.out.frozen k
        have hx' := hx.symm
        clear hx
        have hb3 := HB1.out.setCell (p := ⟨r, k, none⟩) hsz1 (.int .i64 x)
        have hA3 := HA1.out.set_ k (.int .i64 x)
        rw [iA_set] at hA3
        have hc3 := hA3.cell k
        rw [iA_get2 (by rw [List.length_set, fbL_length]; exact hlt)] at hc3
        rw [HQ1.out] at hA3
        have HA3 := Lib.hid hA3
        have HB3 := Lib.hid hb3
        clear hA3 hb3
        go_upto_region 11 with fail
        obtain ⟨w3, hw3⟩ : ∃ y, y = w2.setCell ⟨r, k, none⟩ (.int .i64 x) := ⟨_, rfl⟩
        rw [← hw3] at HA3 HB3 hc3 ⊢
        clear hw3 hfz HA1 HB1 hcw hx' hc2 HC3
        have hfz := HA3.out.frozen k
        go_wp2_with fail
        refine (HD.out _).mono ?_
        rintro e w4 ⟨rfl, hb⟩
        have HA4 := Lib.hid (Bk.go HA3.out hb)
        have HB4 := Lib.hid (HB3.out.trans (hb.mono HB3.out.size))
        clear hb HA3 HB3 hc3 hfz
        go_wp2_with fail
        go_roundw
        case rel => exact ⟨k + 1, by omega, by go_num, rfl, HA4.out, HB4.out⟩
        case measure => simp [intOf]; omega
      · have hkn2 : ¬ (k : Int) < (len_a0 : Int) := by omega
        have hx := hx2 hkn
        clear hx1 hx2
        rw [hx] at hq2 hxb HD
        rw [hq2] at HA1
        clear hq1 hq2 hx
        go_upto_region 9 with fail
        obtain ⟨w3, hw3⟩ : ∃ y, y = wr.setCell ⟨r, k, none⟩ (.int .i64 (k : Int)) := ⟨_, rfl⟩
        rw [← hw3] at HA1 HB1 HC3 ⊢
        have hc3 := HC3.out
        clear hw3 hfz HA HB HC3 hc0
        have hfz := HA1.out.frozen k
        go_wp2_with fail
        refine (HD.out _).mono ?_
        rintro e w4 ⟨rfl, hb⟩
        have HA4 := Lib.hid (Bk.go HA1.out hb)
        have HB4 := Lib.hid (HB1.out.trans (hb.mono HB1.out.size))
        clear hb HA1 HB1 hc3 hfz
        go_wp2_with fail
        go_roundw
        case rel => exact ⟨k + 1, by omega, by go_num, rfl, HA4.out, HB4.out⟩
        case measure => simp [intOf]; omega
    · obtain rfl : k = 16 := by omega
      clear hlt hk
      have hA' := HA.out
      rw [HBL.out] at hA'
      have HA2 := Lib.hid hA'
      obtain ⟨Y, hY⟩ : ∃ Y, tx (fbT F 16) = Y := ⟨_, rfl⟩
      rw [hY] at HONE ⊢
      clear hA' HA hY
      go_wp2_with (refine wpList_load_row rfl _ _ rfl r rfl 38 (iA l) (0, 0) _ HA2.out Tryz.underlying38 rfl (by rw [iA_size, hll]; kernel_rfl) ?_)
      refine (HFW.out _).mono ?_
      rintro e w5 ⟨rfl, hb⟩
      have HB5 := Lib.hid (HB.out.trans (hb.mono HB.out.size))
      obtain ⟨q, hq⟩ : ∃ q, w5.heap.size = q := ⟨_, rfl⟩
      have hN := Bk.new w5 38 z16
      have hBN := HB5.out.alloc HB5.out.size (.cells z16 38)
      have hsq := HB5.out.size
      rw [hq] at hN hsq
      have HN := Lib.hid hN
      have HM := Lib.hid (bk_setRow (cs := iA m) hN)
      have HB6 := Lib.hid (below_setRow hBN hsq (iA m))
      have HQ := Lib.hid hq
      clear hb HB HA2 hN hBN hq hsq
      go_wp2_with (refine wpList_store_row rfl _ _ _ rfl q (iA m) (by rw [← HQ.out]; rfl) rfl _ _ HN.out (by rw [iA_size, hml]; kernel_rfl) (by rw [iA_size, hml]; rfl) (iA_all m) ?_)
      obtain ⟨W, hW⟩ : ∃ W, (w5.alloc (.cells z16 38)).setRow q (iA m) = W := ⟨_, rfl⟩
      change Calls _ _ _ ((w5.alloc (.cells z16 38)).setRow q (iA m)) _
      rw [hW] at HM HB6 ⊢
      clear hW HN HB5
      refine (HONE.out _ (HT.out.go HB6.out)).mono ?_
      rintro e w7 ⟨rfl, hb⟩
      have HM7 := Lib.hid (Bk.go HM.out hb)
      have HB7 := Lib.hid (HB6.out.trans (hb.mono HB6.out.size))
      clear hb HM HB6
      have HR7 := Lib.hid (HROW.out (some ⟨q, 0, none⟩) 16 w7 (fun _ => ⟨⟨q, 0, none⟩, rfl, HM7.out.lt, fun j hj => by
        rw [add_new, HM7.out.cell, iA_get hml (by omega)]
        rfl⟩))
      go_wp2_with fail
      rw [HQ.out]
      refine HR7.out.mono ?_
      rintro e w8 ⟨rfl, hb⟩
      have HB8 := Lib.hid (HB7.out.trans (hb.mono HB7.out.size))
      clear hb
      go_wp2_with fail
      go_ret
      exact ⟨rfl, HB8.out⟩
end Go.Proofs.YtfignfohcalcfaaGreatDoor
