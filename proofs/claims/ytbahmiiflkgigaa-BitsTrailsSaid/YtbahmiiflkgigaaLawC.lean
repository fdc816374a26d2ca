/- The statement BitsTrails: the walk. -/
import Derived.Test.YtbahmiiflkgigaaLawA
namespace Go.Proofs.Ytbahmiiflkgigaa
open Go.RowKit
set_option linter.unusedVariables false
set_option linter.unusedSimpArgs false
attribute [local go_sem] and_1 and_31

/-- bits, noughts, and a Trail behind them -/
theorem trails_facts (t k : Nat) (ht : t ≤ 1) (hk : k ≤ 31) :
    ∃ S : ByteArray, packS (trL (([] ++ dig t 1) ++ dig 0 k)) = S ∧ ((trL (([] ++ dig t 1) ++ dig 0 k)).length : Int) = (1 + (k : Int)) / 8 * 8 + 8 ∧ S.size ≤ 100 ∧ 1 + k ≤ 8 * S.size ∧
      8 * S.size = (1 + k) / 8 * 8 + 8 ∧ moreR (sbit S) (8 * S.size) 0 = true ∧ (bitsR (sbit S) (8 * S.size) 0 (1 + (k : Int))).at_ = 1 + k ∧ moreR (sbit S) (8 * S.size) (1 + k) = false ∧ trailR (sbit S) (8 * S.size) (1 + k) = (0, 8 * S.size) ∧ trailR (sbit S) (8 * S.size) (8 * S.size) = (101, 8 * S.size) := by
  obtain ⟨b, hb⟩ : ∃ b, b = ([] ++ dig t 1) ++ dig 0 k := ⟨_, rfl⟩
  rw [← hb]
  have hbl : b.length = 1 + k := by rw [hb]; simp [dig_len]
  have hL := trL_len b
  rw [hbl] at hL
  have hsz := packS_size (trL b)
  rw [hL] at hsz
  have h8 : 8 * (packS (trL b)).size = (1 + k) / 8 * 8 + 8 := by rw [hsz]; omega
  have hone : sbit (packS (trL b)) (1 + k) = true := by
    rw [sbit_pack]
    unfold trL
    rw [List.getD_eq_getElem?_getD, List.getElem?_append_right (by omega), hbl, Nat.sub_self]
    rfl
  have hnought : ∀ i, 1 + k < i → sbit (packS (trL b)) i = false := by
    intro i hi
    rw [sbit_pack]
    unfold trL
    rw [List.getD_eq_getElem?_getD, List.getElem?_append_right (by omega), hbl]
    obtain ⟨j, hj⟩ : ∃ j, i - (1 + k) = j + 1 := ⟨i - (1 + k) - 1, by omega⟩
    rw [hj, List.getElem?_cons_succ, List.getElem?_replicate]
    split <;> rfl
  have hlast : lastI (sbit (packS (trL b))) (8 * (packS (trL b)).size) = ((1 + k : Nat) : Int) := by
    rw [lastI_at]
    exact ⟨by omega, hone, fun i h1 _ => hnought i h1⟩
  refine ⟨packS (trL b), rfl, by rw [hL]; omega, by omega, by omega, h8, ?_, ?_, ?_, ?_, ?_⟩
  · unfold moreR
    rw [hlast]
    simp
    omega
  · unfold bitsR
    rw [if_neg (by omega), if_neg (by omega)]
    show 0 + (1 + (k : Int)).toNat = _
    omega
  · unfold moreR
    rw [hlast]
    simp
  · unfold trailR
    rw [if_pos ⟨hlast, by omega⟩]
  · unfold trailR
    rw [if_neg (fun q => by rw [hlast] at q; omega)]

set_option maxRecDepth 100000 in
set_option maxHeartbeats 3200000 in
theorem walk_BitsTrails (many x : Int) (w : World) (_ : (Lit.int .i64 many).wf = true) (_ : (Lit.int .i64 x).wf = true) :
    Calls Try.prog 7 #[.int .i64 many, .int .i64 x] w fun e w' => e = .returned (.bool true) ∧ Below w.heap.size w w' := by
  obtain ⟨k, hk⟩ : ∃ k : Nat, many % 32 = k := ⟨(many % 32).toNat, by omega⟩
  obtain ⟨t, ht⟩ : ∃ t : Nat, x % 2 = t := ⟨(x % 2).toNat, by omega⟩
  have hk31 : k ≤ 31 := by omega
  have ht1 : t ≤ 1 := by omega
  obtain ⟨S, hS, hlen, hsz, hks, h8, hm0, hat, hm1, ht0, ht2⟩ := trails_facts t k ht1 hk31
  have HS := Lib.hid hS
  have HLEN := Lib.hid hlen
  have HM0 := Lib.hid hm0
  have HAT := Lib.hid hat
  have HM1 := Lib.hid hm1
  have HT0 := Lib.hid ht0
  have HT2 := Lib.hid ht2
  have H8 := Lib.hid h8
  clear hS hlen hm0 hat hm1 ht0 ht2 h8
  go_enter Try.func7, Try.ntmps7
  go_wp2_with fail
  refine (awake_any _).mono ?_
  rintro e w1 ⟨rfl, hb⟩
  have BB := Lib.hid hb
  clear hb
  go_wp2_with fail
  refine (st_new _).mono ?_
  rintro e w2 ⟨rfl, hw⟩
  have HW := Lib.hid hw
  clear hw hk
  go_wp2_with fail
  clear ht
  refine (st_bits HW.out (by omega) t 1 (by omega) (by omega) (by omega) (by simp; omega)).mono ?_
  rintro e w3 ⟨rfl, v, hw⟩
  have HW := Lib.hid hw
  clear hw
  go_wp2_with fail
  refine (st_bits HW.out (by omega) 0 k (by omega) (by omega) (by omega) (Int.pow_pos (by decide))).mono ?_
  rintro e w4 ⟨rfl, v, hw⟩
  have HW := Lib.hid hw
  clear hw
  go_wp2_with fail
  refine (st_trail HW.out (by omega)).mono ?_
  rintro e w5 ⟨rfl, v, hw⟩
  have HW : Hid (WStep w1 w5 w1.heap.size v (trL (([] ++ dig t 1) ++ dig 0 k)) 1000) := Lib.hid ⟨hw.1, hw.2.1, hw.2.2.1, Nat.le_trans hw.2.2.2 (by omega)⟩
  clear hw
  go_wp2_with fail
  refine (st_bytes HW.out HS.out).mono ?_
  rintro e w' ⟨rfl, rfl⟩
  go_wp2_with fail
  refine (st_open _ _).mono ?_
  rintro e w6 ⟨rfl, hr⟩
  have HR := Lib.hid hr
  clear hr
  go_wp2_with fail
  refine (st_more HR.out (by omega)).mono ?_
  rintro e w7 ⟨rfl, hr⟩
  have HR := Lib.hid hr
  rw [HM0.out]
  clear hr
  go_wp2_with fail
  refine (st_rbits HR.out (by omega) (by omega) _).mono ?_
  rintro e w8 ⟨rfl, hr⟩
  rw [HAT.out] at hr
  have HR := Lib.hid hr
  clear hr
  go_wp2_with fail
  refine (st_more HR.out (by omega)).mono ?_
  rintro e w9 ⟨rfl, hr⟩
  have HR := Lib.hid hr
  rw [HM1.out]
  clear hr
  have hq := st_rtrail HR.out (by omega) (by omega)
  rw [HT0.out] at hq
  have HQ := Lib.hid hq
  clear hq
  go_wp2_with fail
  refine HQ.out.mono ?_
  rintro e w10 ⟨rfl, hr⟩
  have HR := Lib.hid hr
  clear hr HQ
  have hq := st_rtrail HR.out (by omega) (by omega)
  rw [HT2.out] at hq
  have HQ := Lib.hid hq
  clear hq
  go_wp2_with fail
  refine HQ.out.mono ?_
  rintro e w11 ⟨rfl, hr⟩
  have HR := Lib.hid hr
  have HW := Lib.hid (HW.out.go hr.2.2)
  clear hr HQ
  obtain ⟨L, hL⟩ : ∃ L : Nat, L = 8 * S.size := ⟨_, rfl⟩
  have HA : Hid (Calls Try.prog 28 #[.pointer (some ⟨w5.heap.size, 0, none⟩)] w11 fun e w' => e = .returned (.int .i64 L) ∧ w11 = w') := Lib.hid (by rw [hL]; exact st_at HR.out)
  have hl2 : ((trL (([] ++ dig t 1) ++ dig 0 k)).length : Int) = L := by rw [HLEN.out]; have := H8.out; omega
  have HL2 := Lib.hid hl2
  have hL8 : (L : Int) % 8 = 0 := by have := H8.out; omega
  have hLb : L ≤ 800 := by omega
  have hLk : (L : Int) = (1 + (k : Int)) / 8 * 8 + 8 := by have := H8.out; omega
  have hLe : ((L : Int) == (1 + (k : Int)) / 8 * 8 + 8) = true := by rw [beq_iff_eq]; exact hLk
  clear hL hl2 hLk
  go_wp2_with (first | (go_at_call 12; refine (num_any _ _).mono ?_; rintro e w' ⟨rfl, rfl⟩) | (go_at_call 22; refine (st_len HW.out HL2.out).mono ?_; rintro e w' ⟨rfl, rfl⟩) | (go_at_call 28; refine HA.out.mono ?_; rintro e w' ⟨rfl, rfl⟩))
  go_ret
  exact ⟨rfl, HW.out.from BB.out⟩
end Go.Proofs.Ytbahmiiflkgigaa
