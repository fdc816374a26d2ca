/- awake of the bits' statements. -/
import Derived.Test.YtbahmiiflkgigaaBitG
namespace Go.Proofs.Ytbahmiiflkgigaa
open Go.RowKit
set_option linter.unusedVariables false
set_option linter.unusedSimpArgs false

theorem awake_bits : trL ((([] ++ ueL (3 : Int).toNat) ++ seL (-1)) ++ teL (0 : Int).toNat (1 : Int).toNat) = [false, false, true, false, false, false, true, true, true, true, false, false, false, false, false, false] := by decide +kernel
theorem awake_text : packS [false, false, true, false, false, false, true, true, true, true, false, false, false, false, false, false] = ⟨#[35, 192]⟩ := by decide +kernel
theorem awake_ue : ueR (sbit ⟨#[35, 192]⟩) (8 * (ByteArray.mk #[35, 192]).size) 0 = ⟨3, 0, 5⟩ := by
  have h : (ueR (sbit ⟨#[35, 192]⟩) (8 * (ByteArray.mk #[35, 192]).size) 0).x = 3 ∧ (ueR (sbit ⟨#[35, 192]⟩) (8 * (ByteArray.mk #[35, 192]).size) 0).e = 0 ∧ (ueR (sbit ⟨#[35, 192]⟩) (8 * (ByteArray.mk #[35, 192]).size) 0).at_ = 5 := by decide +kernel
  cases hq : ueR (sbit ⟨#[35, 192]⟩) (8 * (ByteArray.mk #[35, 192]).size) 0
  rw [hq] at h
  obtain ⟨h1, h2, h3⟩ := h
  simp only at h1 h2 h3
  rw [h1, h2, h3]
theorem awake_se : seR (sbit ⟨#[35, 192]⟩) (8 * (ByteArray.mk #[35, 192]).size) 5 = ⟨-1, 0, 8⟩ := by
  have h : (seR (sbit ⟨#[35, 192]⟩) (8 * (ByteArray.mk #[35, 192]).size) 5).x = -1 ∧ (seR (sbit ⟨#[35, 192]⟩) (8 * (ByteArray.mk #[35, 192]).size) 5).e = 0 ∧ (seR (sbit ⟨#[35, 192]⟩) (8 * (ByteArray.mk #[35, 192]).size) 5).at_ = 8 := by decide +kernel
  cases hq : seR (sbit ⟨#[35, 192]⟩) (8 * (ByteArray.mk #[35, 192]).size) 5
  rw [hq] at h
  obtain ⟨h1, h2, h3⟩ := h
  simp only at h1 h2 h3
  rw [h1, h2, h3]

set_option maxRecDepth 100000 in
set_option maxHeartbeats 3200000 in
theorem awake_any (w : World) : Calls Try.prog 25 #[] w fun e w' => e = .returned (.bool true) ∧ Below w.heap.size w w' := by
  go_enter Try.func25, Try.ntmps25
  go_wp2_with fail
  refine (st_new _).mono ?_
  rintro e w1 ⟨rfl, hw⟩
  have HW := Lib.hid hw
  clear hw
  go_wp2_with fail
  refine (st_ue HW.out (by omega) 3 (by omega) (by omega)).mono ?_
  rintro e w2 ⟨rfl, v, hw⟩
  have HW := Lib.hid hw
  clear hw
  go_wp2_with fail
  refine (st_se HW.out (by omega) (-1) (by omega) (by omega)).mono ?_
  rintro e w3 ⟨rfl, v, hw⟩
  have HW := Lib.hid hw
  clear hw
  go_wp2_with fail
  refine (st_te HW.out (by omega) 0 1 (by omega) (by omega) (by omega) (by omega)).mono ?_
  rintro e w4 ⟨rfl, v, hw⟩
  have HW := Lib.hid hw
  clear hw
  go_wp2_with fail
  refine (bits_no _ 4 2 _ (by decide)).mono ?_
  rintro e w' ⟨rfl, rfl⟩
  go_wp2_with fail
  refine (st_trail HW.out (by omega)).mono ?_
  rintro e w5 ⟨rfl, v, hw⟩
  rw [awake_bits] at hw
  have HW := Lib.hid hw
  clear hw
  go_wp2_with fail
  refine (st_bytes HW.out awake_text).mono ?_
  rintro e w' ⟨rfl, rfl⟩
  go_wp2_with fail
  refine (st_open _ _).mono ?_
  rintro e w6 ⟨rfl, hr⟩
  have HR := Lib.hid hr
  clear hr
  have hu := st_rue HR.out (by decide) (by omega)
  rw [awake_ue] at hu
  have HU := Lib.hid hu
  clear hu
  go_wp2_with fail
  refine HU.out.mono ?_
  rintro e w7 ⟨rfl, hr⟩
  have HR := Lib.hid hr
  clear hr
  have hu := st_rse HR.out (by decide) (by decide)
  rw [awake_se] at hu
  have HU := Lib.hid hu
  clear hu
  go_wp2_with fail
  refine HU.out.mono ?_
  rintro e w8 ⟨rfl, hr⟩
  have HW := Lib.hid (HW.out.go hr.2.2)
  have HR := Lib.hid hr
  clear hr HU
  go_wp2_with (first | (go_at_call 23; refine (st_bytes HW.out awake_text).mono ?_; rintro e w' ⟨rfl, rfl⟩) | (go_at_call 12; refine (num_any _ _).mono ?_; rintro e w' ⟨rfl, rfl⟩) | (go_at_call 28; refine (st_at HR.out).mono ?_; rintro e w' ⟨rfl, rfl⟩))
  go_ret
  exact ⟨rfl, HW.out.2.2.1⟩
end Go.Proofs.Ytbahmiiflkgigaa
