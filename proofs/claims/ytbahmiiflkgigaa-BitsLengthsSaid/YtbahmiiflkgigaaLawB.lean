/- The statement BitsLengths: the walk. -/
import Derived.Test.YtbahmiiflkgigaaLawA
namespace Go.Proofs.Ytbahmiiflkgigaa
open Go.RowKit
set_option linter.unusedVariables false
set_option linter.unusedSimpArgs false

set_option maxRecDepth 100000 in
set_option maxHeartbeats 3200000 in
theorem walk_BitsLengths (x : Int) (w : World) (_ : (Lit.int .i64 x).wf = true) :
    Calls Try.prog 4 #[.int .i64 x] w fun e w' => e = .returned (.bool true) ∧ Below w.heap.size w w' := by
  have hu := u64_tmod_bd x 2147483647 (by omega)
  obtain ⟨k, hk⟩ : ∃ k, (IntKind.u64.wrap x).tmod 2147483647 = k := ⟨_, rfl⟩
  rw [hk] at hu
  go_enter Try.func4, Try.ntmps4
  go_wp2_with fail
  refine (awake_any _).mono ?_
  rintro e w1 ⟨rfl, hb⟩
  have BB := Lib.hid hb
  clear hb
  go_wp2_with fail
  have HU := Lib.hid hu
  clear hk
  refine (st_new _).mono ?_
  rintro e w2 ⟨rfl, hw⟩
  have HW := Lib.hid hw
  clear hw
  go_wp2_with fail
  refine (st_ue HW.out (by omega) k (by omega) (by omega)).mono ?_
  rintro e w3 ⟨rfl, v, hw⟩
  have HW := Lib.hid hw
  clear hw
  have hl31 := lg_lt_of (k.toNat + 1) 31 (by omega) (by omega)
  obtain ⟨D, hD⟩ : ∃ D, D = lg (k.toNat + 1) := ⟨_, rfl⟩
  rw [← hD] at hl31
  have HD := Lib.hid hD
  have hlen : ((([] : List Bool) ++ ueL k.toNat).length : Int) = 2 * (D : Int) + 1 := by simp only [List.nil_append]; rw [ueL_len, ← hD]; omega
  have hsz : (packS (([] : List Bool) ++ ueL k.toNat)).size = (2 * D + 8) / 8 := by rw [packS_size]; simp only [List.nil_append]; rw [ueL_len, ← hD]
  obtain ⟨S, hS⟩ : ∃ S, packS (([] : List Bool) ++ ueL k.toNat) = S := ⟨_, rfl⟩
  rw [hS] at hsz
  have HS := Lib.hid hS
  have HLEN := Lib.hid hlen
  have HSZ := Lib.hid hsz
  clear hD hS hlen hsz
  go_wp2_with fail
  go_loop [6, 7] (fun s t => ∃ d y : Nat, s = .int .i64 d ∧ t = .int .i64 y ∧ 1 ≤ y ∧ y ≤ 2147483647 ∧ d + lg y = D ∧ d ≤ 31) (fun _ t => (intOf t).toNat)
  case atStart => exact ⟨0, k.toNat + 1, rfl, by congr 1; omega, by omega, by omega, by rw [← HD.out]; omega, by omega⟩
  case round =>
    obtain ⟨d, y, rfl, rfl, h1, h2, h3, h4⟩ := hrel
    have H3 := Lib.hid h3
    clear h3
    by_cases hy : 1 < y
    · have hh := lg_half y (by omega)
      have hk : d + 1 + lg (y / 2) = D := by have := H3.out; omega
      have HK := Lib.hid hk
      have hd31 : d + 1 ≤ 31 := by omega
      clear hh hk
      go_wp2_with fail
      go_round
      case rel => exact ⟨d + 1, y / 2, by go_num, by go_num, by omega, by omega, HK.out, by omega⟩
      case measure => simp [intOf]; omega
    · obtain rfl : y = 1 := by omega
      obtain rfl : d = D := by have := H3.out; rw [lg_one 1 (by omega)] at this; omega
      clear H3
      go_wp2_with fail
      refine (st_new _).mono ?_
      rintro e w4 ⟨rfl, hv⟩
      have HV := Lib.hid hv
      clear hv
      have hu0 := HU.out
      go_wp2_with fail
      refine (st_se HV.out (by omega) (k / 4) (by omega) (by omega)).mono ?_
      rintro e w5 ⟨rfl, v5, hv⟩
      have HV := Lib.hid hv
      clear hv
      go_wp2_with fail
      refine (st_se HV.out (by omega) (-(k / 4)) (by omega) (by omega)).mono ?_
      rintro e w6 ⟨rfl, v6, hv⟩
      have HW := Lib.hid (HW.out.go hv.2.2.1)
      have HV := Lib.hid hv
      clear hv
      have hsz := HSZ.out
      have hm : ((S.size : Nat) : Int) = (2 * (d : Int) + 8) / 8 := by omega
      clear hsz
      go_wp2_with (first | (go_at_call 23; refine (st_bytes HW.out HS.out).mono ?_; rintro e w' ⟨rfl, rfl⟩) | (go_at_call 12; refine (num_any _ _).mono ?_; rintro e w' ⟨rfl, rfl⟩) | (go_at_call 22; refine (st_len HW.out HLEN.out).mono ?_; rintro e w' ⟨rfl, rfl⟩))
      go_ret
      exact ⟨rfl, HW.out.from BB.out⟩
end Go.Proofs.Ytbahmiiflkgigaa
