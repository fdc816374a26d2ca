/- PutPps: the walk. -/
import Derived.Test.YtegfglpaabddlaaParD
import Derived.Test.YtegfglpaabddlaaParR
namespace Go.Proofs.Ytegfglpaabddlaa
open Go.RowKit
set_option linter.unusedVariables false
set_option linter.unusedSimpArgs false

set_option maxRecDepth 100000 in
theorem flag_any (b : Bool) (w : World) : Calls Try.prog 53 #[.bool b] w fun e w' => e = .returned (.int .i64 ((b.toNat : Nat) : Int)) ∧ w = w' := by
  cases b
  all_goals
    go_enter Try.func53, Try.ntmps53
    go_wp2_with fail
    go_ret
    exact ⟨rfl, rfl⟩
theorem dig_flag (b : Bool) : dig (((b.toNat : Nat) : Int)).toNat (1 : Int).toNat = [b] := by cases b <;> decide
theorem flag_bd (b : Bool) : 0 ≤ ((b.toNat : Nat) : Int) ∧ ((b.toNat : Nat) : Int) < 2 ^ (1 : Int).toNat := by cases b <;> decide

set_option maxRecDepth 100000 in
set_option maxHeartbeats 3200000 in
theorem putpp_any (p : Pp) (w : World) : Calls Try.prog 22 #[.agg (ppV p)] w fun e w' => e = .returned (.tuple #[.string (putPpS p), .int .i64 (putPpE p)]) ∧ Below w.heap.size w w' := by
  obtain ⟨S, hS⟩ : ∃ S, S = putPpS p := ⟨_, rfl⟩
  obtain ⟨E, hE⟩ : ∃ E, E = putPpE p := ⟨_, rfl⟩
  rw [← hS, ← hE]
  have HSE := Lib.hid (And.intro hS hE)
  obtain ⟨cabac, weighted, bipred, qp, cqp, con, deb, a0, a1⟩ := p
  clear hS hE
  unfold ppV
  have hB0 := (Below.refl w.heap.size w).alloc (Nat.le_refl _) (.cells #[.bool cabac, .bool weighted, .int .i64 bipred, .int .i64 qp, .int .i64 cqp, .bool con, .bool deb, .int .i64 a0, .int .i64 a1] 43)
  have hP0 := Bk.new w 43 #[.bool cabac, .bool weighted, .int .i64 bipred, .int .i64 qp, .int .i64 cqp, .bool con, .bool deb, .int .i64 a0, .int .i64 a1]
  have HB := Lib.hid hB0
  have HP := Lib.hid hP0
  clear hB0 hP0
  go_enter Try.func22, Try.ntmps22
  go_wp2_with fail
  refine (maypp_any ⟨cabac, weighted, bipred, qp, cqp, con, deb, a0, a1⟩ _).mono ?_
  rintro e w1 ⟨rfl, hb⟩
  have HP := Lib.hid (HP.out.go hb)
  have HB := Lib.hid (HB.out.trans (hb.mono HB.out.size))
  clear hb
  cases hm : mayPp ⟨cabac, weighted, bipred, qp, cqp, con, deb, a0, a1⟩
  · have HM := Lib.hid hm
    clear hm
    go_wp2_with fail
    go_ret2
    refine ⟨?_, HB.out⟩
    rw [HSE.out.1, HSE.out.2]
    unfold putPpS putPpE
    rw [HM.out]
    rfl
  · have hok := (mayPp_iff _).1 hm
    unfold PpOk at hok
    simp only at hok
    obtain ⟨⟨x0, x1⟩, ⟨x2, x3⟩, ⟨x4, x5⟩, ⟨x6, x7⟩, x8, x9⟩ := hok
    have HM := Lib.hid hm
    have hpl := HP.out.lt
    have c0 := HP.out.cell 0
    have c1 := HP.out.cell 1
    have c2 := HP.out.cell 2
    have c3 := HP.out.cell 3
    have c4 := HP.out.cell 4
    have c5 := HP.out.cell 5
    have c6 := HP.out.cell 6
    have c7 := HP.out.cell 7
    have c8 := HP.out.cell 8
    simp at c0 c1 c2 c3 c4 c5 c6 c7 c8
    clear hm
    go_wp2_with fail
    refine (st_new w1).mono ?_
    rintro e wa ⟨rfl, hw⟩
    have HW := Lib.hid hw
    obtain ⟨hcc, hff⟩ := bcell hw.2.2.1
    clear hw hff
    go_wp2_with fail
    refine (flag_any _ _).mono ?_
    rintro e w' ⟨rfl, rfl⟩
    go_wp2_with fail
    clear hcc
    refine (st_bits HW.out (by omega) _ 1 (by omega) (by omega) (flag_bd cabac).1 (flag_bd cabac).2).mono ?_
    rintro e wb0 ⟨rfl, v0, hw⟩
    (try rw [dig_flag] at hw)
    have HW := Lib.hid hw
    obtain ⟨hcc, hff⟩ := bcell hw.2.2.1
    clear hw hff
    go_wp2_with fail
    refine (flag_any _ _).mono ?_
    rintro e w' ⟨rfl, rfl⟩
    go_wp2_with fail
    clear hcc
    refine (st_bits HW.out (by omega) _ 1 (by omega) (by omega) (flag_bd weighted).1 (flag_bd weighted).2).mono ?_
    rintro e wb1 ⟨rfl, v1, hw⟩
    (try rw [dig_flag] at hw)
    have HW := Lib.hid hw
    obtain ⟨hcc, hff⟩ := bcell hw.2.2.1
    clear hw hff
    go_wp2_with fail
    clear hcc
    refine (st_bits HW.out (by omega) bipred 2 (by omega) (by omega) (by omega) (by have e4 : (2 : Int) ^ (2 : Int).toNat = 4 := rfl; omega)).mono ?_
    rintro e wb2 ⟨rfl, v2, hw⟩
    (try rw [dig_flag] at hw)
    have HW := Lib.hid hw
    obtain ⟨hcc, hff⟩ := bcell hw.2.2.1
    clear hw hff
    go_wp2_with fail
    clear hcc
    refine (st_ue HW.out (by omega) qp (by omega) (by omega)).mono ?_
    rintro e wb3 ⟨rfl, v3, hw⟩
    (try rw [dig_flag] at hw)
    have HW := Lib.hid hw
    obtain ⟨hcc, hff⟩ := bcell hw.2.2.1
    clear hw hff
    go_wp2_with fail
    clear hcc
    refine (st_se HW.out (by omega) cqp (by omega) (by omega)).mono ?_
    rintro e wb4 ⟨rfl, v4, hw⟩
    (try rw [dig_flag] at hw)
    have HW := Lib.hid hw
    obtain ⟨hcc, hff⟩ := bcell hw.2.2.1
    clear hw hff
    go_wp2_with fail
    refine (flag_any _ _).mono ?_
    rintro e w' ⟨rfl, rfl⟩
    go_wp2_with fail
    clear hcc
    refine (st_bits HW.out (by omega) _ 1 (by omega) (by omega) (flag_bd con).1 (flag_bd con).2).mono ?_
    rintro e wb5 ⟨rfl, v5, hw⟩
    (try rw [dig_flag] at hw)
    have HW := Lib.hid hw
    obtain ⟨hcc, hff⟩ := bcell hw.2.2.1
    clear hw hff
    go_wp2_with fail
    refine (flag_any _ _).mono ?_
    rintro e w' ⟨rfl, rfl⟩
    go_wp2_with fail
    clear hcc
    refine (st_bits HW.out (by omega) _ 1 (by omega) (by omega) (flag_bd deb).1 (flag_bd deb).2).mono ?_
    rintro e wb6 ⟨rfl, v6, hw⟩
    (try rw [dig_flag] at hw)
    have HW := Lib.hid hw
    obtain ⟨hcc, hff⟩ := bcell hw.2.2.1
    clear hw hff
    go_wp2_with fail
    clear hcc
    refine (st_ue HW.out (by omega) (a0 - 1) (by omega) (by omega)).mono ?_
    rintro e wb7 ⟨rfl, v7, hw⟩
    (try rw [dig_flag] at hw)
    have HW := Lib.hid hw
    obtain ⟨hcc, hff⟩ := bcell hw.2.2.1
    clear hw hff
    go_wp2_with fail
    clear hcc
    refine (st_ue HW.out (by omega) (a1 - 1) (by omega) (by omega)).mono ?_
    rintro e wb8 ⟨rfl, v8, hw⟩
    (try rw [dig_flag] at hw)
    have HW := Lib.hid hw
    obtain ⟨hcc, hff⟩ := bcell hw.2.2.1
    clear hw hff
    go_wp2_with fail
    clear hcc
    refine (st_trail HW.out (by omega)).mono ?_
    rintro e wc ⟨rfl, vc, hw⟩
    have HW := Lib.hid hw
    clear hw
    go_wp2_with fail
    refine (st_bytes HW.out rfl).mono ?_
    rintro e w' ⟨rfl, rfl⟩
    have hend := HB.out.trans (HW.out.2.2.1.mono HB.out.size)
    have HEND := Lib.hid hend
    have hS2 : packS (trL ([] ++ [cabac] ++ [weighted] ++ dig bipred.toNat (2 : Int).toNat ++ ueL qp.toNat ++ seL cqp ++ [con] ++ [deb] ++ ueL (a0 - 1).toNat ++ ueL (a1 - 1).toNat)) = S := by
      rw [HSE.out.1]
      unfold putPpS
      rw [HM.out]
      rfl
    have hE2 : (0 : Int) = E := by rw [HSE.out.2]; unfold putPpE; rw [HM.out]; rfl
    have HE2 := Lib.hid hE2
    clear hE2
    rw [hS2]
    clear hS2
    go_wp2_with fail
    go_ret2
    exact ⟨by rw [← HE2.out]; rfl, HEND.out⟩
end Go.Proofs.Ytegfglpaabddlaa
