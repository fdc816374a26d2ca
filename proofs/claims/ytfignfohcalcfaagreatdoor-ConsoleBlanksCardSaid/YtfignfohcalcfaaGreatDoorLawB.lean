/- The statement ConsoleBlanks: its walk. -/
import Derived.Test.YtfignfohcalcfaaGreatDoorDecA
import Derived.Test.YtfignfohcalcfaaGreatDoorLawA
import Derived.Test.YtfignfohcalcfaaGreatDoorLinC
import Derived.Test.YtfignfohcalcfaaGreatDoorMask
namespace Go.Proofs.YtfignfohcalcfaaGreatDoor
open Go.RowKit
set_option linter.unusedVariables false
set_option linter.unusedSimpArgs false
attribute [local go_sem] ite_max ite_min and_3

theorem tx_app (a b : List UInt8) : tx a ++ tx b = tx (a ++ b) := by
  rw [← tx_data (tx a ++ tx b)]
  simp [tx]
theorem sz_app (a : ByteArray) (l : List UInt8) (n : Nat) (h : a.size ≤ n) : (a ++ tx l).size ≤ n + l.length := by
  rw [ByteArray.size_append, tx_size]
  omega
set_option maxRecDepth 100000 in
set_option maxHeartbeats 3200000 in
theorem blanks_0 (a0 a1 : Int) (w : World) (h0 : -9223372036854775808 ≤ a0) (h1 : a0 ≤ 9223372036854775807) (hj : a1 % 4 = 0) (T : Tabs w) :
    Calls Tryz.prog 6 #[.int .i64 a0, .int .i64 a1] w fun e w' => e = .returned (.bool true) ∧ Below w.heap.size w w' := by
  obtain ⟨b, hb⟩ : ∃ b : List UInt8, b = [32] := ⟨_, rfl⟩
  have hbb : Bl b := by rw [hb]; unfold Bl; decide
  have hbm : ∀ c ∈ b, c.toNat < 128 ∧ c ≠ 10 := by rw [hb]; decide
  have hb0 : b ≠ [] := by rw [hb]; simp
  have hbl : b.length ≤ 3 := by rw [hb]; decide
  have hB : (⟨#[32]⟩ : ByteArray) = tx b := by rw [hb]; rfl
  obtain ⟨n, hn⟩ : ∃ n, max (a0.tmod 100000) 0 = n := ⟨_, rfl⟩
  have hnb : 0 ≤ n ∧ n < 100000 := by
    have := tmod_bd a0 100000 (by decide)
    omega
  have hFa := conF_blanks b n hbb hb0 (by omega) hbm (by omega) (by omega)
  have hFb := conF_ue n (by omega) (by omega)
  have hil := itoa_len n (by omega) (by omega)
  have HD := Lib.hid (fun w => dec_any n w (by omega) (by omega))
  have HAW := Lib.hid (awake_any w T)
  have HN := Lib.hid num0_any
  have HT := Lib.hid T
  obtain ⟨R, hR⟩ : ∃ R, tx ((ueF n).data.toList ++ [10]) = R := ⟨_, rfl⟩
  rw [hR] at hFa hFb
  have e1 : (⟨#[35, 32, 99, 10, 10]⟩ : ByteArray) ++ tx b = tx ([35, 32, 99, 10, 10] ++ b) := tx_app _ _
  have e2 : tx ([35, 32, 99, 10, 10] ++ b) ++ (⟨#[117, 101]⟩ : ByteArray) = tx ([35, 32, 99, 10, 10] ++ b ++ [117, 101]) := tx_app _ [117, 101]
  have e3 : tx ([35, 32, 99, 10, 10] ++ b ++ [117, 101]) ++ tx b = tx ([35, 32, 99, 10, 10] ++ b ++ [117, 101] ++ b) := tx_app _ _
  have e4 : tx ([35, 32, 99, 10, 10] ++ b ++ [117, 101] ++ b) ++ tx (Lib.itoa n) = tx ([35, 32, 99, 10, 10] ++ b ++ [117, 101] ++ b ++ Lib.itoa n) := tx_app _ _
  have e5 : tx ([35, 32, 99, 10, 10] ++ b ++ [117, 101] ++ b ++ Lib.itoa n) ++ tx b = tx ([35, 32, 99, 10, 10] ++ b ++ [117, 101] ++ b ++ Lib.itoa n ++ b) := tx_app _ _
  have e6 : tx ([35, 32, 99, 10, 10] ++ b ++ [117, 101] ++ b ++ Lib.itoa n ++ b) ++ (⟨#[10]⟩ : ByteArray) = tx ([35, 32, 99, 10, 10] ++ b ++ [117, 101] ++ b ++ Lib.itoa n ++ b ++ [10]) := tx_app _ [10]
  have e7 : tx ([35, 32, 99, 10, 10] ++ b ++ [117, 101] ++ b ++ Lib.itoa n ++ b ++ [10]) ++ tx b = tx ([35, 32, 99, 10, 10] ++ b ++ [117, 101] ++ b ++ Lib.itoa n ++ b ++ [10] ++ b) := tx_app _ _
  have e8 : tx ([35, 32, 99, 10, 10] ++ b ++ [117, 101] ++ b ++ Lib.itoa n ++ b ++ [10] ++ b) ++ (⟨#[10]⟩ : ByteArray) = tx ([35, 32, 99, 10, 10] ++ b ++ [117, 101] ++ b ++ Lib.itoa n ++ b ++ [10] ++ b ++ [10]) := tx_app _ [10]
  have e9 : (⟨#[117, 101, 32]⟩ : ByteArray) ++ tx (Lib.itoa n) = tx ([117, 101, 32] ++ Lib.itoa n) := tx_app _ _
  have s0 : ((tx b).size : Int) ≤ 8388608 := by rw [tx_size]; omega
  have s9 : ((tx (Lib.itoa n)).size : Int) ≤ 8388608 := by rw [tx_size]; omega
  have s1 : ((tx ([35, 32, 99, 10, 10] ++ b)).size : Int) ≤ 8388608 := by rw [tx_size]; simp only [List.length_append, List.length_cons, List.length_nil]; omega
  have s2 : ((tx ([35, 32, 99, 10, 10] ++ b ++ [117, 101])).size : Int) ≤ 8388608 := by rw [tx_size]; simp only [List.length_append, List.length_cons, List.length_nil]; omega
  have s3 : ((tx ([35, 32, 99, 10, 10] ++ b ++ [117, 101] ++ b)).size : Int) ≤ 8388608 := by rw [tx_size]; simp only [List.length_append, List.length_cons, List.length_nil]; omega
  have s4 : ((tx ([35, 32, 99, 10, 10] ++ b ++ [117, 101] ++ b ++ Lib.itoa n)).size : Int) ≤ 8388608 := by rw [tx_size]; simp only [List.length_append, List.length_cons, List.length_nil]; omega
  have s5 : ((tx ([35, 32, 99, 10, 10] ++ b ++ [117, 101] ++ b ++ Lib.itoa n ++ b)).size : Int) ≤ 8388608 := by rw [tx_size]; simp only [List.length_append, List.length_cons, List.length_nil]; omega
  have s6 : ((tx ([35, 32, 99, 10, 10] ++ b ++ [117, 101] ++ b ++ Lib.itoa n ++ b ++ [10])).size : Int) ≤ 8388608 := by rw [tx_size]; simp only [List.length_append, List.length_cons, List.length_nil]; omega
  have s7 : ((tx ([35, 32, 99, 10, 10] ++ b ++ [117, 101] ++ b ++ Lib.itoa n ++ b ++ [10] ++ b)).size : Int) ≤ 8388608 := by rw [tx_size]; simp only [List.length_append, List.length_cons, List.length_nil]; omega
  generalize tx ([35, 32, 99, 10, 10] ++ b ++ [117, 101] ++ b ++ Lib.itoa n ++ b ++ [10] ++ b ++ [10]) = Y8 at *
  generalize tx ([35, 32, 99, 10, 10] ++ b ++ [117, 101] ++ b ++ Lib.itoa n ++ b ++ [10] ++ b) = Y7 at *
  generalize tx ([35, 32, 99, 10, 10] ++ b ++ [117, 101] ++ b ++ Lib.itoa n ++ b ++ [10]) = Y6 at *
  generalize tx ([35, 32, 99, 10, 10] ++ b ++ [117, 101] ++ b ++ Lib.itoa n ++ b) = Y5 at *
  generalize tx ([35, 32, 99, 10, 10] ++ b ++ [117, 101] ++ b ++ Lib.itoa n) = Y4 at *
  generalize tx ([35, 32, 99, 10, 10] ++ b ++ [117, 101] ++ b) = Y3 at *
  generalize tx ([35, 32, 99, 10, 10] ++ b ++ [117, 101]) = Y2 at *
  generalize tx ([35, 32, 99, 10, 10] ++ b) = Y1 at *
  generalize tx ([117, 101, 32] ++ Lib.itoa n) = Y9 at *
  generalize tx (Lib.itoa n) = X at *
  generalize tx b = B at *
  have HRA : Hid (∀ w, Tabs w → Calls Tryz.prog 8 #[.string Y8] w fun e w' => e = .returned (.tuple #[.string R, .int .i64 0]) ∧ Below w.heap.size w w') := Lib.hid (fun w T => by
    have := run_any Y8 w T
    rw [hFa] at this
    exact this)
  have HRB : Hid (∀ w, Tabs w → Calls Tryz.prog 8 #[.string Y9] w fun e w' => e = .returned (.tuple #[.string R, .int .i64 0]) ∧ Below w.heap.size w w') := Lib.hid (fun w T => by
    have := run_any Y9 w T
    rw [hFb] at this
    exact this)
  clear hFa hFb hR hb hbb hbm hb0 hbl T hil hnb
  go_enter Tryz.func6, Tryz.ntmps6
  go_wp2_with fail
  refine HAW.out.mono ?_
  rintro e w1 ⟨rfl, hb1⟩
  have HB1 := Lib.hid hb1
  clear hb1
  go_wp2_with fail
  refine (HD.out _).mono ?_
  rintro e w2 ⟨rfl, hb2⟩
  have HB2 := Lib.hid (HB1.out.trans (hb2.mono HB1.out.size))
  clear hb2
  go_wp2_with fail
  refine (HRA.out _ (HT.out.go (HB2.out.alloc HB2.out.size _))).mono ?_
  rintro e w3 ⟨rfl, hb3⟩
  have HB3 := Lib.hid ((HB2.out.alloc HB2.out.size _).trans (hb3.mono (by have := HB2.out.size; simp; omega)))
  clear hb3
  go_wp2_with fail
  refine (HRB.out _ (HT.out.go HB3.out)).mono ?_
  rintro e w4 ⟨rfl, hb4⟩
  have HB4 := Lib.hid (HB3.out.trans (hb4.mono HB3.out.size))
  clear hb4
  go_wp2_with fail
  refine (HN.out _ _).mono ?_
  rintro e w5 ⟨rfl, rfl⟩
  go_wp2_with fail
  refine (HN.out _ _).mono ?_
  rintro e w5 ⟨rfl, rfl⟩
  go_wp2_with fail
  go_ret
  exact ⟨rfl, HB4.out⟩
set_option maxRecDepth 100000 in
set_option maxHeartbeats 3200000 in
theorem blanks_1 (a0 a1 : Int) (w : World) (h0 : -9223372036854775808 ≤ a0) (h1 : a0 ≤ 9223372036854775807) (hj : a1 % 4 = 1) (T : Tabs w) :
    Calls Tryz.prog 6 #[.int .i64 a0, .int .i64 a1] w fun e w' => e = .returned (.bool true) ∧ Below w.heap.size w w' := by
  obtain ⟨b, hb⟩ : ∃ b : List UInt8, b = [9] := ⟨_, rfl⟩
  have hbb : Bl b := by rw [hb]; unfold Bl; decide
  have hbm : ∀ c ∈ b, c.toNat < 128 ∧ c ≠ 10 := by rw [hb]; decide
  have hb0 : b ≠ [] := by rw [hb]; simp
  have hbl : b.length ≤ 3 := by rw [hb]; decide
  have hB : (⟨#[9]⟩ : ByteArray) = tx b := by rw [hb]; rfl
  obtain ⟨n, hn⟩ : ∃ n, max (a0.tmod 100000) 0 = n := ⟨_, rfl⟩
  have hnb : 0 ≤ n ∧ n < 100000 := by
    have := tmod_bd a0 100000 (by decide)
    omega
  have hFa := conF_blanks b n hbb hb0 (by omega) hbm (by omega) (by omega)
  have hFb := conF_ue n (by omega) (by omega)
  have hil := itoa_len n (by omega) (by omega)
  have HD := Lib.hid (fun w => dec_any n w (by omega) (by omega))
  have HAW := Lib.hid (awake_any w T)
  have HN := Lib.hid num0_any
  have HT := Lib.hid T
  obtain ⟨R, hR⟩ : ∃ R, tx ((ueF n).data.toList ++ [10]) = R := ⟨_, rfl⟩
  rw [hR] at hFa hFb
  have e1 : (⟨#[35, 32, 99, 10, 10]⟩ : ByteArray) ++ tx b = tx ([35, 32, 99, 10, 10] ++ b) := tx_app _ _
  have e2 : tx ([35, 32, 99, 10, 10] ++ b) ++ (⟨#[117, 101]⟩ : ByteArray) = tx ([35, 32, 99, 10, 10] ++ b ++ [117, 101]) := tx_app _ [117, 101]
  have e3 : tx ([35, 32, 99, 10, 10] ++ b ++ [117, 101]) ++ tx b = tx ([35, 32, 99, 10, 10] ++ b ++ [117, 101] ++ b) := tx_app _ _
  have e4 : tx ([35, 32, 99, 10, 10] ++ b ++ [117, 101] ++ b) ++ tx (Lib.itoa n) = tx ([35, 32, 99, 10, 10] ++ b ++ [117, 101] ++ b ++ Lib.itoa n) := tx_app _ _
  have e5 : tx ([35, 32, 99, 10, 10] ++ b ++ [117, 101] ++ b ++ Lib.itoa n) ++ tx b = tx ([35, 32, 99, 10, 10] ++ b ++ [117, 101] ++ b ++ Lib.itoa n ++ b) := tx_app _ _
  have e6 : tx ([35, 32, 99, 10, 10] ++ b ++ [117, 101] ++ b ++ Lib.itoa n ++ b) ++ (⟨#[10]⟩ : ByteArray) = tx ([35, 32, 99, 10, 10] ++ b ++ [117, 101] ++ b ++ Lib.itoa n ++ b ++ [10]) := tx_app _ [10]
  have e7 : tx ([35, 32, 99, 10, 10] ++ b ++ [117, 101] ++ b ++ Lib.itoa n ++ b ++ [10]) ++ tx b = tx ([35, 32, 99, 10, 10] ++ b ++ [117, 101] ++ b ++ Lib.itoa n ++ b ++ [10] ++ b) := tx_app _ _
  have e8 : tx ([35, 32, 99, 10, 10] ++ b ++ [117, 101] ++ b ++ Lib.itoa n ++ b ++ [10] ++ b) ++ (⟨#[10]⟩ : ByteArray) = tx ([35, 32, 99, 10, 10] ++ b ++ [117, 101] ++ b ++ Lib.itoa n ++ b ++ [10] ++ b ++ [10]) := tx_app _ [10]
  have e9 : (⟨#[117, 101, 32]⟩ : ByteArray) ++ tx (Lib.itoa n) = tx ([117, 101, 32] ++ Lib.itoa n) := tx_app _ _
  have s0 : ((tx b).size : Int) ≤ 8388608 := by rw [tx_size]; omega
  have s9 : ((tx (Lib.itoa n)).size : Int) ≤ 8388608 := by rw [tx_size]; omega
  have s1 : ((tx ([35, 32, 99, 10, 10] ++ b)).size : Int) ≤ 8388608 := by rw [tx_size]; simp only [List.length_append, List.length_cons, List.length_nil]; omega
  have s2 : ((tx ([35, 32, 99, 10, 10] ++ b ++ [117, 101])).size : Int) ≤ 8388608 := by rw [tx_size]; simp only [List.length_append, List.length_cons, List.length_nil]; omega
  have s3 : ((tx ([35, 32, 99, 10, 10] ++ b ++ [117, 101] ++ b)).size : Int) ≤ 8388608 := by rw [tx_size]; simp only [List.length_append, List.length_cons, List.length_nil]; omega
  have s4 : ((tx ([35, 32, 99, 10, 10] ++ b ++ [117, 101] ++ b ++ Lib.itoa n)).size : Int) ≤ 8388608 := by rw [tx_size]; simp only [List.length_append, List.length_cons, List.length_nil]; omega
  have s5 : ((tx ([35, 32, 99, 10, 10] ++ b ++ [117, 101] ++ b ++ Lib.itoa n ++ b)).size : Int) ≤ 8388608 := by rw [tx_size]; simp only [List.length_append, List.length_cons, List.length_nil]; omega
  have s6 : ((tx ([35, 32, 99, 10, 10] ++ b ++ [117, 101] ++ b ++ Lib.itoa n ++ b ++ [10])).size : Int) ≤ 8388608 := by rw [tx_size]; simp only [List.length_append, List.length_cons, List.length_nil]; omega
  have s7 : ((tx ([35, 32, 99, 10, 10] ++ b ++ [117, 101] ++ b ++ Lib.itoa n ++ b ++ [10] ++ b)).size : Int) ≤ 8388608 := by rw [tx_size]; simp only [List.length_append, List.length_cons, List.length_nil]; omega
  generalize tx ([35, 32, 99, 10, 10] ++ b ++ [117, 101] ++ b ++ Lib.itoa n ++ b ++ [10] ++ b ++ [10]) = Y8 at *
  generalize tx ([35, 32, 99, 10, 10] ++ b ++ [117, 101] ++ b ++ Lib.itoa n ++ b ++ [10] ++ b) = Y7 at *
  generalize tx ([35, 32, 99, 10, 10] ++ b ++ [117, 101] ++ b ++ Lib.itoa n ++ b ++ [10]) = Y6 at *
  generalize tx ([35, 32, 99, 10, 10] ++ b ++ [117, 101] ++ b ++ Lib.itoa n ++ b) = Y5 at *
  generalize tx ([35, 32, 99, 10, 10] ++ b ++ [117, 101] ++ b ++ Lib.itoa n) = Y4 at *
  generalize tx ([35, 32, 99, 10, 10] ++ b ++ [117, 101] ++ b) = Y3 at *
  generalize tx ([35, 32, 99, 10, 10] ++ b ++ [117, 101]) = Y2 at *
  generalize tx ([35, 32, 99, 10, 10] ++ b) = Y1 at *
  generalize tx ([117, 101, 32] ++ Lib.itoa n) = Y9 at *
  generalize tx (Lib.itoa n) = X at *
  generalize tx b = B at *
  have HRA : Hid (∀ w, Tabs w → Calls Tryz.prog 8 #[.string Y8] w fun e w' => e = .returned (.tuple #[.string R, .int .i64 0]) ∧ Below w.heap.size w w') := Lib.hid (fun w T => by
    have := run_any Y8 w T
    rw [hFa] at this
    exact this)
  have HRB : Hid (∀ w, Tabs w → Calls Tryz.prog 8 #[.string Y9] w fun e w' => e = .returned (.tuple #[.string R, .int .i64 0]) ∧ Below w.heap.size w w') := Lib.hid (fun w T => by
    have := run_any Y9 w T
    rw [hFb] at this
    exact this)
  clear hFa hFb hR hb hbb hbm hb0 hbl T hil hnb
  go_enter Tryz.func6, Tryz.ntmps6
  go_wp2_with fail
  refine HAW.out.mono ?_
  rintro e w1 ⟨rfl, hb1⟩
  have HB1 := Lib.hid hb1
  clear hb1
  go_wp2_with fail
  refine (HD.out _).mono ?_
  rintro e w2 ⟨rfl, hb2⟩
  have HB2 := Lib.hid (HB1.out.trans (hb2.mono HB1.out.size))
  clear hb2
  go_wp2_with fail
  refine (HRA.out _ (HT.out.go (HB2.out.alloc HB2.out.size _))).mono ?_
  rintro e w3 ⟨rfl, hb3⟩
  have HB3 := Lib.hid ((HB2.out.alloc HB2.out.size _).trans (hb3.mono (by have := HB2.out.size; simp; omega)))
  clear hb3
  go_wp2_with fail
  refine (HRB.out _ (HT.out.go HB3.out)).mono ?_
  rintro e w4 ⟨rfl, hb4⟩
  have HB4 := Lib.hid (HB3.out.trans (hb4.mono HB3.out.size))
  clear hb4
  go_wp2_with fail
  refine (HN.out _ _).mono ?_
  rintro e w5 ⟨rfl, rfl⟩
  go_wp2_with fail
  refine (HN.out _ _).mono ?_
  rintro e w5 ⟨rfl, rfl⟩
  go_wp2_with fail
  go_ret
  exact ⟨rfl, HB4.out⟩
set_option maxRecDepth 100000 in
set_option maxHeartbeats 3200000 in
theorem blanks_2 (a0 a1 : Int) (w : World) (h0 : -9223372036854775808 ≤ a0) (h1 : a0 ≤ 9223372036854775807) (hj : a1 % 4 = 2) (T : Tabs w) :
    Calls Tryz.prog 6 #[.int .i64 a0, .int .i64 a1] w fun e w' => e = .returned (.bool true) ∧ Below w.heap.size w w' := by
  obtain ⟨b, hb⟩ : ∃ b : List UInt8, b = [32, 32] := ⟨_, rfl⟩
  have hbb : Bl b := by rw [hb]; unfold Bl; decide
  have hbm : ∀ c ∈ b, c.toNat < 128 ∧ c ≠ 10 := by rw [hb]; decide
  have hb0 : b ≠ [] := by rw [hb]; simp
  have hbl : b.length ≤ 3 := by rw [hb]; decide
  have hB : (⟨#[32, 32]⟩ : ByteArray) = tx b := by rw [hb]; rfl
  obtain ⟨n, hn⟩ : ∃ n, max (a0.tmod 100000) 0 = n := ⟨_, rfl⟩
  have hnb : 0 ≤ n ∧ n < 100000 := by
    have := tmod_bd a0 100000 (by decide)
    omega
  have hFa := conF_blanks b n hbb hb0 (by omega) hbm (by omega) (by omega)
  have hFb := conF_ue n (by omega) (by omega)
  have hil := itoa_len n (by omega) (by omega)
  have HD := Lib.hid (fun w => dec_any n w (by omega) (by omega))
  have HAW := Lib.hid (awake_any w T)
  have HN := Lib.hid num0_any
  have HT := Lib.hid T
  obtain ⟨R, hR⟩ : ∃ R, tx ((ueF n).data.toList ++ [10]) = R := ⟨_, rfl⟩
  rw [hR] at hFa hFb
  have e1 : (⟨#[35, 32, 99, 10, 10]⟩ : ByteArray) ++ tx b = tx ([35, 32, 99, 10, 10] ++ b) := tx_app _ _
  have e2 : tx ([35, 32, 99, 10, 10] ++ b) ++ (⟨#[117, 101]⟩ : ByteArray) = tx ([35, 32, 99, 10, 10] ++ b ++ [117, 101]) := tx_app _ [117, 101]
  have e3 : tx ([35, 32, 99, 10, 10] ++ b ++ [117, 101]) ++ tx b = tx ([35, 32, 99, 10, 10] ++ b ++ [117, 101] ++ b) := tx_app _ _
  have e4 : tx ([35, 32, 99, 10, 10] ++ b ++ [117, 101] ++ b) ++ tx (Lib.itoa n) = tx ([35, 32, 99, 10, 10] ++ b ++ [117, 101] ++ b ++ Lib.itoa n) := tx_app _ _
  have e5 : tx ([35, 32, 99, 10, 10] ++ b ++ [117, 101] ++ b ++ Lib.itoa n) ++ tx b = tx ([35, 32, 99, 10, 10] ++ b ++ [117, 101] ++ b ++ Lib.itoa n ++ b) := tx_app _ _
  have e6 : tx ([35, 32, 99, 10, 10] ++ b ++ [117, 101] ++ b ++ Lib.itoa n ++ b) ++ (⟨#[10]⟩ : ByteArray) = tx ([35, 32, 99, 10, 10] ++ b ++ [117, 101] ++ b ++ Lib.itoa n ++ b ++ [10]) := tx_app _ [10]
  have e7 : tx ([35, 32, 99, 10, 10] ++ b ++ [117, 101] ++ b ++ Lib.itoa n ++ b ++ [10]) ++ tx b = tx ([35, 32, 99, 10, 10] ++ b ++ [117, 101] ++ b ++ Lib.itoa n ++ b ++ [10] ++ b) := tx_app _ _
  have e8 : tx ([35, 32, 99, 10, 10] ++ b ++ [117, 101] ++ b ++ Lib.itoa n ++ b ++ [10] ++ b) ++ (⟨#[10]⟩ : ByteArray) = tx ([35, 32, 99, 10, 10] ++ b ++ [117, 101] ++ b ++ Lib.itoa n ++ b ++ [10] ++ b ++ [10]) := tx_app _ [10]
  have e9 : (⟨#[117, 101, 32]⟩ : ByteArray) ++ tx (Lib.itoa n) = tx ([117, 101, 32] ++ Lib.itoa n) := tx_app _ _
  have s0 : ((tx b).size : Int) ≤ 8388608 := by rw [tx_size]; omega
  have s9 : ((tx (Lib.itoa n)).size : Int) ≤ 8388608 := by rw [tx_size]; omega
  have s1 : ((tx ([35, 32, 99, 10, 10] ++ b)).size : Int) ≤ 8388608 := by rw [tx_size]; simp only [List.length_append, List.length_cons, List.length_nil]; omega
  have s2 : ((tx ([35, 32, 99, 10, 10] ++ b ++ [117, 101])).size : Int) ≤ 8388608 := by rw [tx_size]; simp only [List.length_append, List.length_cons, List.length_nil]; omega
  have s3 : ((tx ([35, 32, 99, 10, 10] ++ b ++ [117, 101] ++ b)).size : Int) ≤ 8388608 := by rw [tx_size]; simp only [List.length_append, List.length_cons, List.length_nil]; omega
  have s4 : ((tx ([35, 32, 99, 10, 10] ++ b ++ [117, 101] ++ b ++ Lib.itoa n)).size : Int) ≤ 8388608 := by rw [tx_size]; simp only [List.length_append, List.length_cons, List.length_nil]; omega
  have s5 : ((tx ([35, 32, 99, 10, 10] ++ b ++ [117, 101] ++ b ++ Lib.itoa n ++ b)).size : Int) ≤ 8388608 := by rw [tx_size]; simp only [List.length_append, List.length_cons, List.length_nil]; omega
  have s6 : ((tx ([35, 32, 99, 10, 10] ++ b ++ [117, 101] ++ b ++ Lib.itoa n ++ b ++ [10])).size : Int) ≤ 8388608 := by rw [tx_size]; simp only [List.length_append, List.length_cons, List.length_nil]; omega
  have s7 : ((tx ([35, 32, 99, 10, 10] ++ b ++ [117, 101] ++ b ++ Lib.itoa n ++ b ++ [10] ++ b)).size : Int) ≤ 8388608 := by rw [tx_size]; simp only [List.length_append, List.length_cons, List.length_nil]; omega
  generalize tx ([35, 32, 99, 10, 10] ++ b ++ [117, 101] ++ b ++ Lib.itoa n ++ b ++ [10] ++ b ++ [10]) = Y8 at *
  generalize tx ([35, 32, 99, 10, 10] ++ b ++ [117, 101] ++ b ++ Lib.itoa n ++ b ++ [10] ++ b) = Y7 at *
  generalize tx ([35, 32, 99, 10, 10] ++ b ++ [117, 101] ++ b ++ Lib.itoa n ++ b ++ [10]) = Y6 at *
  generalize tx ([35, 32, 99, 10, 10] ++ b ++ [117, 101] ++ b ++ Lib.itoa n ++ b) = Y5 at *
  generalize tx ([35, 32, 99, 10, 10] ++ b ++ [117, 101] ++ b ++ Lib.itoa n) = Y4 at *
  generalize tx ([35, 32, 99, 10, 10] ++ b ++ [117, 101] ++ b) = Y3 at *
  generalize tx ([35, 32, 99, 10, 10] ++ b ++ [117, 101]) = Y2 at *
  generalize tx ([35, 32, 99, 10, 10] ++ b) = Y1 at *
  generalize tx ([117, 101, 32] ++ Lib.itoa n) = Y9 at *
  generalize tx (Lib.itoa n) = X at *
  generalize tx b = B at *
  have HRA : Hid (∀ w, Tabs w → Calls Tryz.prog 8 #[.string Y8] w fun e w' => e = .returned (.tuple #[.string R, .int .i64 0]) ∧ Below w.heap.size w w') := Lib.hid (fun w T => by
    have := run_any Y8 w T
    rw [hFa] at this
    exact this)
  have HRB : Hid (∀ w, Tabs w → Calls Tryz.prog 8 #[.string Y9] w fun e w' => e = .returned (.tuple #[.string R, .int .i64 0]) ∧ Below w.heap.size w w') := Lib.hid (fun w T => by
    have := run_any Y9 w T
    rw [hFb] at this
    exact this)
  clear hFa hFb hR hb hbb hbm hb0 hbl T hil hnb
  go_enter Tryz.func6, Tryz.ntmps6
  go_wp2_with fail
  refine HAW.out.mono ?_
  rintro e w1 ⟨rfl, hb1⟩
  have HB1 := Lib.hid hb1
  clear hb1
  go_wp2_with fail
  refine (HD.out _).mono ?_
  rintro e w2 ⟨rfl, hb2⟩
  have HB2 := Lib.hid (HB1.out.trans (hb2.mono HB1.out.size))
  clear hb2
  go_wp2_with fail
  refine (HRA.out _ (HT.out.go (HB2.out.alloc HB2.out.size _))).mono ?_
  rintro e w3 ⟨rfl, hb3⟩
  have HB3 := Lib.hid ((HB2.out.alloc HB2.out.size _).trans (hb3.mono (by have := HB2.out.size; simp; omega)))
  clear hb3
  go_wp2_with fail
  refine (HRB.out _ (HT.out.go HB3.out)).mono ?_
  rintro e w4 ⟨rfl, hb4⟩
  have HB4 := Lib.hid (HB3.out.trans (hb4.mono HB3.out.size))
  clear hb4
  go_wp2_with fail
  refine (HN.out _ _).mono ?_
  rintro e w5 ⟨rfl, rfl⟩
  go_wp2_with fail
  refine (HN.out _ _).mono ?_
  rintro e w5 ⟨rfl, rfl⟩
  go_wp2_with fail
  go_ret
  exact ⟨rfl, HB4.out⟩
set_option maxRecDepth 100000 in
set_option maxHeartbeats 3200000 in
theorem blanks_3 (a0 a1 : Int) (w : World) (h0 : -9223372036854775808 ≤ a0) (h1 : a0 ≤ 9223372036854775807) (hj : a1 % 4 = 3) (T : Tabs w) :
    Calls Tryz.prog 6 #[.int .i64 a0, .int .i64 a1] w fun e w' => e = .returned (.bool true) ∧ Below w.heap.size w w' := by
  obtain ⟨b, hb⟩ : ∃ b : List UInt8, b = [32, 9, 32] := ⟨_, rfl⟩
  have hbb : Bl b := by rw [hb]; unfold Bl; decide
  have hbm : ∀ c ∈ b, c.toNat < 128 ∧ c ≠ 10 := by rw [hb]; decide
  have hb0 : b ≠ [] := by rw [hb]; simp
  have hbl : b.length ≤ 3 := by rw [hb]; decide
  have hB : (⟨#[32, 9, 32]⟩ : ByteArray) = tx b := by rw [hb]; rfl
  obtain ⟨n, hn⟩ : ∃ n, max (a0.tmod 100000) 0 = n := ⟨_, rfl⟩
  have hnb : 0 ≤ n ∧ n < 100000 := by
    have := tmod_bd a0 100000 (by decide)
    omega
  have hFa := conF_blanks b n hbb hb0 (by omega) hbm (by omega) (by omega)
  have hFb := conF_ue n (by omega) (by omega)
  have hil := itoa_len n (by omega) (by omega)
  have HD := Lib.hid (fun w => dec_any n w (by omega) (by omega))
  have HAW := Lib.hid (awake_any w T)
  have HN := Lib.hid num0_any
  have HT := Lib.hid T
  obtain ⟨R, hR⟩ : ∃ R, tx ((ueF n).data.toList ++ [10]) = R := ⟨_, rfl⟩
  rw [hR] at hFa hFb
  have e1 : (⟨#[35, 32, 99, 10, 10]⟩ : ByteArray) ++ tx b = tx ([35, 32, 99, 10, 10] ++ b) := tx_app _ _
  have e2 : tx ([35, 32, 99, 10, 10] ++ b) ++ (⟨#[117, 101]⟩ : ByteArray) = tx ([35, 32, 99, 10, 10] ++ b ++ [117, 101]) := tx_app _ [117, 101]
  have e3 : tx ([35, 32, 99, 10, 10] ++ b ++ [117, 101]) ++ tx b = tx ([35, 32, 99, 10, 10] ++ b ++ [117, 101] ++ b) := tx_app _ _
  have e4 : tx ([35, 32, 99, 10, 10] ++ b ++ [117, 101] ++ b) ++ tx (Lib.itoa n) = tx ([35, 32, 99, 10, 10] ++ b ++ [117, 101] ++ b ++ Lib.itoa n) := tx_app _ _
  have e5 : tx ([35, 32, 99, 10, 10] ++ b ++ [117, 101] ++ b ++ Lib.itoa n) ++ tx b = tx ([35, 32, 99, 10, 10] ++ b ++ [117, 101] ++ b ++ Lib.itoa n ++ b) := tx_app _ _
  have e6 : tx ([35, 32, 99, 10, 10] ++ b ++ [117, 101] ++ b ++ Lib.itoa n ++ b) ++ (⟨#[10]⟩ : ByteArray) = tx ([35, 32, 99, 10, 10] ++ b ++ [117, 101] ++ b ++ Lib.itoa n ++ b ++ [10]) := tx_app _ [10]
  have e7 : tx ([35, 32, 99, 10, 10] ++ b ++ [117, 101] ++ b ++ Lib.itoa n ++ b ++ [10]) ++ tx b = tx ([35, 32, 99, 10, 10] ++ b ++ [117, 101] ++ b ++ Lib.itoa n ++ b ++ [10] ++ b) := tx_app _ _
  have e8 : tx ([35, 32, 99, 10, 10] ++ b ++ [117, 101] ++ b ++ Lib.itoa n ++ b ++ [10] ++ b) ++ (⟨#[10]⟩ : ByteArray) = tx ([35, 32, 99, 10, 10] ++ b ++ [117, 101] ++ b ++ Lib.itoa n ++ b ++ [10] ++ b ++ [10]) := tx_app _ [10]
  have e9 : (⟨#[117, 101, 32]⟩ : ByteArray) ++ tx (Lib.itoa n) = tx ([117, 101, 32] ++ Lib.itoa n) := tx_app _ _
  have s0 : ((tx b).size : Int) ≤ 8388608 := by rw [tx_size]; omega
  have s9 : ((tx (Lib.itoa n)).size : Int) ≤ 8388608 := by rw [tx_size]; omega
  have s1 : ((tx ([35, 32, 99, 10, 10] ++ b)).size : Int) ≤ 8388608 := by rw [tx_size]; simp only [List.length_append, List.length_cons, List.length_nil]; omega
  have s2 : ((tx ([35, 32, 99, 10, 10] ++ b ++ [117, 101])).size : Int) ≤ 8388608 := by rw [tx_size]; simp only [List.length_append, List.length_cons, List.length_nil]; omega
  have s3 : ((tx ([35, 32, 99, 10, 10] ++ b ++ [117, 101] ++ b)).size : Int) ≤ 8388608 := by rw [tx_size]; simp only [List.length_append, List.length_cons, List.length_nil]; omega
  have s4 : ((tx ([35, 32, 99, 10, 10] ++ b ++ [117, 101] ++ b ++ Lib.itoa n)).size : Int) ≤ 8388608 := by rw [tx_size]; simp only [List.length_append, List.length_cons, List.length_nil]; omega
  have s5 : ((tx ([35, 32, 99, 10, 10] ++ b ++ [117, 101] ++ b ++ Lib.itoa n ++ b)).size : Int) ≤ 8388608 := by rw [tx_size]; simp only [List.length_append, List.length_cons, List.length_nil]; omega
  have s6 : ((tx ([35, 32, 99, 10, 10] ++ b ++ [117, 101] ++ b ++ Lib.itoa n ++ b ++ [10])).size : Int) ≤ 8388608 := by rw [tx_size]; simp only [List.length_append, List.length_cons, List.length_nil]; omega
  have s7 : ((tx ([35, 32, 99, 10, 10] ++ b ++ [117, 101] ++ b ++ Lib.itoa n ++ b ++ [10] ++ b)).size : Int) ≤ 8388608 := by rw [tx_size]; simp only [List.length_append, List.length_cons, List.length_nil]; omega
  generalize tx ([35, 32, 99, 10, 10] ++ b ++ [117, 101] ++ b ++ Lib.itoa n ++ b ++ [10] ++ b ++ [10]) = Y8 at *
  generalize tx ([35, 32, 99, 10, 10] ++ b ++ [117, 101] ++ b ++ Lib.itoa n ++ b ++ [10] ++ b) = Y7 at *
  generalize tx ([35, 32, 99, 10, 10] ++ b ++ [117, 101] ++ b ++ Lib.itoa n ++ b ++ [10]) = Y6 at *
  generalize tx ([35, 32, 99, 10, 10] ++ b ++ [117, 101] ++ b ++ Lib.itoa n ++ b) = Y5 at *
  generalize tx ([35, 32, 99, 10, 10] ++ b ++ [117, 101] ++ b ++ Lib.itoa n) = Y4 at *
  generalize tx ([35, 32, 99, 10, 10] ++ b ++ [117, 101] ++ b) = Y3 at *
  generalize tx ([35, 32, 99, 10, 10] ++ b ++ [117, 101]) = Y2 at *
  generalize tx ([35, 32, 99, 10, 10] ++ b) = Y1 at *
  generalize tx ([117, 101, 32] ++ Lib.itoa n) = Y9 at *
  generalize tx (Lib.itoa n) = X at *
  generalize tx b = B at *
  have HRA : Hid (∀ w, Tabs w → Calls Tryz.prog 8 #[.string Y8] w fun e w' => e = .returned (.tuple #[.string R, .int .i64 0]) ∧ Below w.heap.size w w') := Lib.hid (fun w T => by
    have := run_any Y8 w T
    rw [hFa] at this
    exact this)
  have HRB : Hid (∀ w, Tabs w → Calls Tryz.prog 8 #[.string Y9] w fun e w' => e = .returned (.tuple #[.string R, .int .i64 0]) ∧ Below w.heap.size w w') := Lib.hid (fun w T => by
    have := run_any Y9 w T
    rw [hFb] at this
    exact this)
  clear hFa hFb hR hb hbb hbm hb0 hbl T hil hnb
  go_enter Tryz.func6, Tryz.ntmps6
  go_wp2_with fail
  refine HAW.out.mono ?_
  rintro e w1 ⟨rfl, hb1⟩
  have HB1 := Lib.hid hb1
  clear hb1
  go_wp2_with fail
  refine (HD.out _).mono ?_
  rintro e w2 ⟨rfl, hb2⟩
  have HB2 := Lib.hid (HB1.out.trans (hb2.mono HB1.out.size))
  clear hb2
  go_wp2_with fail
  refine (HRA.out _ (HT.out.go (HB2.out.alloc HB2.out.size _))).mono ?_
  rintro e w3 ⟨rfl, hb3⟩
  have HB3 := Lib.hid ((HB2.out.alloc HB2.out.size _).trans (hb3.mono (by have := HB2.out.size; simp; omega)))
  clear hb3
  go_wp2_with fail
  refine (HRB.out _ (HT.out.go HB3.out)).mono ?_
  rintro e w4 ⟨rfl, hb4⟩
  have HB4 := Lib.hid (HB3.out.trans (hb4.mono HB3.out.size))
  clear hb4
  go_wp2_with fail
  refine (HN.out _ _).mono ?_
  rintro e w5 ⟨rfl, rfl⟩
  go_wp2_with fail
  refine (HN.out _ _).mono ?_
  rintro e w5 ⟨rfl, rfl⟩
  go_wp2_with fail
  go_ret
  exact ⟨rfl, HB4.out⟩
theorem walk_ConsoleBlanks (a0 : Int) (a1 : Int) (w : World) (w_a0 : (Lit.int .i64 a0).wf = true) (w_a1 : (Lit.int .i64 a1).wf = true) (T : Tabs w) :
    Calls Tryz.prog 6 #[.int .i64 a0, .int .i64 a1] w fun e w' => e = .returned (.bool true) ∧ Below w.heap.size w w' := by
  have h : -9223372036854775808 ≤ a0 ∧ a0 ≤ 9223372036854775807 := by simpa [Lit.wf, IntKind.min, IntKind.max, IntKind.signed, IntKind.bits] using w_a0
  have h4 : a1 % 4 = 0 ∨ a1 % 4 = 1 ∨ a1 % 4 = 2 ∨ a1 % 4 = 3 := by omega
  rcases h4 with hj | hj | hj | hj
  · exact blanks_0 a0 a1 w h.1 h.2 hj T
  · exact blanks_1 a0 a1 w h.1 h.2 hj T
  · exact blanks_2 a0 a1 w h.1 h.2 hj T
  · exact blanks_3 a0 a1 w h.1 h.2 hj T
end Go.Proofs.YtfignfohcalcfaaGreatDoor
