/- The statement ConsoleBegins: its walk. -/
import Derived.Test.YtfignfohcalcfaaGreatDoorRunC
import Derived.Test.YtfignfohcalcfaaGreatDoorConZ
import Derived.Test.YtfignfohcalcfaaGreatDoorQuiet
namespace Go.Proofs.YtfignfohcalcfaaGreatDoor
open Go.RowKit
set_option linter.unusedVariables false
set_option linter.unusedSimpArgs false

theorem num0_any (x : Int) (w : World) : Calls Tryz.prog 9 #[.int .i64 x] w fun e w' => e = .returned (.int .i64 x) ∧ w' = w := by
  go_enter Tryz.func9, Tryz.ntmps9
  go_wp2_with fail
  go_ret
  exact ⟨rfl, rfl⟩
def awakeT : ByteArray := tx [50, 48, 10, 54, 48, 10, 101, 114, 114, 111, 114, 32, 50, 55, 48, 48, 10, 51, 54, 10, 50, 10, 49, 54, 32, 49, 55, 10, 48, 48, 48, 48, 48, 51, 48, 49, 10, 101, 114, 114, 111, 114, 32, 54, 48, 48, 10]
set_option maxRecDepth 100000 in
set_option maxHeartbeats 1600000 in
theorem awake_any (w : World) (T : Tabs w) : Calls Tryz.prog 7 #[] w fun e w' => e = .returned (.bool true) ∧ Below w.heap.size w w' := by
  have HR := run_any awakeS w T
  rw [awake_is] at HR
  simp only at HR
  have HR2 := Lib.hid HR
  have he : (awakeT.toList == [50, 48, 10, 54, 48, 10, 101, 114, 114, 111, 114, 32, 50, 55, 48, 48, 10, 51, 54, 10, 50, 10, 49, 54, 32, 49, 55, 10, 48, 48, 48, 48, 48, 51, 48, 49, 10, 101, 114, 114, 111, 114, 32, 54, 48, 48, 10]) = true := toL_yes rfl
  have HR3 : Hid (Calls Tryz.prog 8 #[.string awakeS] w fun e w' => e = .returned (.tuple #[.string awakeT, .int .i64 0]) ∧ Below w.heap.size w w') := Lib.hid HR2.out
  have hN := Lib.hid num0_any
  clear HR HR2 T
  go_enter Tryz.func7, Tryz.ntmps7
  go_wp2_with fail
  refine HR3.out.mono ?_
  rintro e w1 ⟨rfl, hb⟩
  have HB := Lib.hid hb
  clear hb
  go_wp2_with fail
  refine (hN.out _ _).mono ?_
  rintro e w2 ⟨rfl, rfl⟩
  go_wp2_with fail
  go_ret
  exact ⟨rfl, HB.out⟩
theorem ba_size_app (a : ByteArray) : (a ++ (⟨#[10]⟩ : ByteArray)).size = a.size + 1 := by
  rw [ByteArray.size_append]
  rfl
theorem conL_pre (a r : ByteArray) : conL ((a ++ (⟨#[10]⟩ : ByteArray)) ++ r) = conL (a ++ (⟨#[10]⟩ : ByteArray)) ++ conL r := by
  have e1 : (a ++ (⟨#[10]⟩ : ByteArray)) ++ r = tx (a.data.toList ++ 10 :: r.data.toList) := by
    rw [← tx_data ((a ++ (⟨#[10]⟩ : ByteArray)) ++ r)]
    simp
  have e2 : a ++ (⟨#[10]⟩ : ByteArray) = tx (a.data.toList ++ [10]) := by
    rw [← tx_data (a ++ (⟨#[10]⟩ : ByteArray))]
    simp
  rw [e1, conL_begin, ← e2, tx_data]
theorem pre_eq (a b : List UInt8) : (((tx (a ++ b)).extract 0 (tx a).size).toList == (tx a).toList) = true := by
  rw [ba_toList, ba_toList, data_tx, tx_size]
  simp [tx]
set_option maxRecDepth 100000 in
set_option maxHeartbeats 3200000 in
theorem walk_ConsoleBegins (a0 : ByteArray) (a1 : ByteArray) (w : World) (w_a0 : a0.size ≤ 140737488351232) (w_a1 : a1.size ≤ 140737488351232) (T : Tabs w) :
    Calls Tryz.prog 3 #[.string a0, .string a1] w fun e w' => e = .returned (.bool true) ∧ Below w.heap.size w w' := by
  have hAs := ba_size_app a0
  have hpre := conL_pre a0 a1
  obtain ⟨A, hA⟩ : ∃ A, a0 ++ (⟨#[10]⟩ : ByteArray) = A := ⟨_, rfl⟩
  rw [hA] at hAs hpre
  have hBs : (A ++ a1).size = A.size + a1.size := ByteArray.size_append ..
  obtain ⟨B, hB⟩ : ∃ B, A ++ a1 = B := ⟨_, rfl⟩
  rw [hB] at hBs hpre
  have HAW := Lib.hid (awake_any w T)
  have HR := Lib.hid (fun s w T => run_any s w T)
  have HN := Lib.hid num0_any
  have HT := Lib.hid T
  have z1 : ¬ (9223372036854775807 : Int) < (a0.size : Int) + 1 := by omega
  have z2 : ¬ 9223372036854775807 < a0.size + 1 := by omega
  have z3 : ¬ (9223372036854775807 : Int) < (A.size : Int) + (a1.size : Int) := by omega
  have z4 : ¬ 9223372036854775807 < A.size + a1.size := by omega
  clear T w_a0 w_a1
  by_cases hlong : 65536 < B.size
  · have hFB : conF B = (tx [], 2701) := by unfold conF; rw [if_pos hlong]
    have HRB : Hid (∀ w, Tabs w → Calls Tryz.prog 8 #[.string B] w fun e w' => e = .returned (.tuple #[.string (tx []), .int .i64 2701]) ∧ Below w.heap.size w w') := Lib.hid (fun w T => by
      have := HR.out B w T
      rw [hFB] at this
      exact this)
    have hl2 : (65536 : Int) < (B.size : Int) := by omega
    obtain ⟨E, hE⟩ : ∃ E, tx ([] : List UInt8) = E := ⟨_, rfl⟩
    have hEe : E.toList.isEmpty = true := by rw [← hE, ba_toList, data_tx]; rfl
    rw [hE] at HRB
    obtain ⟨p, hp⟩ : ∃ p, conF A = p := ⟨_, rfl⟩
    have HRA := Lib.hid (fun w T => HR.out A w T)
    rw [hp] at HRA
    clear hFB hE hp hlong hpre hAs hBs
    go_enter Tryz.func3, Tryz.ntmps3
    go_wp2_with fail
    refine HAW.out.mono ?_
    rintro e w1 ⟨rfl, hb1⟩
    have HB1 := Lib.hid hb1
    clear hb1
    go_wp2_with fail
    refine (HRA.out _ (HT.out.go HB1.out)).mono ?_
    rintro e w2 ⟨rfl, hb2⟩
    have HB2 := Lib.hid (HB1.out.trans (hb2.mono HB1.out.size))
    clear hb2
    go_wp2_with fail
    refine (HRB.out _ (HT.out.go HB2.out)).mono ?_
    rintro e w3 ⟨rfl, hb3⟩
    have HB3 := Lib.hid (HB2.out.trans (hb3.mono HB2.out.size))
    clear hb3
    go_wp2_with fail
    refine (HN.out _ _).mono ?_
    rintro e w4 ⟨rfl, rfl⟩
    go_wp2_with fail
    refine (HN.out _ _).mono ?_
    rintro e w4 ⟨rfl, rfl⟩
    go_wp2_with fail
    go_ret
    exact ⟨rfl, HB3.out⟩
  · have hFB : conF B = (tx (conL B), 0) := by unfold conF; rw [if_neg hlong]
    have hFA : conF A = (tx (conL A), 0) := by unfold conF; rw [if_neg (by omega)]
    rw [hpre] at hFB
    have heq := pre_eq (conL A) (conL a1)
    have hle : ((tx (conL A)).size : Int) ≤ ((tx (conL A ++ conL a1)).size : Int) := by
      rw [tx_size, tx_size, List.length_append]
      omega
    obtain ⟨Ss, hSs⟩ : ∃ x, tx (conL A) = x := ⟨_, rfl⟩
    obtain ⟨Tt, hTt⟩ : ∃ x, tx (conL A ++ conL a1) = x := ⟨_, rfl⟩
    rw [hTt, hSs] at heq hle
    rw [hSs] at hFA
    rw [hTt] at hFB
    have HRB : Hid (∀ w, Tabs w → Calls Tryz.prog 8 #[.string B] w fun e w' => e = .returned (.tuple #[.string Tt, .int .i64 0]) ∧ Below w.heap.size w w') := Lib.hid (fun w T => by
      have := HR.out B w T
      rw [hFB] at this
      exact this)
    have HRA : Hid (∀ w, Tabs w → Calls Tryz.prog 8 #[.string A] w fun e w' => e = .returned (.tuple #[.string Ss, .int .i64 0]) ∧ Below w.heap.size w w') := Lib.hid (fun w T => by
      have := HR.out A w T
      rw [hFA] at this
      exact this)
    have hs0 : (0 : Int) ≤ (Ss.size : Int) := Int.natCast_nonneg _
    clear hFB hFA hpre hSs hTt hlong hAs hBs
    go_enter Tryz.func3, Tryz.ntmps3
    go_wp2_with fail
    refine HAW.out.mono ?_
    rintro e w1 ⟨rfl, hb1⟩
    have HB1 := Lib.hid hb1
    clear hb1
    go_wp2_with fail
    refine (HRA.out _ (HT.out.go HB1.out)).mono ?_
    rintro e w2 ⟨rfl, hb2⟩
    have HB2 := Lib.hid (HB1.out.trans (hb2.mono HB1.out.size))
    clear hb2
    go_wp2_with fail
    refine (HRB.out _ (HT.out.go HB2.out)).mono ?_
    rintro e w3 ⟨rfl, hb3⟩
    have HB3 := Lib.hid (HB2.out.trans (hb3.mono HB2.out.size))
    clear hb3
    go_wp2_with fail
    refine (HN.out _ _).mono ?_
    rintro e w4 ⟨rfl, rfl⟩
    go_wp2_with fail
    refine (HN.out _ _).mono ?_
    rintro e w4 ⟨rfl, rfl⟩
    go_wp2_with fail
    go_ret
    exact ⟨rfl, HB3.out⟩
end Go.Proofs.YtfignfohcalcfaaGreatDoor
