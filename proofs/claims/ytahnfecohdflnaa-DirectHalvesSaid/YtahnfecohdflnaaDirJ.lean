/- The statements on package direct: the walks of DirectScales, DirectSums. -/
import Derived.Test.YtahnfecohdflnaaDirI
namespace Go.Proofs.Ytahnfecohdflnaa
open Go.RowKit
set_option linter.unusedVariables false

theorem clip_id (x lo hi : Int) (h : lo ≤ x ∧ x ≤ hi) : clip x lo hi = x := by unfold clip; omega
def near (x : Int) : Prop := -1073741824 ≤ x ∧ x ≤ 1073741824
theorem diff_near (a b : Int) (ha : near a) (hb : near b) : diff a b = clip (a - b) (-128) 127 := by unfold diff; rw [clip_id a _ _ ha, clip_id b _ _ hb]
theorem scale_shift (a b c d : Int) (ha : near a) (hb : near b) (hc : near c) (ha' : near (a + d)) (hb' : near (b + d)) (hc' : near (c + d)) :
    scaleV (a + d) (b + d) (c + d) = scaleV a b c ∧ scaleB (a + d) (b + d) (c + d) = scaleB a b c := by
  unfold scaleV scaleB
  rw [diff_near _ _ hc' hb', diff_near _ _ ha' hb', diff_near _ _ hc hb, diff_near _ _ ha hb, show c + d - (b + d) = c - b from by omega, show a + d - (b + d) = a - b from by omega]
  exact ⟨rfl, rfl⟩
theorem scale_is (a b c : Int) (hb : near b) (hc : near c) : scaleB a b c = decide (b ≠ c) := by
  unfold scaleB
  rw [diff_near _ _ hc hb]
  by_cases h : b = c
  · subst h
    have : clip 0 (-128) 127 = 0 := by unfold clip; omega
    simp [this]
  · have : clip (c - b) (-128) 127 ≠ 0 := by unfold clip; omega
    simp [h, this]
theorem scale_bd (a b c : Int) : -1024 ≤ scaleV a b c ∧ scaleV a b c ≤ 1023 := by
  unfold scaleV
  have := clip_bd ((diff a b * txOf (diff c b) + 32) / 64) (-1024) 1023 (by omega)
  split <;> omega

set_option maxHeartbeats 1600000 in
theorem walk_DirectScales (a0 : Int) (a1 : Int) (a2 : Int) (a3 : Int) (w : World) (w_a0 : (Lit.int .i64 a0).wf = true) (w_a1 : (Lit.int .i64 a1).wf = true) (w_a2 : (Lit.int .i64 a2).wf = true) (w_a3 : (Lit.int .i64 a3).wf = true) :
    Calls Try.prog 7 #[.int .i64 a0, .int .i64 a1, .int .i64 a2, .int .i64 a3] w fun e w' => e = .returned (.bool true) ∧ Below w.heap.size w w' := by
  clear w_a0 w_a1 w_a2 w_a3
  have b0 := tmod_bd a0 10000 (by omega)
  have b1 := tmod_bd a1 10000 (by omega)
  have b2 := tmod_bd a2 10000 (by omega)
  have b3 := tmod_bd a3 10000 (by omega)
  have hs := scale_shift (a0.tmod 10000) (a1.tmod 10000) (a2.tmod 10000) (a3.tmod 10000) (by unfold near; omega) (by unfold near; omega) (by unfold near; omega) (by unfold near; omega) (by unfold near; omega) (by unfold near; omega)
  have hi := scale_is (a0.tmod 10000) (a1.tmod 10000) (a2.tmod 10000) (by unfold near; omega) (by unfold near; omega)
  have hn := scale_is (a0.tmod 10000) (a1.tmod 10000) (a1.tmod 10000) (by unfold near; omega) (by unfold near; omega)
  have hd := scale_bd (a0.tmod 10000) (a1.tmod 10000) (a2.tmod 10000)
  have HS : ∀ w, Calls Try.prog 8 #[.int .i64 (a0.tmod 10000 + a3.tmod 10000), .int .i64 (a1.tmod 10000 + a3.tmod 10000), .int .i64 (a2.tmod 10000 + a3.tmod 10000)] w fun e w' => e = .returned (.tuple #[.int .i64 (scaleV (a0.tmod 10000) (a1.tmod 10000) (a2.tmod 10000)), .bool (decide (a1.tmod 10000 ≠ a2.tmod 10000))]) ∧ w = w' :=
    fun w => (scale_any _ _ _ w).mono fun _ _ h => ⟨h.1.trans (by rw [hs.1, hs.2, hi]), h.2⟩
  have HT : ∀ w, Calls Try.prog 8 #[.int .i64 (a0.tmod 10000), .int .i64 (a1.tmod 10000), .int .i64 (a2.tmod 10000)] w fun e w' => e = .returned (.tuple #[.int .i64 (scaleV (a0.tmod 10000) (a1.tmod 10000) (a2.tmod 10000)), .bool (decide (a1.tmod 10000 ≠ a2.tmod 10000))]) ∧ w = w' :=
    fun w => (scale_any _ _ _ w).mono fun _ _ h => ⟨h.1.trans (by rw [hi]), h.2⟩
  have HU : ∀ w, Calls Try.prog 8 #[.int .i64 (a0.tmod 10000), .int .i64 (a1.tmod 10000), .int .i64 (a1.tmod 10000)] w fun e w' => e = .returned (.tuple #[.int .i64 (scaleV (a0.tmod 10000) (a1.tmod 10000) (a1.tmod 10000)), .bool false]) ∧ w = w' :=
    fun w => (scale_any _ _ _ w).mono fun _ _ h => ⟨h.1.trans (by rw [hn]; simp), h.2⟩
  clear hs hi hn
  generalize scaleV (a0.tmod 10000) (a1.tmod 10000) (a2.tmod 10000) = V at *
  generalize scaleV (a0.tmod 10000) (a1.tmod 10000) (a1.tmod 10000) = U at *
  have KS := Lib.hid HS
  have KT := Lib.hid HT
  have KU := Lib.hid HU
  clear HS HT HU
  by_cases hc : a1.tmod 10000 = a2.tmod 10000
  · have e1 : (a1.tmod 10000 != a2.tmod 10000) = false := by simp [hc]
    have e2 : decide (a1.tmod 10000 ≠ a2.tmod 10000) = false := by simp [hc]
    rw [e2] at KS KT
    clear hc e2
    go_enter Try.func7, Try.ntmps7
    go_wp2_with fail
    refine (awake_any _).mono ?_
    rintro e w1 ⟨rfl, hb1⟩
    go_wp2_with fail
    refine (KT.out _).mono ?_
    rintro e w' ⟨rfl, rfl⟩
    go_wp2_with fail
    refine (KS.out _).mono ?_
    rintro e w' ⟨rfl, rfl⟩
    go_wp2_with fail
    refine (KU.out _).mono ?_
    rintro e w' ⟨rfl, rfl⟩
    go_wp2_with fail
    go_ret
    exact ⟨rfl, hb1⟩
  · have e1 : (a1.tmod 10000 != a2.tmod 10000) = true := by simp [hc]
    have e2 : decide (a1.tmod 10000 ≠ a2.tmod 10000) = true := by simp [hc]
    rw [e2] at KS KT
    clear hc e2
    go_enter Try.func7, Try.ntmps7
    go_wp2_with fail
    refine (awake_any _).mono ?_
    rintro e w1 ⟨rfl, hb1⟩
    go_wp2_with fail
    refine (KT.out _).mono ?_
    rintro e w' ⟨rfl, rfl⟩
    go_wp2_with fail
    refine (KS.out _).mono ?_
    rintro e w' ⟨rfl, rfl⟩
    go_wp2_with fail
    refine (KU.out _).mono ?_
    rintro e w' ⟨rfl, rfl⟩
    go_wp2_with fail
    go_ret
    exact ⟨rfl, hb1⟩

end Go.Proofs.Ytahnfecohdflnaa
