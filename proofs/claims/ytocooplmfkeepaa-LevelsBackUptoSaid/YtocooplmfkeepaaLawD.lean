/- The statement LevelsPuts: the walk. -/
import Derived.Test.YtocooplmfkeepaaLevS
import Derived.Test.YtocooplmfkeepaaLevC
import Derived.Test.YtocooplmfkeepaaBitK
namespace Go.Proofs.Ytocooplmfkeepaa
open Go.RowKit
set_option linter.unusedVariables false
set_option linter.unusedSimpArgs false

theorem Far.less {w : World} {S : Nat → Prop} {A : Option Addr} {n m : Nat} {z : Nat → Int} (h : Far w S A n z) (hm : m ≤ n) : Far w S A m z := fun h0 => by
  obtain ⟨ad, e, l1, l2, l3⟩ := h (by omega)
  exact ⟨ad, e, l1, l2, fun k hk => l3 k (by omega)⟩
theorem Far.congr {w : World} {S : Nat → Prop} {A : Option Addr} {n : Nat} {z y : Nat → Int} (h : Far w S A n z) (hz : ∀ k, k < n → z k = y k) : Far w S A n y := fun h0 => by
  obtain ⟨ad, e, l1, l2, l3⟩ := h h0
  exact ⟨ad, e, l1, l2, fun k hk => by rw [← hz k hk]; exact l3 k hk⟩
theorem Far.of_ri {w : World} {S : Nat → Prop} {B : Nat} {A : Option Addr} {n : Nat} {z : Nat → Int} (h : Ri w B A n z) (hB : B ≤ w.heap.size) (hS : ∀ k, k < B → ¬ S k) : Far w S A n z := fun h0 => by
  obtain ⟨ad, e, l1, l2⟩ := h h0
  exact ⟨ad, e, by omega, hS _ l1, l2⟩

set_option maxRecDepth 100000 in
set_option maxHeartbeats 6400000 in
theorem walk_LevelsPuts (a0 : Option Addr) (len_a0 cap_a0 : Nat) (z_a0 : Nat → Int) (w : World) (w_a0 : IntsArg w a0 len_a0 cap_a0 z_a0) :
    Calls Try.prog 3 #[.slice a0 len_a0 cap_a0] w fun e w' => e = .returned (.bool true) ∧ Below w.heap.size w w' := by
  obtain ⟨hri, hnil, hnc, hcap, _⟩ := w_a0
  have HRI := Lib.hid hri
  have HNIL := Lib.hid hnil
  have hn1 : (len_a0 + 2) * 8 ≤ 140737488355328 := by omega
  clear hri hnil
  generalize len_a0 = n at *
  generalize z_a0 = z at *
  go_enter Try.func3, Try.ntmps3
  go_wp2_with fail
  refine (st_new _).mono ?_
  rintro e w1 ⟨rfl, hw⟩
  have HW := Lib.hid hw
  clear hw
  go_wp2_with fail
  refine (st_bits HW.out (by omega) 5 3 (by omega) (by omega) (by omega) (by decide)).mono ?_
  rintro e w2 ⟨rfl, v, hw⟩
  rw [List.nil_append] at hw
  have HW := Lib.hid hw
  clear hw
  go_wp2_with fail
  refine (lend_any a0 n cap_a0 z w2 ((HRI.out.below HW.out.2.2.1 (Nat.le_refl _)).more HW.out.size) HNIL.out hn1).mono ?_
  rintro e w3 ⟨vl, rfl, hl, hb3⟩
  obtain ⟨g', cap, rfl, hc1, hc2, hg1, hg2, hrl⟩ := hl
  have hnot : ∀ k, WS w.heap.size v k → k < w2.heap.size := fun k q => HW.out.1.old q
  have hfl : Far w3 (WS w.heap.size v) (some ⟨g', 0, none⟩) (n + 2) (lentF n z) := fun h0 => by
    obtain ⟨ad, e, l1, l2⟩ := hrl h0
    have e2 : (⟨g', 0, none⟩ : Addr) = ad := by injection e
    subst e2
    exact ⟨_, rfl, l1, fun q => by have := hnot _ q; simp only at this; omega, l2⟩
  have HF := Lib.hid hfl
  have HW3 := Lib.hid (HW.out.go hb3)
  have HC := Lib.hid (And.intro hc1 hc2)
  have HG := Lib.hid hg2
  have HFZ := Lib.hid ((hfl.less (show n ≤ n + 2 by omega)).congr (y := z) (fun k hk => by unfold lentF; rw [if_pos hk]))
  clear hb3 hnot hfl hrl hg1 hg2 hc1 hc2 HW
  go_wp2_with fail
  refine (st_lput HW3.out (by omega) HFZ.out).mono ?_
  rintro e w4 ⟨rfl, _, hkeep⟩
  obtain ⟨v2, hw4, hf4⟩ := hkeep _ _ _ HF.out
  have HW4 := Lib.hid hw4
  have HF4 := Lib.hid hf4
  clear hkeep hw4 hf4 HW3 HF HFZ HG
  go_wp2_with fail
  refine (digits_any 5 3 w4 (by omega) (by omega)).mono ?_
  rintro e w5 ⟨vd, rfl, hvd, hb5⟩
  have hw5 := HW4.out.go hb5
  have hlt5 := hw5.size
  have hfa : Far w5 (fun k => vd.ownBlock = some k) a0 n z := Far.of_ri (HRI.out.below hw5.2.2.1 (Nat.le_refl _)) hlt5 (fun k hk q => by have := (hvd.lt k q).1; have := HW4.out.size; omega)
  have HFA := Lib.hid hfa
  have HVD := Lib.hid hvd
  have HB5 := Lib.hid hb5
  have hz45 := hb5.size
  clear hw5 hfa hvd hb5
  go_wp2_with fail
  refine (lput2_any w4.heap.size vd (dig 5 3) a0 n cap_a0 z w5 HVD.out (by rw [dig_len]; omega) hz45 HFA.out).mono ?_
  rintro e w6 ⟨v6, rfl, hG⟩
  have hb56 : Below w4.heap.size w5 w6 := hG.2.1.below (fun k q => (HVD.out.lt k q).1) hz45
  have hb46 := HB5.out.trans hb56
  have hw6 := HW4.out.go hb46
  have hf6 := HF4.out.go hb46
  obtain ⟨A6, c6, rfl, hr6, hn6⟩ := BRow.rd (w := w4) hG.1
  have hbl : (dig 5 3 ++ lvB z n).length ≤ 1100000 := by rw [List.length_append, dig_len]; have := lvB_len z n; omega
  have hp6 := pack_any A6 c6 w6.heap.size _ w6 hr6 (Nat.le_refl _) hbl
  have hdd : dig (5 : Int).toNat (3 : Int).toNat = dig 5 3 := rfl
  rw [hdd] at hw6
  generalize dig 5 3 ++ lvB z n = B at hw6 hp6 hr6 hbl ⊢
  have HW6 := Lib.hid hw6
  have HF6 := Lib.hid hf6
  have HP6 := Lib.hid hp6
  generalize lvE z n = E
  clear hG hb56 hb46 hw6 hf6 hr6 hn6 hp6 hbl hdd HVD HB5 HW4 HF4 HFA hlt5
  go_wp2_with fail
  refine (num_any _ _).mono ?_
  rintro e w' ⟨rfl, rfl⟩
  go_wp2_with fail
  refine (st_bytes HW6.out rfl).mono ?_
  rintro e w' ⟨rfl, rfl⟩
  go_wp2_with fail
  refine HP6.out.mono ?_
  rintro e w7 ⟨rfl, hb7⟩
  have HW7 := Lib.hid (HW6.out.go hb7)
  have HF7 := Lib.hid (HF6.out.go hb7)
  clear hb7 HP6 HW6 HF6
  generalize packS B = S
  go_wp2_with fail
  refine (st_len HW7.out rfl).mono ?_
  rintro e w' ⟨rfl, rfl⟩
  have hkp := kept_yes g' cap a0 n cap_a0 z w7 HC.out.1 HC.out.2 (by obtain ⟨ad, e, l1, _⟩ := HF7.out (by omega); have e2 : (⟨g', 0, none⟩ : Addr) = ad := by injection e
                                                                     subst e2; exact l1) (by omega) HF7.out.ri ((HRI.out.below HW7.out.2.2.1 (Nat.le_refl _)).more HW7.out.size)
  have HKP := Lib.hid hkp
  clear hkp
  go_wp2_with fail
  refine HKP.out.mono ?_
  rintro e w8 ⟨rfl, hb8⟩
  have HB8 := Lib.hid (HW7.out.2.2.1.trans (hb8.mono HW7.out.size))
  clear hb8
  go_wp2_with fail
  refine (awake_any _).mono ?_
  rintro e w9 ⟨rfl, hb9⟩
  have HB9 := Lib.hid (HB8.out.trans (hb9.mono HB8.out.size))
  clear hb9
  go_wp2_with fail
  go_ret
  exact ⟨rfl, HB9.out⟩
end Go.Proofs.Ytocooplmfkeepaa
