/- The statement ConsoleCodes: its walk. -/
import Derived.Test.YtfignfohcalcfaaGreatDoorDecC
import Derived.Test.YtfignfohcalcfaaGreatDoorLawA
import Derived.Test.YtfignfohcalcfaaGreatDoorLinC
import Derived.Test.YtfignfohcalcfaaGreatDoorMask
namespace Go.Proofs.YtfignfohcalcfaaGreatDoor
open Go.RowKit
set_option linter.unusedVariables false
set_option linter.unusedSimpArgs false
attribute [local go_sem] ite_max ite_min and_3

theorem Wr.apart {w w' : World} {base g : Nat} {v : Value} {b : List Bool} {S : Nat → Prop} (h : Wr w base g v b) (ht : Touch S w w') (hs : ∀ i, WS g v i → ¬ S i) : Wr w' base g v b := by
  obtain ⟨c, hk, ho⟩ := h
  exact ⟨c, hk.touch ht (hs g (.inl rfl)), own_touch ho ht (fun i hi => hs i (.inr hi))⟩
theorem Wr.past {w w' : World} {base g : Nat} {v : Value} {b : List Bool} (h : Wr w base g v b) (hb : Below w.heap.size w w') : Wr w' base g v b := by
  obtain ⟨c, hk, ho⟩ := h
  exact ⟨c, hk.go hb, own_go ho hb⟩
theorem newg_any (w : World) : Calls Tryz.prog 10 #[] w fun e w' => ∃ g, e = .returned (.pointer (some ⟨g, 0, none⟩)) ∧ w.heap.size ≤ g ∧ g < w'.heap.size ∧ Wr w' g g (.slice none 0 0) [] ∧ Below w.heap.size w w' := by
  refine (new_any w).mono ?_
  rintro e w' ⟨rfl, rfl⟩
  exact ⟨_, rfl, Nat.le_refl _, by simp, Wr.new w _, (Below.refl _ _).alloc (Nat.le_refl _) _⟩
/-- what a first code leaves of a Writer -/
def Put1 (w : World) (g : Nat) (b : List Bool) (w' : World) : Prop := ∃ v', Wr w' g g v' b ∧ (∀ j, v'.ownBlock = some j → w.heap.size ≤ j) ∧ Touch (fun i => i = g) w w'
theorem Put1.of {w w' : World} {g : Nat} {b : List Bool} (h : PutPost w g g (.slice none 0 0) ([] ++ b) w') : Put1 w g b w' := by
  obtain ⟨v', h1, h2, h3⟩ := h
  refine ⟨v', h1, fun j hj => ?_, h2.mono fun k hk hs => ?_⟩
  · rcases h3 with h3 | ⟨i, h3, hi⟩
    · rw [h3] at hj
      cases hj
    · rw [h3] at hj
      injection hj with hj
      omega
  · rcases hs with hs | hs
    · exact hs
    · cases hs
theorem Put1.below {w0 w w' : World} {g : Nat} {b : List Bool} (h : Put1 w g b w') (hB : Below w0.heap.size w0 w) (hg : w0.heap.size ≤ g) : Below w0.heap.size w0 w' := by
  obtain ⟨v', h1, h2, h3⟩ := h
  exact Below.touch hB h3 (fun i hi hs => by omega) (Nat.le_refl _)
theorem seg_any (g : Nat) (k : Int) (w : World) (h : Wr w g g (.slice none 0 0) []) (hg : g ≤ w.heap.size) (h0 : -1073741823 ≤ k) (h1 : k ≤ 1073741823) :
    Calls Tryz.prog 11 #[.pointer (some ⟨g, 0, none⟩), .int .i64 k] w fun e w' => e = .returned (.int .i64 0) ∧ Put1 w g (seL k) w' :=
  (se_yes g g _ [] k w h (by simp) h0 h1 hg).mono fun e w' q => ⟨q.1, Put1.of q.2⟩
theorem ueg_any (g : Nat) (k : Int) (w : World) (h : Wr w g g (.slice none 0 0) []) (hg : g ≤ w.heap.size) (h0 : 0 ≤ k) (h1 : k ≤ 2147483646) :
    Calls Tryz.prog 12 #[.pointer (some ⟨g, 0, none⟩), .int .i64 k] w fun e w' => e = .returned (.int .i64 0) ∧ Put1 w g (ueL k.toNat) w' :=
  (ue_yes g g _ [] k w h (by simp) h0 h1 hg).mono fun e w' q => ⟨q.1, Put1.of q.2⟩
theorem onex_any (s X : ByteArray) (w : World) (T : Tabs w) (hF : conF s = (tx (X.data.toList ++ [10]), 0)) (ht : X.size ≤ 1000) :
    Calls Tryz.prog 13 #[.string s] w fun e w' => e = .returned (.tuple #[.string X, .bool true]) ∧ Below w.heap.size w w' := by
  have h := one_any s X.data.toList w T hF (by rw [← Lib.size_eq]; exact ht)
  rw [tx_data] at h
  exact h
set_option maxRecDepth 100000 in
set_option maxHeartbeats 3200000 in
theorem walk_ConsoleCodes (a0 : Int) (w : World) (w_a0 : (Lit.int .i64 a0).wf = true) (T : Tabs w) :
    Calls Tryz.prog 4 #[.int .i64 a0] w fun e w' => e = .returned (.bool true) ∧ Below w.heap.size w w' := by
  have hkb := tmod_bd a0 1000000 (by decide)
  obtain ⟨k, hk⟩ : ∃ k, a0.tmod 1000000 = k := ⟨_, rfl⟩
  rw [hk] at hkb
  obtain ⟨m, hm⟩ : ∃ m, max k (-k) = m := ⟨_, rfl⟩
  have hmb : 0 ≤ m ∧ m < 1000000 := by omega
  have hFa := conF_se k (by omega) (by omega)
  have hFb := conF_ue m (by omega) (by omega)
  have hea : seF k = hexF (packS (seL k)) := by unfold seF; rw [if_pos (by omega)]
  have heb : ueF m = hexF (packS (ueL m.toNat)) := by unfold ueF; rw [if_pos (by omega)]
  have hla := code1_len k (seL k) (by unfold code1; rw [if_pos (by omega)])
  have hlb := code0_len m (ueL m.toNat) (by unfold code0; rw [if_pos (by omega)])
  have hsa : (packS (seL k)).size ≤ 100 := by rw [packS_len]; omega
  have hsb : (packS (ueL m.toNat)).size ≤ 100 := by rw [packS_len]; omega
  have hxa := hexF_size (packS (seL k))
  have hxb := hexF_size (packS (ueL m.toNat))
  have hia := itoa_len k (by omega) (by omega)
  have hib := itoa_len m (by omega) (by omega)
  have HSE := Lib.hid (fun g w h1 h2 => seg_any g k w h1 h2 (by omega) (by omega))
  have HUE := Lib.hid (fun g w h1 h2 => ueg_any g m w h1 h2 (by omega) (by omega))
  have HDA := Lib.hid (fun w => dec_any k w (by omega) (by omega))
  have HDB := Lib.hid (fun w => dec_any m w (by omega) (by omega))
  rw [hea] at hFa
  rw [heb] at hFb
  generalize seL k = LA at *
  generalize ueL m.toNat = LB at *
  have HWA := Lib.hid (fun base g v w h => wbytes_any base g v LA w h)
  have HWB := Lib.hid (fun base g v w h => wbytes_any base g v LB w h)
  have HHA := Lib.hid (fun w => hexd_any (packS LA) w (by omega))
  have HHB := Lib.hid (fun w => hexd_any (packS LB) w (by omega))
  generalize packS LA = SA at *
  generalize packS LB = SB at *
  have ea : (⟨#[115, 101, 32]⟩ : ByteArray) ++ tx (Lib.itoa k) = tx ([115, 101, 32] ++ Lib.itoa k) := by
    rw [← tx_data ((⟨#[115, 101, 32]⟩ : ByteArray) ++ tx (Lib.itoa k))]
    simp [tx]
  have eb : (⟨#[117, 101, 32]⟩ : ByteArray) ++ tx (Lib.itoa m) = tx ([117, 101, 32] ++ Lib.itoa m) := by
    rw [← tx_data ((⟨#[117, 101, 32]⟩ : ByteArray) ++ tx (Lib.itoa m))]
    simp [tx]
  have sa : ((tx (Lib.itoa k)).size : Int) ≤ 8388608 := by rw [tx_size]; omega
  have sb : ((tx (Lib.itoa m)).size : Int) ≤ 8388608 := by rw [tx_size]; omega
  generalize tx ([115, 101, 32] ++ Lib.itoa k) = YA at *
  generalize tx ([117, 101, 32] ++ Lib.itoa m) = YB at *
  generalize tx (Lib.itoa k) = XA at *
  generalize tx (Lib.itoa m) = XB at *
  have HOA := Lib.hid (fun w T => onex_any YA _ w T hFa (by omega))
  have HOB := Lib.hid (fun w T => onex_any YB _ w T hFb (by omega))
  generalize hexF SA = RA at *
  generalize hexF SB = RB at *
  have HAW := Lib.hid (awake_any w T)
  have HT := Lib.hid T
  have HN := Lib.hid newg_any
  clear hFa hFb hea heb hla hlb hsa hsb hxa hxb hia hib T w_a0
  go_enter Tryz.func4, Tryz.ntmps4
  go_wp2_with fail
  refine HAW.out.mono ?_
  rintro e w1 ⟨rfl, hb1⟩
  have HB1 := Lib.hid hb1
  clear hb1 HAW
  go_wp2_with fail
  refine (HN.out _).mono ?_
  rintro e w2 ⟨g1, rfl, hg1, hl1, hw1, hb⟩
  have HB2 := Lib.hid (HB1.out.trans (hb.mono HB1.out.size))
  have HG1 := Lib.hid (Nat.le_trans HB1.out.size hg1)
  have HW1 := Lib.hid hw1
  clear hb hw1 HB1 hg1
  go_wp2_with fail
  refine (HN.out _).mono ?_
  rintro e w3 ⟨g2, rfl, hg2, hl2, hw2, hb⟩
  have HB3 := Lib.hid (HB2.out.trans (hb.mono HB2.out.size))
  have HG2 := Lib.hid (Nat.le_trans HB2.out.size hg2)
  have HW2 := Lib.hid hw2
  replace HW1 := Lib.hid (Wr.past HW1.out hb)
  have hs3 := hb.size
  clear hb hw2 HB2
  go_wp2_with fail
  refine (HSE.out _ _ HW1.out (by omega)).mono ?_
  rintro e w4 ⟨rfl, hp⟩
  have HB4 := Lib.hid (Put1.below hp HB3.out HG1.out)
  obtain ⟨v1, h1, h2, h3⟩ := hp
  have hs4 := h3.size
  replace HW1 := Lib.hid h1
  have HV1 := Lib.hid h2
  replace HW2 := Lib.hid (Wr.apart HW2.out h3 (fun i hi q => by rcases hi with hi | hi; omega; cases hi))
  clear h1 h2 h3 HB3
  go_wp2_with fail
  refine (HUE.out _ _ HW2.out (by omega)).mono ?_
  rintro e w5 ⟨rfl, hp⟩
  have HB5 := Lib.hid (Put1.below hp HB4.out HG2.out)
  obtain ⟨v2, h1, h2, h3⟩ := hp
  replace HW2 := Lib.hid h1
  replace HW1 := Lib.hid (Wr.apart HW1.out h3 (fun i hi q => by rcases hi with hi | hi; omega; have := HV1.out i hi; omega))
  clear h1 h2 h3 HB4 HV1 hs3 hs4 hl1 hl2 hg2
  go_wp2_with fail
  refine (HDA.out _).mono ?_
  rintro e w6 ⟨rfl, hb⟩
  have HB6 := Lib.hid (HB5.out.trans (hb.mono HB5.out.size))
  replace HW1 := Lib.hid (Wr.past HW1.out hb)
  replace HW2 := Lib.hid (Wr.past HW2.out hb)
  clear hb HB5
  go_wp2_with fail
  refine (HOA.out _ (HT.out.go HB6.out)).mono ?_
  rintro e w7 ⟨rfl, hb⟩
  have HB7 := Lib.hid (HB6.out.trans (hb.mono HB6.out.size))
  replace HW1 := Lib.hid (Wr.past HW1.out hb)
  replace HW2 := Lib.hid (Wr.past HW2.out hb)
  clear hb HB6
  go_wp2_with fail
  refine (HDB.out _).mono ?_
  rintro e w8 ⟨rfl, hb⟩
  have HB8 := Lib.hid (HB7.out.trans (hb.mono HB7.out.size))
  replace HW1 := Lib.hid (Wr.past HW1.out hb)
  replace HW2 := Lib.hid (Wr.past HW2.out hb)
  clear hb HB7
  go_wp2_with fail
  refine (HOB.out _ (HT.out.go HB8.out)).mono ?_
  rintro e w9 ⟨rfl, hb⟩
  have HB9 := Lib.hid (HB8.out.trans (hb.mono HB8.out.size))
  replace HW1 := Lib.hid (Wr.past HW1.out hb)
  replace HW2 := Lib.hid (Wr.past HW2.out hb)
  clear hb HB8
  go_wp2_with fail
  refine (HWA.out _ _ _ _ HW1.out).mono ?_
  rintro e w' ⟨rfl, rfl⟩
  go_wp2_with fail
  refine (HHA.out _).mono ?_
  rintro e w10 ⟨rfl, hb⟩
  have HB10 := Lib.hid (HB9.out.trans (hb.mono HB9.out.size))
  replace HW2 := Lib.hid (Wr.past HW2.out hb)
  clear hb HB9 HW1
  go_wp2_with fail
  refine (HWB.out _ _ _ _ HW2.out).mono ?_
  rintro e w' ⟨rfl, rfl⟩
  go_wp2_with fail
  refine (HHB.out _).mono ?_
  rintro e w11 ⟨rfl, hb⟩
  have HB11 := Lib.hid (HB10.out.trans (hb.mono HB10.out.size))
  clear hb HB10 HW2
  go_wp2_with fail
  go_ret
  exact ⟨rfl, HB11.out⟩
end Go.Proofs.YtfignfohcalcfaaGreatDoor
