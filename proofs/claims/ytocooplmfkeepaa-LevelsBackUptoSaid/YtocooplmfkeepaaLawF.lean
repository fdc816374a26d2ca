/- The statement LevelsBack: the walk. -/
import Derived.Test.YtocooplmfkeepaaLevX
import Derived.Test.YtocooplmfkeepaaLawD
import Derived.Test.YtocooplmfkeepaaLevV
import Derived.Deep.RegionHeld3
import Derived.Deep.DeepCutAuto
namespace Go.Proofs.Ytocooplmfkeepaa
open Go.RowKit
set_option linter.unusedVariables false
set_option linter.unusedSimpArgs false

theorem getRs_ne {f : Nat → Bool} {N : Nat} {c : Int} : ∀ {cs : List Int} {x : Nat} {out : Nat → Int} {a : Nat}, getRs f N cs x out a = .error c → c ≠ 0
  | [], x, out, a, h => by cases h
  | d :: r, x, out, a, h => by
    rw [getRs_cons] at h
    by_cases hr : r = []
    · rw [if_pos hr] at h; cases h
    · rw [if_neg hr] at h
      rcases hT : getT f N x a with e | ⟨y, b⟩
      · rw [onw_er hT] at h
        injection h with h
        rw [← h]
        exact getT_ne hT
      · rw [onw_ok hT] at h
        exact getRs_ne h
theorem onw_ne {α β : Type} {r : Except Int (α × Nat)} {K : α → Nat → Except Int β} {c : Int} (h : onw r K = .error c) (h1 : ∀ e, r = .error e → e ≠ 0) (h2 : ∀ x b, r = .ok (x, b) → K x b = .error c → c ≠ 0) : c ≠ 0 := by
  rcases r with e | ⟨x, b⟩
  · have h3 : (.error e : Except Int β) = .error c := h
    injection h3 with h3
    rw [← h3]
    exact h1 e rfl
  · exact h2 x b rfl h
theorem getB_ne {f : Nat → Bool} {N k a : Nat} {c : Int} (h : getB f N k a = .error c) : c ≠ 0 := by
  unfold getB at h
  refine onw_ne h (fun e q => getT_ne q) fun t b _ h => ?_
  unfold getB1 at h
  split at h
  · cases h
  · refine onw_ne h (fun e q => getT_ne q) fun o b _ h => ?_
    unfold getB2 at h
    refine onw_ne h (fun e q => getO_ne q) fun cs b _ h => ?_
    unfold getB3 at h
    refine onw_ne h (fun e q => getLs_ne q) fun cs b _ h => ?_
    unfold getB4 at h
    exact onw_ne h (fun e q => getT_ne q) fun x b _ h => getRs_ne h

set_option maxRecDepth 100000 in
set_option maxHeartbeats 12800000 in
theorem walk_LevelsBack (a0 : Option Addr) (len_a0 cap_a0 : Nat) (z_a0 : Nat → Int) (a1 : ByteArray) (a2 : Int) (w : World) (w_a0 : IntsArg w a0 len_a0 cap_a0 z_a0) (w_a1 : a1.size ≤ 1048576) (w_a2 : (Lit.int .i64 a2).wf = true) :
    Calls Try.prog 8 #[.slice a0 len_a0 cap_a0, .string a1, .int .i64 a2] w fun e w' => e = .returned (.bool true) ∧ Below w.heap.size w w' := by
  obtain ⟨hri, hnil, hnc, hcap, _⟩ := w_a0
  have HRI := Lib.hid hri
  have hn1 : (len_a0 + 2) * 8 ≤ 140737488355328 := by omega
  clear hri hnil w_a2
  generalize len_a0 = n at *
  generalize z_a0 = z at *
  go_enter Try.func8, Try.ntmps8
  go_wp2_with fail
  refine (awake_any _).mono ?_
  rintro e w1 ⟨rfl, hb1⟩
  have HB1 := Lib.hid hb1
  have hz1 := hb1.size
  clear hb1
  go_wp2_with fail
  refine (st_new _).mono ?_
  rintro e w2 ⟨rfl, hw⟩
  have hz2 := hw.size
  have HB2 := Lib.hid (HB1.out.trans (hw.2.2.1.mono hz1))
  have hfa : Far w2 (WS w1.heap.size (.slice none 0 0)) a0 n z := Far.of_ri (HRI.out.below HB2.out (Nat.le_refl _)) (by omega) (fun k hk q => by have := Wr.ws hw.1 (Nat.le_refl _) q; omega)
  have HFA := Lib.hid hfa
  have HW := Lib.hid hw
  clear hw hfa HB2
  go_wp2_with fail
  refine (st_lput HW.out (by omega) HFA.out).mono ?_
  rintro e w3 ⟨rfl, ⟨v3, hw3⟩, _⟩
  rw [List.nil_append] at hw3
  have hz3 := hw3.size
  have HW3 := Lib.hid hw3
  have HB3 := Lib.hid (HB1.out.trans (hw3.2.2.1.mono hz1))
  clear hw3 HFA HW hz2
  go_wp2_with fail
  refine (num_any _ _).mono ?_
  rintro e w' ⟨rfl, rfl⟩
  go_upto_if 28 with fail
  go_cut [8] (fun s8 wx => s8 = .int .i64 (lvE z n) ∧ Below w.heap.size w wx)
  case first =>
    rcases Classical.em (lvE z n = 0) with h0 | h0
    · have hk : sizeOk n = true ∧ lvOk z n = true := by
        unfold lvE at h0
        split at h0
        · rename_i h1
          split at h0
          · rename_i h2; exact ⟨h1, h2⟩
          · omega
        · omega
      have hlv := lvE_yes hk.1 hk.2
      rw [hlv.1]
      have hs := lvB_len z n
      have hpk := Lies.packed (lvB z n)
      have hsz : (packS (lvB z n)).size ≤ 3000 := by rw [packS_size]; omega
      have hgb := getB_of (f := sbit (packS (lvB z n))) (N := 8 * (packS (lvB z n)).size) (a := 0) hk.1 hk.2 (by rw [← hlv.2]; exact hpk)
      rw [← hlv.2] at hgb
      have HGB := Lib.hid hgb
      have HK := Lib.hid hk
      obtain ⟨B, hB⟩ : ∃ B, B = lvB z n := ⟨_, rfl⟩
      rw [← hB] at HW3 HGB hsz
      obtain ⟨S, hS⟩ : ∃ S, S = packS B := ⟨_, rfl⟩
      rw [← hS] at HGB hsz
      have HSB := Lib.hid hS
      have HE0 := Lib.hid h0
      clear h0 hk hlv hs hpk hgb hB hS
      go_wp2_with fail
      refine (st_bytes HW3.out HSB.out.symm).mono ?_
      rintro e w' ⟨rfl, rfl⟩
      go_wp2_with fail
      refine (st_open S _).mono ?_
      rintro e w4 ⟨rfl, hr⟩
      have HR := Lib.hid hr
      clear hr
      go_wp2_with fail
      refine (st_lget HR.out (by omega) (Nat.zero_le _) n).mono ?_
      rintro e w5 hg
      rcases hg with ⟨k, y, b, hk, hks, hgb, hb, ⟨O, rfl, hO, har⟩, hr⟩ | ⟨c, _, _, hbad⟩
      · obtain rfl : k = n := by omega
        obtain ⟨z', hgz, hzz⟩ := HGB.out
        rw [hgz] at hgb
        injection hgb with hgb
        injection hgb with hy hb'
        subst hy
        subst hb'
        have hw5 := HW3.out.go hr.2.2
        have hb5 := HB1.out.trans (hw5.2.2.1.mono hz1)
        have hri5 := (HRI.out.below hb5 (Nat.le_refl _)).more (show w.heap.size ≤ w5.heap.size by have := hw5.size; omega)
        have hsame := fun c d => same_yes (some ⟨O, 0, none⟩) a0 k c d z' z _ har.rd hri5 (by omega) hzz
        have hat := fun w6 (q : Below w5.heap.size w5 w6) => st_at (hr.go q)
        have hlen := fun w6 (q : Below w5.heap.size w5 w6) => st_len (hw5.go q) (n := ((0 + B.length : Nat) : Int)) (by omega)
        have HSAME := Lib.hid hsame
        have HAT := Lib.hid hat
        have HLEN := Lib.hid hlen
        have HB5 := Lib.hid hb5
        have hz5 : w.heap.size ≤ w5.heap.size := hb5.size
        clear hw5 hb5 hri5 hsame hat hlen hgz hzz har hr hO hb hks hk
        go_wp2_with (first | (go_at_call 15; refine (num_any _ _).mono ?_; rintro e w' ⟨rfl, rfl⟩) | (go_at_call 27; refine (HSAME.out _ _).mono ?_; rintro e w6 ⟨rfl, hb6⟩) | (go_at_call 28; refine (HAT.out _ hb6).mono ?_; rintro e w' ⟨rfl, rfl⟩) | (go_at_call 18; refine (HLEN.out _ hb6).mono ?_; rintro e w' ⟨rfl, rfl⟩))
        go_meet
        case rel => exact ⟨congrArg (Value.int .i64) HE0.out.symm, HB5.out.trans (hb6.mono hz5)⟩
      · exfalso
        obtain ⟨z', hgz, hzz⟩ := HGB.out
        rcases hbad with ⟨h1, _⟩ | ⟨k, hk, _, he⟩
        · have := HK.out.1
          rw [← sizeI_nat, h1] at this
          cases this
        · obtain rfl : k = n := by omega
          rw [hgz] at he
          cases he
    · have h1 : (lvE z n == 0) = false := by rw [beq_eq_false_iff_ne]; exact h0
      clear h0
      go_wp2_with fail
      go_meet
      case rel => exact ⟨rfl, HB3.out⟩
  case rest =>
    obtain ⟨rfl, hb4⟩ := hcut
    clear HRI HB1 HB3 HW3 hz1 hz3
    have HB4 := Lib.hid hb4
    have hz4 := hb4.size
    clear hb4
    go_wp2_with fail
    refine (st_open a1 _).mono ?_
    rintro e w5 ⟨rfl, hr⟩
    have HR := Lib.hid hr
    clear hr
    go_wp2_with fail
    refine (st_lget HR.out (by omega) (Nat.zero_le _) a2).mono ?_
    rintro e w6 hg
    rcases hg with ⟨k, y, b, rfl, hks, hgb, hb, ⟨O, rfl, hO, har⟩, hr⟩ | ⟨c, rfl, hr, hbad⟩
    · obtain ⟨hok, hli, hbe⟩ := getB_inv hks (Nat.zero_le _) hgb
      have hlv := lvE_yes hks hok
      rw [← hlv.2] at hli hbe
      have hBl := lvB_len y k
      have hE := hlv.1
      have hk16 := (sizeOk_le hks).2
      obtain ⟨B, hB⟩ : ∃ B, B = lvB y k := ⟨_, rfl⟩
      rw [← hB] at hli hbe hBl
      rw [Nat.zero_add] at hbe
      subst hbe
      have HBB := Lib.hid hB
      have HE := Lib.hid hE
      have HLI := Lib.hid hli
      have HR := Lib.hid hr
      have HA := Lib.hid har
      have hz6 := hr.2.2.size
      have hz56 := hr.size
      clear hB hE hli hr har hlv hok hgb hks hb hO
      go_wp2_with fail
      refine (num_any _ _).mono ?_
      rintro e w' ⟨rfl, rfl⟩
      go_wp2_with fail
      refine (st_new _).mono ?_
      rintro e w7 ⟨rfl, hw⟩
      have hnot : ¬ WS w6.heap.size (.slice none 0 0) O := fun q => by have := Wr.ws hw.1 (Nat.le_refl _) q; have := HA.out.2.2; omega
      have hfO := Far.of_ar (HA.out.go hw.2.2.1) hnot
      have HFO := Lib.hid hfO
      have HW := Lib.hid hw
      clear hnot hfO hw HA
      go_wp2_with fail
      refine (st_lput HW.out (by omega) HFO.out).mono ?_
      rintro e w8 ⟨rfl, ⟨v8, hw8⟩, _⟩
      rw [List.nil_append, ← HBB.out] at hw8
      rw [HE.out]
      have HR8 := Lib.hid (HR.out.go hw8.2.2.1)
      have HW8 := Lib.hid hw8
      clear hw8 HFO HW HR HE HBB
      go_wp2_with fail
      refine (openr_any a1 w8 (by omega)).mono ?_
      rintro e w9 ⟨gA, cpA, rfl, hgA1, hgA2, hcA, hb9⟩
      have HR9 := Lib.hid (HR8.out.go hb9)
      have HW9 := Lib.hid (HW8.out.go hb9)
      have HCA := Lib.hid hcA
      clear hcA hb9 HR8 HW8
      obtain ⟨S, hS⟩ : ∃ S, S = packS B := ⟨_, rfl⟩
      have hSz : S.size ≤ 3000 := by rw [hS, packS_size]; omega
      have hSB : ∀ j, j < B.length → sbit a1 j = sbit S j ∧ j < 8 * S.size ∧ j < 8 * a1.size := by
        intro j hj
        have h1 := HLI.out.2 j hj
        have h2 := (Lies.packed B).2 j hj
        have h3 := (Lies.packed B).1
        have h4 := HLI.out.1
        rw [Nat.zero_add] at h1 h2
        rw [hS]
        exact ⟨h1.trans h2.symm, by omega, by omega⟩
      have HSB := Lib.hid hSB
      have HS := Lib.hid hS
      clear hS hSB HLI
      go_wp2_with fail
      refine (st_bytes HW9.out HS.out.symm).mono ?_
      rintro e w' ⟨rfl, rfl⟩
      go_wp2_with fail
      refine (openr_any S w9 (by omega)).mono ?_
      rintro e wt ⟨gB, cpB, rfl, hgB1, hgB2, hcB, hb10⟩
      have HR10 := Lib.hid (HR9.out.go hb10)
      have HW10 := Lib.hid (HW9.out.go hb10)
      have HCA10 := Lib.hid (fun j (hj : j < 8 * a1.size) => (hb10.cell (p := ⟨gA, j, none⟩) hgA2).trans (HCA.out j hj))
      have HCB := Lib.hid hcB
      have hzt := HR10.out.2.2.size
      have hlen := fun wq (q : Below wt.heap.size wt wq) => st_len (HW10.out.go q) (n := ((B.length : Nat) : Int)) rfl
      have hat := fun wq (q : Below wt.heap.size wt wq) => st_at (HR10.out.go q)
      have HLEN := Lib.hid hlen
      have HAT := Lib.hid hat
      have HBT := Lib.hid (HB4.out.trans (HR10.out.2.2.mono hz4))
      have hzw : w.heap.size ≤ wt.heap.size := by omega
      clear hcB hb10 HR9 HW9 HCA hlen hat HR10 HW10 HB4 HS HR
      obtain ⟨NA, hNA⟩ : ∃ NA, NA = 8 * a1.size := ⟨_, rfl⟩
      obtain ⟨NB, hNB⟩ : ∃ NB, NB = 8 * S.size := ⟨_, rfl⟩
      rw [← hNA] at HCA10 HSB ⊢
      rw [← hNB] at HCB HSB ⊢
      have hNAb : NA ≤ 8388608 := by omega
      have hNBb : NB ≤ 24000 := by omega
      clear hNA hNB
      go_wp2_with fail
      go_loopw [19] (fun i wr => ∃ j : Nat, j ≤ B.length ∧ i = .int .i64 j ∧ Below wt.heap.size wt wr) (fun i _ => B.length - (intOf i).toNat)
      case atStart => exact ⟨0, Nat.zero_le _, rfl, Below.refl _ _⟩
      case round =>
        obtain ⟨j, hj, rfl, hbl⟩ := hrel
        have HBL := Lib.hid hbl
        by_cases hlt : j < B.length
        · obtain ⟨he, h1, h2⟩ := HSB.out j hlt
          have ca : wr.cell? ⟨gA, j, none⟩ = some (.int .u8 (bu (sbit a1 j))) := (hbl.cell (p := ⟨gA, j, none⟩) (by simp only; omega)).trans (HCA10.out j h2)
          have cb : wr.cell? ⟨gB, j, none⟩ = some (.int .u8 (bu (sbit S j))) := (hbl.cell (p := ⟨gB, j, none⟩) hgB2).trans (HCB.out j h1)
          rw [he] at ca
          generalize bu (sbit S j) = x at ca cb
          have hi0 : (0 : Int) ≤ (j : Int) := Int.natCast_nonneg _
          have hi1 : (j : Int) < (B.length : Int) := by omega
          have hi2 : (j : Int) < (NA : Int) := by omega
          have hi3 : (j : Int) < (NB : Int) := by omega
          have hxx : (x != x) = false := by simp
          clear hbl he
          go_wp2_with (first | (go_at_call 18; refine (HLEN.out _ HBL.out).mono ?_; rintro e w' ⟨rfl, rfl⟩))
          go_quiet (fail)
          go_wp2_with fail
          go_roundw
          case rel =>
            have hq := HBL.out
            exact ⟨j + 1, by omega, by go_num, ⟨hq.os, hq.tape, hq.output, hq.size, hq.block⟩⟩
          case measure => simp [intOf]; omega
        · obtain rfl : j = B.length := by omega
          have hxx : ((B.length : Int) == (B.length : Int)) = true := by simp
          clear hbl
          go_wp2_with (first | (go_at_call 18; refine (HLEN.out _ HBL.out).mono ?_; rintro e w' ⟨rfl, rfl⟩) | (go_at_call 15; refine (num_any _ _).mono ?_; rintro e w' ⟨rfl, rfl⟩) | (go_at_call 28; refine (HAT.out _ HBL.out).mono ?_; rintro e w' ⟨rfl, rfl⟩))
          go_ret
          exact ⟨rfl, HBT.out.trans (HBL.out.mono hzw)⟩
    · have hc0 : c ≠ 0 := by
        rcases hbad with ⟨_, h⟩ | ⟨k, _, _, h⟩
        · omega
        · exact getB_ne h
      have hcz : (c != 0) = true := by rw [bne_iff_ne]; exact hc0
      have HR6 := Lib.hid hr
      clear hbad hc0 hr HR
      go_wp2_with fail
      refine (num_any _ _).mono ?_
      rintro e w' ⟨rfl, rfl⟩
      go_wp2_with fail
      refine (st_at HR6.out).mono ?_
      rintro e w' ⟨rfl, rfl⟩
      go_wp2_with fail
      go_ret
      exact ⟨rfl, HB4.out.trans (HR6.out.2.2.mono hz4)⟩
end Go.Proofs.Ytocooplmfkeepaa
