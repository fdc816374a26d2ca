/- The document's fair, Luma. -/
import Derived.Test.YtoagihocibeidaaIntH
namespace Go.Proofs.Ytoagihocibeidaa
open Go.RowKit
set_option linter.unusedVariables false
set_option linter.unusedSimpArgs false
attribute [local go_sem] ite_max ite_min and_3 and_7

set_option maxRecDepth 100000 in
set_option maxHeartbeats 3200000 in
theorem fair2 (A : Option Addr) (n c : Nat) (W H x y bw bh : Int) (w : World) :
    Calls Try.prog 25 #[.slice A n c, .int .i64 W, .int .i64 H, .int .i64 x, .int .i64 y, .int .i64 bw, .int .i64 bh] w fun e w' => e = .returned (.bool (fairB n W H x y bw bh)) ∧ w = w' := by
  have hw : (1 ≤ W ∧ W ≤ 128) → (1 ≤ H ∧ H ≤ 128) → wrap64 (W * H) = W * H := fun a b => by
    have := prod_le (show 0 ≤ W by omega) (show 0 ≤ H by omega) a.2 b.2
    unfold wrap64; generalize W * H = m at *; omega
  have HW := Lib.hid hw
  clear hw
  have HN := Lib.hid (Int.natCast_nonneg n)
  go_enter Try.func25, Try.ntmps25
  go_wp2_with fail
  all_goals
    go_ret
    refine ⟨ret_bool ?_, rfl⟩
    unfold fairB
    rw [Bool.eq_iff_iff, decide_eq_true_iff]
    first
    | (simp only [Bool.false_eq_true, false_iff]; omega)
    | (have hw := HW.out (by omega) (by omega); simp only [hw] at *; generalize W * H = m at *; simp at *; omega)
    | skip

theorem idx_at {B j i : Nat} (hi : i < B) : (j * B + i) % B = i ∧ (j * B + i) / B = j := by
  constructor
  · rw [Nat.mul_comm, Nat.mul_add_mod, Nat.mod_eq_of_lt hi]
  · rw [Nat.mul_comm, Nat.mul_add_div (by omega), Nat.div_eq_of_lt hi, Nat.add_zero]
theorem fair_yes {n : Nat} {W H x y : Int} {B C : Nat} (hf : fairB n W H x y B C = true) : (1 ≤ W ∧ W ≤ 128) ∧ (1 ≤ H ∧ H ≤ 128) ∧ (n : Int) = W * H ∧ (1 ≤ B ∧ B ≤ 16) ∧ (1 ≤ C ∧ C ≤ 16) ∧ (-4096 ≤ x ∧ x ≤ 4096) ∧ (-4096 ≤ y ∧ y ≤ 4096) := by
  unfold fairB at hf
  rw [decide_eq_true_iff] at hf
  omega

set_option maxRecDepth 100000 in
set_option maxHeartbeats 3200000 in
theorem luma2_yes (A : Option Addr) (n c : Nat) (s : Nat → Int) (W H x y : Int) (B C : Nat) (w : World) (hr : Rb w A n s) (hs : ∀ k, 0 ≤ s k ∧ s k ≤ 255) (hf : fairB n W H x y B C = true) :
    Calls Try.prog 12 #[.slice A n c, .int .i64 W, .int .i64 H, .int .i64 x, .int .i64 y, .int .i64 B, .int .i64 C] w (Gives w (B * C) (lumF s W H x y B) 0) := by
  obtain ⟨i0, hi, hz0, hz1, hz2⟩ := info_parts int_info
  obtain ⟨h1, h2, h3, h4, h5, h6, h7⟩ := fair_yes hf
  have hp : Pv w A n s W H := ⟨hr, h3, h1, h2, hs⟩
  have HP := Lib.hid hp
  have HM := Lib.hid (fair2 A n c W H x y B C w)
  obtain ⟨N, hN⟩ : ∃ N, N = B * C := ⟨_, rfl⟩
  have hNb : N ≤ 256 := by rw [hN]; exact Nat.le_trans (Nat.mul_le_mul (show B ≤ 16 by omega) (show C ≤ 16 by omega)) (by omega)
  rw [← hN]
  have HNN := Lib.hid hN
  have HFB := Lib.hid hf
  obtain ⟨d, hd⟩ : ∃ d : Int, d = x % 4 + 4 * (y % 4) := ⟨_, rfl⟩
  have hdb : 0 ≤ d ∧ d ≤ 15 := by omega
  have HD : Hid (d.toNat = dOf x y) := Lib.hid (by unfold dOf; rw [hd])
  have hd' : x % 4 + 4 * (y % 4) = d := hd.symm
  clear hr hs hp h3 hN hf hd
  go_enter Try.func12, Try.ntmps12
  go_wp2_with fail
  refine HM.out.mono ?_
  rw [HFB.out]
  rintro e w' ⟨rfl, rfl⟩
  go_wp2_with fail
  go_loopw [17, 18] (fun v t wr => ∃ j k : Nat, j ≤ C ∧ k = j * B ∧ t = .int .i64 j ∧ wr.ownsRow w.heap.size 3 1 v k ((List.range k).map fun j => .int .i64 (lumF s W H x y B j)) ∧ Bk wr w.heap.size 52 #[.slice A n c, .int .i64 W, .int .i64 H] ∧ Below w.heap.size w wr) (fun _ t _ => C - (intOf t).toNat)
  case atStart => exact ⟨0, 0, Nat.zero_le _, by simp, rfl, World.ownsRow_nil _ _ _ _, Bk.new _ _ _, (Below.refl _ _).alloc (Nat.le_refl _) _⟩
  case round =>
    obtain ⟨j, k, hj, hk, rfl, hown, hbk, hbl⟩ := hrel
    have HO := Lib.hid hown
    have HK := Lib.hid hbk
    have BB := Lib.hid hbl
    have HKJ := Lib.hid hk
    clear hown hbk hbl hk
    by_cases hlt : j < C
    · go_wp2_with fail
      go_loopw [17, 19] (fun v t wr => ∃ i k : Nat, i ≤ B ∧ k = j * B + i ∧ t = .int .i64 i ∧ wr.ownsRow w.heap.size 3 1 v k ((List.range k).map fun j => .int .i64 (lumF s W H x y B j)) ∧ Bk wr w.heap.size 52 #[.slice A n c, .int .i64 W, .int .i64 H] ∧ Below w.heap.size w wr) (fun _ t _ => B - (intOf t).toNat)
      case atStart => exact ⟨0, k, Nat.zero_le _, by rw [HKJ.out]; rfl, rfl, HO.out, HK.out, BB.out⟩
      case round =>
        clear HO HK BB
        obtain ⟨i, k2, hi2, hk2, rfl, hown, hbk, hbl⟩ := hrel
        have hsz := hbl.size
        have kl := hbk.lt
        have HO := Lib.hid hown
        have HK := Lib.hid hbk
        have BB := Lib.hid hbl
        have HK2 := Lib.hid hk2
        have c0 : wr.cell? ⟨w.heap.size, 0, none⟩ = some (.slice A n c) := hbk.cell 0
        have c1 : wr.cell? ⟨w.heap.size, 1, none⟩ = some (.int .i64 W) := hbk.cell 1
        have c2 : wr.cell? ⟨w.heap.size, 2, none⟩ = some (.int .i64 H) := hbk.cell 2
        clear hown hbk hbl hk2
        by_cases hlt2 : i < B
        · have hkN : Hid (k2 < N) := Lib.hid (by
            have h1 : (j + 1) * B ≤ C * B := Nat.mul_le_mul_right _ hlt
            rw [Nat.add_mul, Nat.one_mul, Nat.mul_comm C B, ← HNN.out] at h1
            have := HK2.out
            omega)
          have hk256 : k2 ≤ 256 := by have := hkN.out; omega
          have HV : Hid (lumF s W H x y B k2 = lumV (atS s W H) d.toNat (x / 4 + i) (y / 4 + j)) := Lib.hid (by
            obtain ⟨q1, q2⟩ := idx_at (j := j) hlt2
            unfold lumF
            rw [HK2.out, q1, q2, HD.out])
          have hj16 : j ≤ 16 := by omega
          go_wp2_with fail
          refine (quarter2 A n c s W H _ _ _ w _ HP.out BB.out (by omega) (by omega) hdb).mono ?_
          rintro e w3 ⟨rfl, hb⟩
          have HK := Lib.hid (HK.out.go hb)
          have HO := Lib.hid (own_go HO.out hb)
          have BB := Lib.hid (BB.out.trans (hb.mono hsz))
          have hs3 := hb.size
          clear hb c0 c1 c2
          obtain ⟨va, hva⟩ : ∃ v, v = lumV (atS s W H) d.toNat (x / 4 + i) (y / 4 + j) := ⟨_, rfl⟩
          rw [← hva] at HV ⊢
          clear hva
          go_wp2_with (at_builtin; refine wpList_append_own _ rfl _ _ 25 rfl w.heap.size 3 i0 (.int .i64 0) 1 8 Try.underlying25 hi hz0 hz1 hz2 rfl (by decide) _ k2 _ rfl (HO.out.alloc _) ⟨w3.heap.size, 0, none⟩ 1 1 [.int .i64 va] rfl rfl (cell_one_new _ _ _) (fun u hu => by simp at hu; subst hu; rfl) (by unfold maxLen; omega) (by omega) (by simp; omega) ?_)
          intro v' w4 hown1 hg1 _
          have hb1 : Below w.heap.size w w4 := (BB.out.alloc BB.out.size _).grown hg1 (by have := BB.out.size; simp; omega) (fun j hj => (HO.out.lt j hj).1)
          have hp1 : Bk w4 w.heap.size 52 #[.slice A n c, .int .i64 W, .int .i64 H] := (HK.out.alloc _).grown hg1 (fun q => HK.out.ne_own HO.out (by decide) q.symm)
          rw [← HV.out, ← range_snoc (fun j => Value.int .i64 (lumF s W H x y B j)) k2] at hown1
          have H1 := Lib.hid hown1
          have H2 := Lib.hid hb1
          have H3 := Lib.hid hp1
          clear hown1 hb1 hg1 hp1
          go_wp2_with fail
          go_roundw
          case rel => exact ⟨i + 1, k2 + 1, by omega, by rw [HK2.out]; rfl, by go_num, H1.out, H3.out, H2.out⟩
          case measure => simp [intOf]; omega
        · obtain rfl : B = i := by omega
          go_wp2_with fail
          go_roundw
          case rel => exact ⟨j + 1, k2, by omega, by rw [HK2.out, Nat.add_mul, Nat.one_mul], by go_num, HO.out, HK.out, BB.out⟩
          case measure => simp [intOf]; omega
    · have hkN : k = N := by rw [HKJ.out, HNN.out, show j = C by omega, Nat.mul_comm]
      subst hkN
      go_wp2_with fail
      go_ret2
      exact ⟨_, rfl, HO.out, BB.out⟩

end Go.Proofs.Ytoagihocibeidaa
