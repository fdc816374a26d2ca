/- The document's Chroma. -/
import Derived.Test.YtoagihocibeidaaIntI
namespace Go.Proofs.Ytoagihocibeidaa
open Go.RowKit
set_option linter.unusedVariables false
set_option linter.unusedSimpArgs false
attribute [local go_sem] ite_max ite_min and_3 and_7

theorem mul64 {a b : Int} (ha : 0 ≤ a ∧ a ≤ 8) (hb : 0 ≤ b ∧ b ≤ 8) : 0 ≤ a * b ∧ a * b ≤ 64 := by
  have := prod_le ha.1 hb.1 ha.2 hb.2
  exact ⟨this.1, Int.le_trans this.2 (by decide)⟩
theorem mul16320 {a b : Int} (ha : 0 ≤ a ∧ a ≤ 64) (hb : 0 ≤ b ∧ b ≤ 255) : 0 ≤ a * b ∧ a * b ≤ 16320 := by
  have := prod_le ha.1 hb.1 ha.2 hb.2
  exact ⟨this.1, Int.le_trans this.2 (by decide)⟩
theorem chr_eq (A : Int → Int → Int) (dx dy x y : Int) : chrV A dx dy x y = ((8 - dx) * (8 - dy) * A x y + dx * (8 - dy) * A (x + 1) y + (8 - dx) * dy * A x (y + 1) + dx * dy * A (x + 1) (y + 1) + 32) / 64 := by
  unfold chrV
  congr 2
  generalize A x y = a
  generalize A (x + 1) y = b
  generalize A x (y + 1) = c
  generalize A (x + 1) (y + 1) = d
  rw [Int.mul_add, Int.mul_add]
  have e1 : (8 - dy) * ((8 - dx) * a) = (8 - dx) * (8 - dy) * a := by rw [← Int.mul_assoc, Int.mul_comm (8 - dy)]
  have e2 : (8 - dy) * (dx * b) = dx * (8 - dy) * b := by rw [← Int.mul_assoc, Int.mul_comm (8 - dy)]
  have e3 : dy * ((8 - dx) * c) = (8 - dx) * dy * c := by rw [← Int.mul_assoc, Int.mul_comm dy]
  have e4 : dy * (dx * d) = dx * dy * d := by rw [← Int.mul_assoc, Int.mul_comm dy]
  rw [e1, e2, e3, e4]
  omega

set_option maxRecDepth 100000 in
set_option maxHeartbeats 3200000 in
theorem chroma2_yes (A : Option Addr) (n c : Nat) (s : Nat → Int) (W H x y : Int) (B C : Nat) (w : World) (hr : Rb w A n s) (hs : ∀ k, 0 ≤ s k ∧ s k ≤ 255) (hf : fairB n W H x y B C = true) :
    Calls Try.prog 14 #[.slice A n c, .int .i64 W, .int .i64 H, .int .i64 x, .int .i64 y, .int .i64 B, .int .i64 C] w (Gives w (B * C) (chrF s W H x y B) 0) := by
  obtain ⟨i0, hi, hz0, hz1, hz2⟩ := info_parts int_info
  obtain ⟨h1, h2, h3, h4, h5, h6, h7⟩ := fair_yes hf
  have hp : Pv w A n s W H := ⟨hr, h3, h1, h2, hs⟩
  have HP := Lib.hid hp
  have HM := Lib.hid (fair2 A n c W H x y B C w)
  obtain ⟨N, hN⟩ : ∃ N, N = B * C := ⟨_, rfl⟩
  have hNb : N ≤ 256 := by rw [hN]; exact Nat.le_trans (Nat.mul_le_mul (show B ≤ 16 by omega) (show C ≤ 16 by omega)) (by omega)
  rw [← hN]
  have HNN := Lib.hid hN
  have HFB := Lib.hid hf
  obtain ⟨qx, e2, qx1⟩ : ∃ q : Nat, x % 8 = (q : Int) ∧ q < 8 := ⟨(x % 8).toNat, by omega, by omega⟩
  obtain ⟨qy, e3, qy1⟩ : ∃ q : Nat, y % 8 = (q : Int) ∧ q < 8 := ⟨(y % 8).toNat, by omega, by omega⟩
  have E23 := Lib.hid (And.intro e2 e3)
  clear hr hs hp h3 hN hf
  go_enter Try.func14, Try.ntmps14
  go_wp2_with fail
  refine HM.out.mono ?_
  rw [HFB.out]
  rintro e w' ⟨rfl, rfl⟩
  go_wp2_with fail
  go_loopw [19, 20] (fun v t wr => ∃ j k : Nat, j ≤ C ∧ k = j * B ∧ t = .int .i64 j ∧ wr.ownsRow w.heap.size 3 1 v k ((List.range k).map fun j => .int .i64 (chrF s W H x y B j)) ∧ Bk wr w.heap.size 52 #[.slice A n c, .int .i64 W, .int .i64 H] ∧ Below w.heap.size w wr) (fun _ t _ => C - (intOf t).toNat)
  case atStart => exact ⟨0, 0, Nat.zero_le _, by simp, rfl, World.ownsRow_nil _ _ _ _, Bk.new _ _ _, (Below.refl _ _).alloc (Nat.le_refl _) _⟩
  case round =>
    obtain ⟨j, k, hj, hk, rfl, hown, hbk, hbl⟩ := hrel
    have HO := Lib.hid hown
    have HK := Lib.hid hbk
    have BB := Lib.hid hbl
    have HKJ := Lib.hid hk
    clear hown hbk hbl hk
    by_cases hlt : j < C
    · go_wp2_with fail
      go_loopw [19, 21] (fun v t wr => ∃ i k : Nat, i ≤ B ∧ k = j * B + i ∧ t = .int .i64 i ∧ wr.ownsRow w.heap.size 3 1 v k ((List.range k).map fun j => .int .i64 (chrF s W H x y B j)) ∧ Bk wr w.heap.size 52 #[.slice A n c, .int .i64 W, .int .i64 H] ∧ Below w.heap.size w wr) (fun _ t _ => B - (intOf t).toNat)
      case atStart => exact ⟨0, k, Nat.zero_le _, by rw [HKJ.out]; rfl, rfl, HO.out, HK.out, BB.out⟩
      case round =>
        clear HO HK BB
        obtain ⟨i, k2, hi2, hk2, rfl, hown, hbk, hbl⟩ := hrel
        have hsz := hbl.size
        have kl := hbk.lt
        have HO := Lib.hid hown
        have HK := Lib.hid hbk
        have BB := Lib.hid hbl
        have HK2 := Lib.hid hk2
        have c0 : wr.cell? ⟨w.heap.size, 0, none⟩ = some (.slice A n c) := hbk.cell 0
        have c1 : wr.cell? ⟨w.heap.size, 1, none⟩ = some (.int .i64 W) := hbk.cell 1
        have c2 : wr.cell? ⟨w.heap.size, 2, none⟩ = some (.int .i64 H) := hbk.cell 2
        clear hown hbk hbl hk2
        by_cases hlt2 : i < B
        · have hkN : Hid (k2 < N) := Lib.hid (by
            have h1 : (j + 1) * B ≤ C * B := Nat.mul_le_mul_right _ hlt
            rw [Nat.add_mul, Nat.one_mul, Nat.mul_comm C B, ← HNN.out] at h1
            have := HK2.out
            omega)
          have hk256 : k2 ≤ 256 := by have := hkN.out; omega
          have HV : Hid (chrF s W H x y B k2 = chrV (atS s W H) qx qy (x / 8 + i) (y / 8 + j)) := Lib.hid (by
            obtain ⟨q1, q2⟩ := idx_at (j := j) hlt2
            unfold chrF
            rw [HK2.out, q1, q2, E23.out.1, E23.out.2])
          have hj16 : j ≤ 16 := by omega
          have hv := HP.out.val
          have x1 : -10000 ≤ x / 8 + i ∧ x / 8 + i ≤ 10000 := by omega
          have x2 : -10000 ≤ x / 8 + i + 1 ∧ x / 8 + i + 1 ≤ 10000 := by omega
          have y1 : -10000 ≤ y / 8 + j ∧ y / 8 + j ≤ 10000 := by omega
          have y2 : -10000 ≤ y / 8 + j + 1 ∧ y / 8 + j + 1 ≤ 10000 := by omega
          have b1 := hv (x / 8 + i) (y / 8 + j)
          have b2 := hv (x / 8 + i + 1) (y / 8 + j)
          have b3 := hv (x / 8 + i) (y / 8 + j + 1)
          have b4 := hv (x / 8 + i + 1) (y / 8 + j + 1)
          obtain ⟨X, hX⟩ : ∃ X, X = x / 8 + (i : Int) := ⟨_, rfl⟩
          obtain ⟨Y, hY⟩ : ∃ Y, Y = y / 8 + (j : Int) := ⟨_, rfl⟩
          go_wp2_with fail
          rw [← hX] at x1 x2 b1 b2 b3 b4 HV ⊢
          rw [← hY] at y1 y2 b1 b2 b3 b4 HV ⊢
          clear hX hY hv
          obtain ⟨m1, hm1⟩ : ∃ m, m = (8 - (qx : Int)) * (8 - (qy : Int)) := ⟨_, rfl⟩
          obtain ⟨m2, hm2⟩ : ∃ m, m = (qx : Int) * (8 - (qy : Int)) := ⟨_, rfl⟩
          obtain ⟨m3, hm3⟩ : ∃ m, m = (8 - (qx : Int)) * (qy : Int) := ⟨_, rfl⟩
          obtain ⟨m4, hm4⟩ : ∃ m, m = (qx : Int) * (qy : Int) := ⟨_, rfl⟩
          have n1 : 0 ≤ m1 ∧ m1 ≤ 64 := by rw [hm1]; exact mul64 (by omega) (by omega)
          have n2 : 0 ≤ m2 ∧ m2 ≤ 64 := by rw [hm2]; exact mul64 (by omega) (by omega)
          have n3 : 0 ≤ m3 ∧ m3 ≤ 64 := by rw [hm3]; exact mul64 (by omega) (by omega)
          have n4 : 0 ≤ m4 ∧ m4 ≤ 64 := by rw [hm4]; exact mul64 (by omega) (by omega)
          obtain ⟨p1, hp1⟩ : ∃ m, m = m1 * atS s W H X Y := ⟨_, rfl⟩
          have r1 : 0 ≤ p1 ∧ p1 ≤ 16320 := by rw [hp1]; exact mul16320 n1 b1
          have z1 : IntKind.i64.wrap (m1 * atS s W H X Y) = p1 := by rw [← hp1]; exact wr_in (by omega)
          have t1 : IntKind.i64.wrap ((8 - (qx : Int)) * (8 - (qy : Int))) = m1 := by rw [← hm1]; exact wr_in (by omega)
          obtain ⟨p2, hp2⟩ : ∃ m, m = m2 * atS s W H (X + 1) Y := ⟨_, rfl⟩
          have r2 : 0 ≤ p2 ∧ p2 ≤ 16320 := by rw [hp2]; exact mul16320 n2 b2
          have z2 : IntKind.i64.wrap (m2 * atS s W H (X + 1) Y) = p2 := by rw [← hp2]; exact wr_in (by omega)
          have t2 : IntKind.i64.wrap ((qx : Int) * (8 - (qy : Int))) = m2 := by rw [← hm2]; exact wr_in (by omega)
          obtain ⟨p3, hp3⟩ : ∃ m, m = m3 * atS s W H X (Y + 1) := ⟨_, rfl⟩
          have r3 : 0 ≤ p3 ∧ p3 ≤ 16320 := by rw [hp3]; exact mul16320 n3 b3
          have z3 : IntKind.i64.wrap (m3 * atS s W H X (Y + 1)) = p3 := by rw [← hp3]; exact wr_in (by omega)
          have t3 : IntKind.i64.wrap ((8 - (qx : Int)) * (qy : Int)) = m3 := by rw [← hm3]; exact wr_in (by omega)
          obtain ⟨p4, hp4⟩ : ∃ m, m = m4 * atS s W H (X + 1) (Y + 1) := ⟨_, rfl⟩
          have r4 : 0 ≤ p4 ∧ p4 ≤ 16320 := by rw [hp4]; exact mul16320 n4 b4
          have z4 : IntKind.i64.wrap (m4 * atS s W H (X + 1) (Y + 1)) = p4 := by rw [← hp4]; exact wr_in (by omega)
          have t4 : IntKind.i64.wrap ((qx : Int) * (qy : Int)) = m4 := by rw [← hm4]; exact wr_in (by omega)
          have HR : Hid (chrF s W H x y B k2 = (p1 + p2 + p3 + p4 + 32) / 64) := Lib.hid (by
            rw [HV.out, hp1, hp2, hp3, hp4, hm1, hm2, hm3, hm4]
            exact chr_eq _ qx qy _ _)
          have u1 : IntKind.i64.wrap (8 - (qx : Int)) = 8 - (qx : Int) := wr_in (by omega)
          have u2 : IntKind.i64.wrap (8 - (qy : Int)) = 8 - (qy : Int) := wr_in (by omega)
          have u3 : IntKind.i64.wrap (X + 1) = X + 1 := wr_in (by omega)
          have u4 : IntKind.i64.wrap (Y + 1) = Y + 1 := wr_in (by omega)
          have u5 : IntKind.i64.wrap (p1 + p2) = p1 + p2 := wr_in (by omega)
          have u6 : IntKind.i64.wrap (p1 + p2 + p3) = p1 + p2 + p3 := wr_in (by omega)
          have u7 : IntKind.i64.wrap (p1 + p2 + p3 + p4) = p1 + p2 + p3 + p4 := wr_in (by omega)
          clear hm1 hm2 hm3 hm4 hp1 hp2 hp3 hp4


          go_region_held3 (fun w' => w'.cell? ⟨w.heap.size, 0, none⟩ = some (.slice A n c) ∧ w'.cell? ⟨w.heap.size, 1, none⟩ = some (.int .i64 W) ∧ w'.cell? ⟨w.heap.size, 2, none⟩ = some (.int .i64 H) ∧ w.heap.size < w'.heap.size ∧ wr.heap.size ≤ w'.heap.size ∧ Below wr.heap.size wr w')
            (first | (refine ⟨by simp [go_sem, *], by simp [go_sem, *], by simp [go_sem, *], by simp [go_sem, *], by simp [go_sem], Below.drew (Below.refl _ _)⟩) | (go_split_ands; refine ⟨(hbh0.cell (by simp <;> omega)).trans (by assumption), (hbh0.cell (by simp <;> omega)).trans (by assumption), (hbh0.cell (by simp <;> omega)).trans (by assumption), by have := hbh0.size; omega, by have := hbh0.size; omega, Below.trans (by assumption) (hbh0.mono (by omega))⟩) | go_keep)
            (first | (go_at_call 28; go_split_ands; refine (at2 A n c s W H _ _ w _ HP.out (below_two BB.out (by assumption)) ⟨by assumption, by assumption⟩ ⟨by assumption, by assumption⟩).mono ?_; rintro e wh0 ⟨rfl, hbh0⟩))
          rename_i hh
          obtain ⟨_, _, _, _, _, hb⟩ := hh
          have HK := Lib.hid (HK.out.go hb)
          have HO := Lib.hid (own_go HO.out hb)
          have BB := Lib.hid (BB.out.trans (hb.mono hsz))
          have hs3 := hb.size
          clear hb c0 c1 c2 z1 z2 z3 z4 t1 t2 t3 t4 u1 u2 u3 u4 u5 u6 u7
          go_wp2_with (at_builtin; refine wpList_append_own _ rfl _ _ 25 rfl w.heap.size 3 i0 (.int .i64 0) 1 8 Try.underlying25 hi hz0 hz1 hz2 rfl (by decide) _ k2 _ rfl (HO.out.alloc _) ⟨wh0.heap.size, 0, none⟩ 1 1 [.int .i64 ((p1 + p2 + p3 + p4 + 32) / 64)] rfl rfl (cell_one_new _ _ _) (fun u hu => by simp at hu; subst hu; rfl) (by unfold maxLen; omega) (by omega) (by simp; omega) ?_)
          intro v' w4 hown1 hg1 _
          have hb1 : Below w.heap.size w w4 := (BB.out.alloc BB.out.size _).grown hg1 (by have := BB.out.size; simp; omega) (fun j hj => (HO.out.lt j hj).1)
          have hp1 : Bk w4 w.heap.size 52 #[.slice A n c, .int .i64 W, .int .i64 H] := (HK.out.alloc _).grown hg1 (fun q => HK.out.ne_own HO.out (by decide) q.symm)
          rw [← HR.out, ← range_snoc (fun j => Value.int .i64 (chrF s W H x y B j)) k2] at hown1
          have H1 := Lib.hid hown1
          have H2 := Lib.hid hb1
          have H3 := Lib.hid hp1
          clear hown1 hb1 hg1 hp1
          go_wp2_with fail
          go_roundw
          case rel => exact ⟨i + 1, k2 + 1, by omega, by rw [HK2.out]; rfl, by go_num, H1.out, H3.out, H2.out⟩
          case measure => simp [intOf]; omega
        · obtain rfl : B = i := by omega
          go_wp2_with fail
          go_roundw
          case rel => exact ⟨j + 1, k2, by omega, by rw [HK2.out, Nat.add_mul, Nat.one_mul], by go_num, HO.out, HK.out, BB.out⟩
          case measure => simp [intOf]; omega
    · have hkN : k = N := by rw [HKJ.out, HNN.out, show j = C by omega, Nat.mul_comm]
      subst hkN
      go_wp2_with fail
      go_ret2
      exact ⟨_, rfl, HO.out, BB.out⟩

end Go.Proofs.Ytoagihocibeidaa
