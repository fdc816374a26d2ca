/- The program's Chroma; Luma and Chroma of whatever comes. -/
import Derived.Test.YtoagihocibeidaaIntE
namespace Go.Proofs.Ytoagihocibeidaa
open Go.RowKit
set_option linter.unusedVariables false
set_option linter.unusedSimpArgs false
attribute [local go_sem] ite_max ite_min and_3 and_7

def chrF (s : Nat → Int) (W H x y : Int) (B : Nat) (k : Nat) : Int := chrV (atS s W H) (x % 8) (y % 8) (x / 8 + ((k % B : Nat) : Int)) (y / 8 + ((k / B : Nat) : Int))

theorem chr_bd {A : Int → Int → Int} (hA : ∀ x y, 0 ≤ A x y ∧ A x y ≤ 255) (dx dy : Int) (hx : 0 ≤ dx ∧ dx ≤ 7) (hy : 0 ≤ dy ∧ dy ≤ 7) (x y : Int) : 0 ≤ chrV A dx dy x y ∧ chrV A dx dy x y ≤ 255 := by
  unfold chrV
  have h1 := hA x y
  have h2 := hA (x + 1) y
  have h3 := hA x (y + 1)
  have h4 := hA (x + 1) (y + 1)
  generalize A x y = a at *
  generalize A (x + 1) y = b at *
  generalize A x (y + 1) = c at *
  generalize A (x + 1) (y + 1) = d at *
  have e1 : 0 ≤ (8 - dx) * a + dx * b ∧ (8 - dx) * a + dx * b ≤ 2040 := by
    have : dx = 0 ∨ dx = 1 ∨ dx = 2 ∨ dx = 3 ∨ dx = 4 ∨ dx = 5 ∨ dx = 6 ∨ dx = 7 := by omega
    rcases this with rfl | rfl | rfl | rfl | rfl | rfl | rfl | rfl <;> omega
  have e2 : 0 ≤ (8 - dx) * c + dx * d ∧ (8 - dx) * c + dx * d ≤ 2040 := by
    have : dx = 0 ∨ dx = 1 ∨ dx = 2 ∨ dx = 3 ∨ dx = 4 ∨ dx = 5 ∨ dx = 6 ∨ dx = 7 := by omega
    rcases this with rfl | rfl | rfl | rfl | rfl | rfl | rfl | rfl <;> omega
  generalize (8 - dx) * a + dx * b = u at *
  generalize (8 - dx) * c + dx * d = v at *
  have : dy = 0 ∨ dy = 1 ∨ dy = 2 ∨ dy = 3 ∨ dy = 4 ∨ dy = 5 ∨ dy = 6 ∨ dy = 7 := by omega
  rcases this with rfl | rfl | rfl | rfl | rfl | rfl | rfl | rfl <;> omega

set_option maxRecDepth 100000 in
set_option maxHeartbeats 3200000 in
theorem chroma_yes (A : Option Addr) (n c : Nat) (s : Nat → Int) (W H x y : Int) (B C : Nat) (w : World) (hr : Rb w A n s) (hs : ∀ k, 0 ≤ s k ∧ s k ≤ 255) (hf : fairB n W H x y B C = true) :
    Calls Try.prog 13 #[.slice A n c, .int .i64 W, .int .i64 H, .int .i64 x, .int .i64 y, .int .i64 B, .int .i64 C] w (Gives w (B * C) (chrF s W H x y B) 0) := by
  obtain ⟨i0, hi, hz0, hz1, hz2⟩ := info_parts int_info
  have hm := may_yes A n c W H x y B C
  have hf' := hf
  unfold fairB at hf'
  rw [decide_eq_true_iff] at hf'
  obtain ⟨h1, h2, h3, h4, h5, h6, h7⟩ := hf'
  obtain ⟨N, hN⟩ : ∃ N, N = B * C := ⟨_, rfl⟩
  have hNb : N ≤ 256 := by rw [hN]; exact Nat.le_trans (Nat.mul_le_mul (show B ≤ 16 by omega) (show C ≤ 16 by omega)) (by omega)
  have hmk := run_make_cap (P := Try.prog) 25 3 i0 (.int .i64 0) Try.underlying25 hi hz0 hz1 rfl N (by rw [hz2]; omega) (by omega)
  have E1 := Lib.hid (show wrap64 ((B : Int) * (C : Int)) = (N : Int) by rw [← Int.natCast_mul, ← hN]; unfold wrap64; omega)
  have HMK := Lib.hid hmk
  clear hmk
  obtain ⟨qx, e2, qx1⟩ : ∃ q : Nat, x % 8 = (q : Int) ∧ q < 8 := ⟨(x % 8).toNat, by omega, by omega⟩
  obtain ⟨qy, e3, qy1⟩ : ∃ q : Nat, y % 8 = (q : Int) ∧ q < 8 := ⟨(y % 8).toNat, by omega, by omega⟩
  have HM := Lib.hid (hm w hf)
  have PM := Lib.hid (fun wr => Pl.mk_ (wr := wr) (g := w.heap.size) (c := c) hr h3 h1 h2 hs)
  rw [← hN]
  have HNN := Lib.hid hN
  have HF := Lib.hid (show ∀ k, chrF s W H x y B k = chrV (atS s W H) qx qy (x / 8 + ((k % B : Nat) : Int)) (y / 8 + ((k / B : Nat) : Int)) from fun k => by rw [← e2, ← e3]; rfl)
  clear hr hm hf hN hs h3
  have e1 := E1.out
  have hmk := HMK.out
  go_enter Try.func13, Try.ntmps13
  go_wp2_with fail
  refine HM.out.mono ?_
  rintro e w' ⟨rfl, rfl⟩
  go_wp2_with fail
  clear hmk
  rw [e1]
  have BB := Lib.hid ((Below.refl w.heap.size w).alloc (Nat.le_refl _) (.cells #[.slice A n c, .int .i64 W, .int .i64 H] 46))
  have HK := Lib.hid (Bk.new w 46 #[.slice A n c, .int .i64 W, .int .i64 H])
  clear e1
  go_loopw [20, 53] (fun v t wr => ∃ k : Nat, k ≤ N ∧ t = .int .i64 k ∧ wr.ownsRow w.heap.size 3 1 v k ((List.range k).map fun j => .int .i64 (chrF s W H x y B j)) ∧ Bk wr w.heap.size 46 #[.slice A n c, .int .i64 W, .int .i64 H] ∧ Below w.heap.size w wr) (fun _ t _ => N - (intOf t).toNat)
  case atStart =>
    refine ⟨0, Nat.zero_le _, rfl, ?_, HK.out.alloc _, BB.out.alloc BB.out.size _⟩
    simpa using World.ownsRow_made (base := w.heap.size) (e := 3) (size := 1) (w.alloc (.cells #[.slice A n c, .int .i64 W, .int .i64 H] 46)) (Array.replicate N (.int .i64 0)) N (by simp) (by unfold maxLen; omega) (by simp)
  case round =>
    clear HK BB HM
    obtain ⟨k, hk, rfl, hown, hp, hbl⟩ := hrel
    have hsz := hbl.size
    have HO := Lib.hid hown
    have HK := Lib.hid hp
    have hp := PM.out _ hbl hp
    have HP := Lib.hid hp
    have BB := Lib.hid hbl
    have hv := fun a b => hp.val a b
    clear hown hp hbl
    by_cases hlt : k < N
    · have hdv := div_bd (B := B) (C := C) (k := k) (by omega) (by omega) (by rw [← HNN.out]; exact hlt)
      obtain ⟨r, hrr⟩ : ∃ r, r = k % B := ⟨_, rfl⟩
      obtain ⟨q, hqq⟩ : ∃ q, q = k / B := ⟨_, rfl⟩
      rw [← hrr, ← hqq] at hdv
      have t1 : (k : Int).tmod (B : Int) = (r : Int) := by rw [hrr, Int.natCast_emod, Int.tmod_eq_emod_of_nonneg (by omega)]
      have t2 : (k : Int).tdiv (B : Int) = (q : Int) := by rw [hqq, Int.natCast_ediv, Int.tdiv_eq_ediv_of_nonneg (by omega)]
      have t3 : (k : Int) % (B : Int) = (r : Int) := by rw [hrr, Int.natCast_emod]
      have t4 : (k : Int) / (B : Int) = (q : Int) := by rw [hqq, Int.natCast_ediv]
      have b0 : ((B : Int) == 0) = false := by simp; omega
      have b1 : ¬ B = 0 := by omega
      have v1 := hv (x / 8 + r) (y / 8 + q)
      have v2 := hv (x / 8 + r + 1) (y / 8 + q)
      have v3 := hv (x / 8 + r) (y / 8 + q + 1)
      have v4 := hv (x / 8 + r + 1) (y / 8 + q + 1)
      have v5 := chr_bd (A := atS s W H) hv qx qy (by omega) (by omega) (x / 8 + r) (y / 8 + q)
      have HV := Lib.hid (HF.out k)
      rw [← hrr, ← hqq] at HV
      clear hrr hqq hv
      go_wp2_with fail
      go_quiet (fail)
      go_wp2_with fail
      have hw0 : Below wr.heap.size wr (wr.drewN nq) := Below.drewN' (Below.refl _ _) _
      have HP := Lib.hid (HP.out.go hw0)
      have HO := Lib.hid (own_go HO.out hw0)
      have HK := Lib.hid (HK.out.go hw0)
      have BB := Lib.hid (BB.out.trans (hw0.mono hsz))
      clear hw0
      refine (at1 w.heap.size s W H _ _ _ HP.out (by omega) (by omega)).mono ?_
      rintro e w1 ⟨rfl, hb⟩
      have HP := Lib.hid (HP.out.go hb)
      have HO := Lib.hid (own_go HO.out hb)
      have HK := Lib.hid (HK.out.go hb)
      have BB := Lib.hid (BB.out.trans (hb.mono BB.out.size))
      clear hb
      obtain ⟨a1, ha1⟩ : ∃ v, v = atS s W H (x / 8 + r) (y / 8 + q) := ⟨_, rfl⟩
      rw [← ha1] at v1 ⊢
      have HA1 := Lib.hid ha1
      clear ha1
      obtain ⟨p1, hp1⟩ : ∃ v, v = (8 - (qx : Int)) * a1 := ⟨_, rfl⟩
      have hq1 : 0 ≤ p1 ∧ p1 ≤ 2040 := by rw [hp1]; have := prod_le (a := (8 - (qx : Int))) (b := a1) (A := 8) (B := 255) (by omega) (by omega) (by omega) (by omega); exact ⟨this.1, Int.le_trans this.2 (by decide)⟩
      have he1 : wrap64 ((8 - (qx : Int)) * a1) = p1 := by rw [← hp1]; unfold wrap64; omega
      have HX1 := Lib.hid hp1
      clear hp1
      go_wp2_with fail
      refine (at1 w.heap.size s W H _ _ _ HP.out (by omega) (by omega)).mono ?_
      rintro e w2 ⟨rfl, hb⟩
      have HP := Lib.hid (HP.out.go hb)
      have HO := Lib.hid (own_go HO.out hb)
      have HK := Lib.hid (HK.out.go hb)
      have BB := Lib.hid (BB.out.trans (hb.mono BB.out.size))
      clear hb
      obtain ⟨a2, ha2⟩ : ∃ v, v = atS s W H (x / 8 + r + 1) (y / 8 + q) := ⟨_, rfl⟩
      rw [← ha2] at v2 ⊢
      have HA2 := Lib.hid ha2
      clear ha2
      obtain ⟨p2, hp2⟩ : ∃ v, v = (qx : Int) * a2 := ⟨_, rfl⟩
      have hq2 : 0 ≤ p2 ∧ p2 ≤ 2040 := by rw [hp2]; have := prod_le (a := (qx : Int)) (b := a2) (A := 8) (B := 255) (by omega) (by omega) (by omega) (by omega); exact ⟨this.1, Int.le_trans this.2 (by decide)⟩
      have he2 : wrap64 ((qx : Int) * a2) = p2 := by rw [← hp2]; unfold wrap64; omega
      have HX2 := Lib.hid hp2
      clear hp2
      go_wp2_with fail
      refine (at1 w.heap.size s W H _ _ _ HP.out (by omega) (by omega)).mono ?_
      rintro e w3 ⟨rfl, hb⟩
      have HP := Lib.hid (HP.out.go hb)
      have HO := Lib.hid (own_go HO.out hb)
      have HK := Lib.hid (HK.out.go hb)
      have BB := Lib.hid (BB.out.trans (hb.mono BB.out.size))
      clear hb
      obtain ⟨a3, ha3⟩ : ∃ v, v = atS s W H (x / 8 + r) (y / 8 + q + 1) := ⟨_, rfl⟩
      rw [← ha3] at v3 ⊢
      have HA3 := Lib.hid ha3
      clear ha3
      obtain ⟨p3, hp3⟩ : ∃ v, v = (8 - (qx : Int)) * a3 := ⟨_, rfl⟩
      have hq3 : 0 ≤ p3 ∧ p3 ≤ 2040 := by rw [hp3]; have := prod_le (a := (8 - (qx : Int))) (b := a3) (A := 8) (B := 255) (by omega) (by omega) (by omega) (by omega); exact ⟨this.1, Int.le_trans this.2 (by decide)⟩
      have he3 : wrap64 ((8 - (qx : Int)) * a3) = p3 := by rw [← hp3]; unfold wrap64; omega
      have HX3 := Lib.hid hp3
      clear hp3
      go_wp2_with fail
      refine (at1 w.heap.size s W H _ _ _ HP.out (by omega) (by omega)).mono ?_
      rintro e w4 ⟨rfl, hb⟩
      have HP := Lib.hid (HP.out.go hb)
      have HO := Lib.hid (own_go HO.out hb)
      have HK := Lib.hid (HK.out.go hb)
      have BB := Lib.hid (BB.out.trans (hb.mono BB.out.size))
      clear hb
      obtain ⟨a4, ha4⟩ : ∃ v, v = atS s W H (x / 8 + r + 1) (y / 8 + q + 1) := ⟨_, rfl⟩
      rw [← ha4] at v4 ⊢
      have HA4 := Lib.hid ha4
      clear ha4
      obtain ⟨p4, hp4⟩ : ∃ v, v = (qx : Int) * a4 := ⟨_, rfl⟩
      have hq4 : 0 ≤ p4 ∧ p4 ≤ 2040 := by rw [hp4]; have := prod_le (a := (qx : Int)) (b := a4) (A := 8) (B := 255) (by omega) (by omega) (by omega) (by omega); exact ⟨this.1, Int.le_trans this.2 (by decide)⟩
      have he4 : wrap64 ((qx : Int) * a4) = p4 := by rw [← hp4]; unfold wrap64; omega
      have HX4 := Lib.hid hp4
      clear hp4
      skip
      obtain ⟨p5, hp5⟩ : ∃ v, v = (8 - (qy : Int)) * (p1 + p2) := ⟨_, rfl⟩
      have hq5 : 0 ≤ p5 ∧ p5 ≤ 32640 := by rw [hp5]; have := prod_le (a := 8 - (qy : Int)) (b := p1 + p2) (A := 8) (B := 4080) (by omega) (by omega) (by omega) (by omega); exact ⟨this.1, Int.le_trans this.2 (by decide)⟩
      have he5 : wrap64 ((8 - (qy : Int)) * (p1 + p2)) = p5 := by rw [← hp5]; unfold wrap64; omega
      have HX5 := Lib.hid hp5
      clear hp5
      obtain ⟨p6, hp6⟩ : ∃ v, v = (qy : Int) * (p3 + p4) := ⟨_, rfl⟩
      have hq6 : 0 ≤ p6 ∧ p6 ≤ 32640 := by rw [hp6]; have := prod_le (a := (qy : Int)) (b := p3 + p4) (A := 8) (B := 4080) (by omega) (by omega) (by omega) (by omega); exact ⟨this.1, Int.le_trans this.2 (by decide)⟩
      have he6 : wrap64 ((qy : Int) * (p3 + p4)) = p6 := by rw [← hp6]; unfold wrap64; omega
      have HX6 := Lib.hid hp6
      clear hp6
      have HR : Hid (chrF s W H x y B k = (p5 + p6 + 32) / 64) := Lib.hid (by rw [HV.out]; unfold chrV; rw [HX5.out, HX6.out, HX1.out, HX2.out, HX3.out, HX4.out, HA1.out, HA2.out, HA3.out, HA4.out])
      clear v5 t1 t2 t3 t4 b0 b1
      go_wp2_with (at_builtin; refine wpList_append_own _ rfl _ _ 25 rfl w.heap.size 3 i0 (.int .i64 0) 1 8 Try.underlying25 hi hz0 hz1 hz2 rfl (by decide) _ k _ rfl (HO.out.alloc _) ⟨w4.heap.size, 0, none⟩ 1 1 [.int .i64 ((p5 + p6 + 32) / 64)] rfl rfl (cell_one_new _ _ _) (fun u hu => by simp at hu; subst hu; rfl) (by unfold maxLen; omega) (by omega) (by have := BB.out.size; simp; omega) ?_)
      intro v' w5 hown1 hg1 _
      have hb1 : Below w.heap.size w w5 := (BB.out.alloc BB.out.size _).grown hg1 (by have := BB.out.size; simp; omega) (fun j hj => (HO.out.lt j hj).1)
      have hp1 : Bk w5 w.heap.size 46 #[.slice A n c, .int .i64 W, .int .i64 H] := (HK.out.alloc _).grown hg1 (fun q => HK.out.ne_own HO.out (by decide) q.symm)
      rw [← HR.out, ← range_snoc (fun j => Value.int .i64 (chrF s W H x y B j)) k] at hown1
      have H1 := Lib.hid hown1
      have H2 := Lib.hid hb1
      have H3 := Lib.hid hp1
      clear hown1 hb1 hg1 hp1
      go_wp2_with fail
      go_roundw
      case rel => exact ⟨k + 1, by omega, by go_num, H1.out, H3.out, H2.out⟩
      case measure => simp [intOf]; omega
    · obtain rfl : k = N := by omega
      go_wp2_with fail
      go_ret2
      exact ⟨_, rfl, HO.out, BB.out⟩

set_option maxHeartbeats 1600000 in
theorem luma_no (A : Option Addr) (n c : Nat) (W H x y bw bh : Int) (w : World) (hf : fairB n W H x y bw bh = false) (hx : -9223372036854775808 ≤ x ∧ x ≤ 9223372036854775807) (hy : -9223372036854775808 ≤ y ∧ y ≤ 9223372036854775807) :
    Calls Try.prog 11 #[.slice A n c, .int .i64 W, .int .i64 H, .int .i64 x, .int .i64 y, .int .i64 bw, .int .i64 bh] w (Gives w 0 (fun _ => 0) 1200) := by
  refine Calls.mono (R := fun e w' => e = .returned (.tuple #[.slice none 0 0, .int .i64 1200]) ∧ w = w') ?_ (fun e w' q => gives_no w _ _ e w' ⟨q.1, q.2 ▸ Below.refl _ _⟩)
  have HM := Lib.hid (may_no A n c W H x y bw bh w hf hx hy)
  clear hf hx hy
  go_enter Try.func11, Try.ntmps11
  go_wp2_with fail
  refine HM.out.mono ?_
  rintro e w' ⟨rfl, rfl⟩
  go_wp2_with fail
  go_ret2
  exact ⟨rfl, rfl⟩
set_option maxHeartbeats 1600000 in
theorem chroma_no (A : Option Addr) (n c : Nat) (W H x y bw bh : Int) (w : World) (hf : fairB n W H x y bw bh = false) (hx : -9223372036854775808 ≤ x ∧ x ≤ 9223372036854775807) (hy : -9223372036854775808 ≤ y ∧ y ≤ 9223372036854775807) :
    Calls Try.prog 13 #[.slice A n c, .int .i64 W, .int .i64 H, .int .i64 x, .int .i64 y, .int .i64 bw, .int .i64 bh] w (Gives w 0 (fun _ => 0) 1200) := by
  refine Calls.mono (R := fun e w' => e = .returned (.tuple #[.slice none 0 0, .int .i64 1200]) ∧ w = w') ?_ (fun e w' q => gives_no w _ _ e w' ⟨q.1, q.2 ▸ Below.refl _ _⟩)
  have HM := Lib.hid (may_no A n c W H x y bw bh w hf hx hy)
  clear hf hx hy
  go_enter Try.func13, Try.ntmps13
  go_wp2_with fail
  refine HM.out.mono ?_
  rintro e w' ⟨rfl, rfl⟩
  go_wp2_with fail
  go_ret2
  exact ⟨rfl, rfl⟩

end Go.Proofs.Ytoagihocibeidaa
