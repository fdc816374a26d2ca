/- The program's Luma. -/
import Derived.Test.YtoagihocibeidaaIntD
import Derived.Test.YtoagihocibeidaaMask
import Derived.Test.YtoagihocibeidaaMake
import Derived.Test.YtoagihocibeidaaSep
namespace Go.Proofs.Ytoagihocibeidaa
open Go.RowKit
set_option linter.unusedVariables false
set_option linter.unusedSimpArgs false
attribute [local go_sem] ite_max ite_min and_3 and_7

theorem int_info : (Try.prog.info? 3).map (fun i => (i.zero, i.size, i.bytes)) = some (some (.int .i64 0), 1, 8) := by kernel_rfl

/-- a plane over samples that were there before -/
theorem Pl.mk_ {w wr : World} {g n c : Nat} {A : Option Addr} {s : Nat → Int} {W H : Int} (hr : Rb w A n s) (h3 : (n : Int) = W * H) (h1 : 1 ≤ W ∧ W ≤ 128) (h2 : 1 ≤ H ∧ H ≤ 128) (hs : ∀ k, 0 ≤ s k ∧ s k ≤ 255)
    (hb : Below w.heap.size w wr) (hk : Bk wr g 46 #[.slice A n c, .int .i64 W, .int .i64 H]) : Pl wr g s W H :=
  ⟨A, n, c, hk, (Rd.below hr hb (Nat.le_refl _)).more hb.size, h3, h1, h2, hs⟩

/-- what such a call answers: a list and a code -/
def Gives (w : World) (m : Nat) (F : Nat → Int) (c : Int) (e : Ending) (w' : World) : Prop :=
  ∃ v, e = .returned (.tuple #[v, .int .i64 c]) ∧ w'.ownsRow w.heap.size 3 1 v m ((List.range m).map fun k => .int .i64 (F k)) ∧ Below w.heap.size w w'
theorem gives_no (w : World) (F : Nat → Int) (c : Int) (e : Ending) (w' : World) (h : e = .returned (.tuple #[.slice none 0 0, .int .i64 c]) ∧ Below w.heap.size w w') : Gives w 0 F c e w' := by
  obtain ⟨rfl, hb⟩ := h
  exact ⟨_, rfl, World.ownsRow_nil _ _ _ _, hb⟩

/-- the quarter place's number -/
def dOf (x y : Int) : Nat := (x % 4 + 4 * (y % 4)).toNat
def lumF (s : Nat → Int) (W H x y : Int) (B : Nat) (k : Nat) : Int := lumV (atS s W H) (dOf x y) (x / 4 + ((k % B : Nat) : Int)) (y / 4 + ((k / B : Nat) : Int))

theorem div_bd {B C k : Nat} (hB : 1 ≤ B ∧ B ≤ 16) (hC : 1 ≤ C ∧ C ≤ 16) (hk : k < B * C) : k % B < 16 ∧ k / B < 16 := by
  have h1 : k % B < B := Nat.mod_lt _ (by omega)
  have h2 : k / B < C := Nat.div_lt_of_lt_mul hk
  omega
theorem ka_mem (d : Nat) : kA d ∈ [71, 98, 104, 106, 109, 115, 114, 108] := by
  unfold kA
  rcases Nat.lt_or_ge d 16 with h | h
  · have : d = 0 ∨ d = 1 ∨ d = 2 ∨ d = 3 ∨ d = 4 ∨ d = 5 ∨ d = 6 ∨ d = 7 ∨ d = 8 ∨ d = 9 ∨ d = 10 ∨ d = 11 ∨ d = 12 ∨ d = 13 ∨ d = 14 ∨ d = 15 := by omega
    rcases this with rfl | rfl | rfl | rfl | rfl | rfl | rfl | rfl | rfl | rfl | rfl | rfl | rfl | rfl | rfl | rfl <;> decide
  · rw [List.getD_eq_getElem?_getD, List.getElem?_eq_none (by simpa using h)]
    decide
theorem kb_mem (d : Nat) : kB d ∈ [71, 98, 104, 106, 109, 115, 114, 108] := by
  unfold kB
  rcases Nat.lt_or_ge d 16 with h | h
  · have : d = 0 ∨ d = 1 ∨ d = 2 ∨ d = 3 ∨ d = 4 ∨ d = 5 ∨ d = 6 ∨ d = 7 ∨ d = 8 ∨ d = 9 ∨ d = 10 ∨ d = 11 ∨ d = 12 ∨ d = 13 ∨ d = 14 ∨ d = 15 := by omega
    rcases this with rfl | rfl | rfl | rfl | rfl | rfl | rfl | rfl | rfl | rfl | rfl | rfl | rfl | rfl | rfl | rfl <;> decide
  · rw [List.getD_eq_getElem?_getD, List.getElem?_eq_none (by simpa using h)]
    decide

theorem kinds_xy (a b d : Nat) (ha : a < 4) (hb : b < 4) (hd : d = a + 4 * b) (w : World) : Calls Try.prog 23 #[.int .i64 a, .int .i64 b] w fun e w' => e = .returned (.tuple #[.int .i64 (kA d), .int .i64 (kB d)]) ∧ Below w.heap.size w w' := by
  have := kinds_any d (by omega) w
  rw [show d % 4 = a by omega, show d / 4 = b by omega] at this
  exact this

set_option maxRecDepth 100000 in
set_option maxHeartbeats 3200000 in
theorem luma_yes (A : Option Addr) (n c : Nat) (s : Nat → Int) (W H x y : Int) (B C : Nat) (w : World) (hr : Rb w A n s) (hs : ∀ k, 0 ≤ s k ∧ s k ≤ 255) (hf : fairB n W H x y B C = true) :
    Calls Try.prog 11 #[.slice A n c, .int .i64 W, .int .i64 H, .int .i64 x, .int .i64 y, .int .i64 B, .int .i64 C] w (Gives w (B * C) (lumF s W H x y B) 0) := by
  obtain ⟨i0, hi, hz0, hz1, hz2⟩ := info_parts int_info
  have hm := may_yes A n c W H x y B C
  have hf' := hf
  unfold fairB at hf'
  rw [decide_eq_true_iff] at hf'
  obtain ⟨h1, h2, h3, h4, h5, h6, h7⟩ := hf'
  obtain ⟨N, hN⟩ : ∃ N, N = B * C := ⟨_, rfl⟩
  have hNb : N ≤ 256 := by rw [hN]; exact Nat.le_trans (Nat.mul_le_mul (show B ≤ 16 by omega) (show C ≤ 16 by omega)) (by omega)
  have hmk := run_make_cap (P := Try.prog) 25 3 i0 (.int .i64 0) Try.underlying25 hi hz0 hz1 rfl N (by rw [hz2]; omega) (by omega)
  have E1 := Lib.hid (show wrap64 ((B : Int) * (C : Int)) = (N : Int) by rw [← Int.natCast_mul, ← hN]; unfold wrap64; omega)
  have HMK := Lib.hid hmk
  clear hmk
  obtain ⟨d, hd⟩ : ∃ d, d = dOf x y := ⟨_, rfl⟩
  obtain ⟨qx, e2, qx1⟩ : ∃ q : Nat, x % 4 = (q : Int) ∧ q < 4 := ⟨(x % 4).toNat, by omega, by omega⟩
  obtain ⟨qy, e3, qy1⟩ : ∃ q : Nat, y % 4 = (q : Int) ∧ q < 4 := ⟨(y % 4).toNat, by omega, by omega⟩
  have hd0 : d = qx + 4 * qy := by unfold dOf at hd; omega
  have HD0 := Lib.hid hd0
  clear hd0
  have HM := Lib.hid (hm w hf)
  have PM := Lib.hid (fun wr => Pl.mk_ (wr := wr) (g := w.heap.size) (c := c) hr h3 h1 h2 hs)
  rw [← hN]
  have HNN := Lib.hid hN
  have HD := Lib.hid hd
  have HF := Lib.hid (show ∀ k, lumF s W H x y B k = lumV (atS s W H) d (x / 4 + ((k % B : Nat) : Int)) (y / 4 + ((k / B : Nat) : Int)) from fun k => by rw [hd]; rfl)
  clear hr hm hf hN hd hs h3
  have e1 := E1.out
  have hmk := HMK.out
  go_enter Try.func11, Try.ntmps11
  go_wp2_with fail
  refine HM.out.mono ?_
  rintro e w' ⟨rfl, rfl⟩
  go_wp2_with fail
  refine (kinds_xy qx qy d qx1 qy1 HD0.out _).mono ?_
  rintro e w2 ⟨rfl, hb⟩
  have BB := Lib.hid (((Below.refl w.heap.size w).alloc (Nat.le_refl _) _).trans (hb.mono (by simp)))
  have HK : Hid (Bk w2 w.heap.size 46 #[.slice A n c, .int .i64 W, .int .i64 H]) := Lib.hid ((Bk.new _ _ _).go hb)
  clear hb e2 e3
  go_wp2_with fail
  clear hmk
  rw [e1]
  clear e1
  have hs2 := BB.out.size
  go_loopw [20, 56] (fun v t wr => ∃ k : Nat, k ≤ N ∧ t = .int .i64 k ∧ wr.ownsRow w.heap.size 3 1 v k ((List.range k).map fun j => .int .i64 (lumF s W H x y B j)) ∧ Bk wr w.heap.size 46 #[.slice A n c, .int .i64 W, .int .i64 H] ∧ Below w.heap.size w wr) (fun _ t _ => N - (intOf t).toNat)
  case atStart =>
    refine ⟨0, Nat.zero_le _, rfl, ?_, HK.out.alloc _, BB.out.alloc BB.out.size _⟩
    exact World.ownsRow_made w2 (Array.replicate N (.int .i64 0)) N BB.out.size (by unfold maxLen; omega) (by simp)
  case round =>
    clear HK BB HM
    obtain ⟨k, hk, rfl, hown, hp, hbl⟩ := hrel
    have hsz := hbl.size
    have HO := Lib.hid hown
    have HK := Lib.hid hp
    have hp := PM.out _ hbl hp
    have HP := Lib.hid hp
    have BB := Lib.hid hbl
    have hv := fun a b => hp.val a b
    clear hown hp hbl
    by_cases hlt : k < N
    · have hdv := div_bd (B := B) (C := C) (k := k) (by omega) (by omega) (by rw [← HNN.out]; exact hlt)
      obtain ⟨r, hrr⟩ : ∃ r, r = k % B := ⟨_, rfl⟩
      obtain ⟨q, hqq⟩ : ∃ q, q = k / B := ⟨_, rfl⟩
      rw [← hrr, ← hqq] at hdv
      have t1 : (k : Int).tmod (B : Int) = (r : Int) := by rw [hrr, Int.natCast_emod, Int.tmod_eq_emod_of_nonneg (by omega)]
      have t2 : (k : Int).tdiv (B : Int) = (q : Int) := by rw [hqq, Int.natCast_ediv, Int.tdiv_eq_ediv_of_nonneg (by omega)]
      have t3 : (k : Int) % (B : Int) = (r : Int) := by rw [hrr, Int.natCast_emod]
      have t4 : (k : Int) / (B : Int) = (q : Int) := by rw [hqq, Int.natCast_ediv]
      have b0 : ((B : Int) == 0) = false := by simp; omega
      have b1 : ¬ B = 0 := by omega
      have v1 := kd_bd (A := atS s W H) hv (kA d) (x / 4 + r) (y / 4 + q)
      have v2 := kd_bd (A := atS s W H) hv (kB d) (x / 4 + r) (y / 4 + q)
      have HV := Lib.hid (HF.out k)
      rw [← hrr, ← hqq] at HV
      clear hrr hqq hv
      go_wp2_with fail
      go_quiet (fail)
      go_wp2_with fail
      refine (half_any w.heap.size s W H _ _ _ (HP.out.go (Below.drewN' (Below.refl _ _) _)) (by omega) (by omega) (kA d) (ka_mem d)).mono ?_
      rintro e w3 ⟨rfl, hb⟩
      have hb : Below wr.heap.size wr w3 := (Below.drewN' (Below.refl _ _) _).trans hb
      have HP := Lib.hid (HP.out.go hb)
      have HO := Lib.hid (own_go HO.out hb)
      have HK := Lib.hid (HK.out.go hb)
      have BB := Lib.hid (BB.out.trans (hb.mono hsz))
      have hs3 := hb.size
      clear hb t1 t2 t3 t4 b0 b1
      obtain ⟨va, hva⟩ : ∃ v, v = kd (atS s W H) (kA d) (x / 4 + r) (y / 4 + q) := ⟨_, rfl⟩
      rw [← hva] at v1 ⊢
      by_cases hab : kB d = kA d
      · have z1 : ((kB d : Int) != (kA d : Int)) = false := by rw [hab]; simp
        have HR : Hid (lumF s W H x y B k = va) := Lib.hid (by rw [HV.out]; unfold lumV; rw [if_pos hab, hva])
        clear hva hab v2
        go_wp2_with (at_builtin; refine wpList_append_own _ rfl _ _ 25 rfl w.heap.size 3 i0 (.int .i64 0) 1 8 Try.underlying25 hi hz0 hz1 hz2 rfl (by decide) _ k _ rfl (HO.out.alloc _) ⟨w3.heap.size, 0, none⟩ 1 1 [.int .i64 va] rfl rfl (cell_one_new _ _ _) (fun u hu => by simp at hu; subst hu; rfl) (by unfold maxLen; omega) (by omega) (by simp; omega) ?_)
        intro v' w4 hown1 hg1 _
        have hb1 : Below w.heap.size w w4 := (BB.out.alloc BB.out.size _).grown hg1 (by have := BB.out.size; simp; omega) (fun j hj => (HO.out.lt j hj).1)
        have hp1 : Bk w4 w.heap.size 46 #[.slice A n c, .int .i64 W, .int .i64 H] := (HK.out.alloc _).grown hg1 (fun q => HK.out.ne_own HO.out (by decide) q.symm)
        rw [← HR.out, ← range_snoc (fun j => Value.int .i64 (lumF s W H x y B j)) k] at hown1
        have H1 := Lib.hid hown1
        have H2 := Lib.hid hb1
        have H3 := Lib.hid hp1
        clear hown1 hb1 hg1 hp1
        go_wp2_with fail
        go_roundw
        case rel => exact ⟨k + 1, by omega, by go_num, H1.out, H3.out, H2.out⟩
        case measure => simp [intOf]; omega
      · have z1 : ((kB d : Int) != (kA d : Int)) = true := by simp; omega
        have HR : Hid (lumF s W H x y B k = (va + kd (atS s W H) (kB d) (x / 4 + r) (y / 4 + q) + 1) / 2) := Lib.hid (by rw [HV.out]; unfold lumV; rw [if_neg hab, hva])
        clear hva hab
        go_wp2_with fail
        refine (half_any w.heap.size s W H _ _ _ HP.out (by omega) (by omega) (kB d) (kb_mem d)).mono ?_
        rintro e w3' ⟨rfl, hb⟩
        have HP := Lib.hid (HP.out.go hb)
        have HO := Lib.hid (own_go HO.out hb)
        have HK := Lib.hid (HK.out.go hb)
        have BB := Lib.hid (BB.out.trans (hb.mono (by omega)))
        have hs4 := hb.size
        clear hb
        obtain ⟨vb, hvb⟩ : ∃ v, v = kd (atS s W H) (kB d) (x / 4 + r) (y / 4 + q) := ⟨_, rfl⟩
        rw [← hvb] at v2 HR ⊢
        clear hvb
        go_wp2_with (at_builtin; refine wpList_append_own _ rfl _ _ 25 rfl w.heap.size 3 i0 (.int .i64 0) 1 8 Try.underlying25 hi hz0 hz1 hz2 rfl (by decide) _ k _ rfl (HO.out.alloc _) ⟨w3'.heap.size, 0, none⟩ 1 1 [.int .i64 ((va + vb + 1) / 2)] rfl rfl (cell_one_new _ _ _) (fun u hu => by simp at hu; subst hu; rfl) (by unfold maxLen; omega) (by omega) (by simp; omega) ?_)
        intro v' w4 hown1 hg1 _
        have hb1 : Below w.heap.size w w4 := (BB.out.alloc BB.out.size _).grown hg1 (by have := BB.out.size; simp; omega) (fun j hj => (HO.out.lt j hj).1)
        have hp1 : Bk w4 w.heap.size 46 #[.slice A n c, .int .i64 W, .int .i64 H] := (HK.out.alloc _).grown hg1 (fun q => HK.out.ne_own HO.out (by decide) q.symm)
        rw [← HR.out, ← range_snoc (fun j => Value.int .i64 (lumF s W H x y B j)) k] at hown1
        have H1 := Lib.hid hown1
        have H2 := Lib.hid hb1
        have H3 := Lib.hid hp1
        clear hown1 hb1 hg1 hp1
        go_wp2_with fail
        go_roundw
        case rel => exact ⟨k + 1, by omega, by go_num, H1.out, H3.out, H2.out⟩
        case measure => simp [intOf]; omega
    · obtain rfl : k = N := by omega
      go_wp2_with fail
      go_ret2
      exact ⟨_, rfl, HO.out, BB.out⟩

end Go.Proofs.Ytoagihocibeidaa
