/- The document's quarter. -/
import Derived.Test.YtoagihocibeidaaIntG
namespace Go.Proofs.Ytoagihocibeidaa
open Go.RowKit
set_option linter.unusedVariables false
set_option linter.unusedSimpArgs false
attribute [local go_sem] ite_max ite_min

theorem ret_i {a b : Int} (h : a = b) : Ending.returned (.int .i64 a) = .returned (.int .i64 b) := by rw [h]

set_option maxRecDepth 100000 in
set_option maxHeartbeats 8000000 in
theorem quarter2 (A : Option Addr) (n c : Nat) (s : Nat → Int) (W H x y : Int) (d : Int) (w0 w : World) (hp : Pv w0 A n s W H) (hb0 : Below w0.heap.size w0 w) (hx : -7000 ≤ x ∧ x ≤ 7000) (hy : -7000 ≤ y ∧ y ≤ 7000) (hd : 0 ≤ d ∧ d ≤ 15) :
    Calls Try.prog 26 #[.agg #[.slice A n c, .int .i64 W, .int .i64 H], .int .i64 x, .int .i64 y, .int .i64 d] w fun e w' => e = .returned (.int .i64 (lumV (atS s W H) d.toNat x y)) ∧ Below w.heap.size w w' := by
  have HP := Lib.hid hp
  have HB := Lib.hid hb0
  have hv := hp.val
  have va := acr_bd (A := atS s W H) hv x y
  have vd := dwn_bd (A := atS s W H) hv x y
  have v0 := hv x y
  have HV := Lib.hid hv
  have hc : d = 0 ∨ d = 1 ∨ d = 2 ∨ d = 3 ∨ d = 4 ∨ d = 5 ∨ d = 6 ∨ d = 7 ∨ d = 8 ∨ d = 9 ∨ d = 10 ∨ d = 11 ∨ d = 12 ∨ d = 13 ∨ d = 14 ∨ d = 15 := by omega
  have HC := Lib.hid hc
  clear hp hb0 hv hc
  have x9 : -9000 ≤ x ∧ x ≤ 9000 := by omega
  have y9 : -9000 ≤ y ∧ y ≤ 9000 := by omega
  go_enter Try.func26, Try.ntmps26
  go_wp2_with fail
  refine (at2 A n c s W H _ _ w0 _ HP.out (HB.out.trans ((Below.alloc (Below.refl _ _) (Nat.le_refl _) _).mono HB.out.size)) (by omega) (by omega)).mono ?_
  rintro e w1 ⟨rfl, hb⟩
  have g0 : w1.cell? ⟨w.heap.size, 0, none⟩ = _ := ((Bk.new w 52 #[.slice A n c, .int .i64 W, .int .i64 H]).go hb).cell 0
  have g1 : w1.cell? ⟨w.heap.size, 1, none⟩ = _ := ((Bk.new w 52 #[.slice A n c, .int .i64 W, .int .i64 H]).go hb).cell 1
  have g2 : w1.cell? ⟨w.heap.size, 2, none⟩ = _ := ((Bk.new w 52 #[.slice A n c, .int .i64 W, .int .i64 H]).go hb).cell 2
  have g3 : w.heap.size < w1.heap.size := by have := hb.size; simp at this; omega
  have hb1 : Below w.heap.size w w1 := (Below.alloc (Below.refl _ _) (Nat.le_refl _) _).trans (hb.mono (by simp))
  simp at g0 g1 g2
  clear hb
  go_wp2_with fail
  go_region_held3 (fun w' => w'.cell? ⟨w.heap.size, 0, none⟩ = some (.slice A n c) ∧ w'.cell? ⟨w.heap.size, 1, none⟩ = some (.int .i64 W) ∧ w'.cell? ⟨w.heap.size, 2, none⟩ = some (.int .i64 H) ∧ w.heap.size < w'.heap.size ∧ w.heap.size ≤ w'.heap.size ∧ Below w.heap.size w w')
    (first | (refine ⟨by simp [go_sem, *], by simp [go_sem, *], by simp [go_sem, *], by simp [go_sem] <;> omega, by simp [go_sem] <;> omega, (by repeat (first | exact Below.refl _ _ | assumption | refine Below.alloc ?_ (by first | omega | (simp <;> omega)) _ | refine Below.drew ?_ | refine Below.setCell ?_ (by first | omega | (simp <;> omega)) _))⟩) | (go_split_ands; refine ⟨(hbh0.cell (by simp <;> omega)).trans (by assumption), (hbh0.cell (by simp <;> omega)).trans (by assumption), (hbh0.cell (by simp <;> omega)).trans (by assumption), by have := hbh0.size; omega, by have := hbh0.size; omega, Below.trans (by assumption) (hbh0.mono (by omega))⟩) | (go_split_ands; refine ⟨(hbh1.cell (by simp <;> omega)).trans (by assumption), (hbh1.cell (by simp <;> omega)).trans (by assumption), (hbh1.cell (by simp <;> omega)).trans (by assumption), by have := hbh1.size; omega, by have := hbh1.size; omega, Below.trans (by assumption) (hbh1.mono (by omega))⟩) | go_keep)
    (first | (go_at_call 37; go_split_ands; refine (across2 A n c s W H _ _ w0 _ HP.out (below_two HB.out (by assumption)) ⟨by assumption, by assumption⟩ ⟨by assumption, by assumption⟩).mono ?_; rintro e wh0 ⟨rfl, hbh0⟩) | (go_at_call 38; go_split_ands; refine (down2 A n c s W H _ _ w0 _ HP.out (below_two HB.out (by assumption)) ⟨by assumption, by assumption⟩ ⟨by assumption, by assumption⟩).mono ?_; rintro e wh1 ⟨rfl, hbh1⟩) | (go_at_call 36; refine (half2_any _ _ (by omega)).mono ?_; rintro e w' ⟨rfl, rfl⟩))
  rename_i hh
  obtain ⟨k0, k1, k2, k3, k4, hb2⟩ := hh
  clear g0 g1 g2 g3 hb1 hbh0 hbh1
  rcases HC.out with rfl | rfl | rfl | rfl | rfl | rfl | rfl | rfl | rfl | rfl | rfl | rfl | rfl | rfl | rfl | rfl
  · go_wp2_with fail
    go_ret
    exact ⟨ret_i rfl, hb2⟩
  · go_wp2_with fail
    refine (of2_any _ _ _ (by first | exact clip_bd _ | exact HV.out _ _) (by first | exact clip_bd _ | exact HV.out _ _)).mono ?_
    rintro e w' ⟨rfl, rfl⟩
    go_wp2_with fail
    go_ret
    exact ⟨ret_i rfl, hb2⟩
  · go_wp2_with fail
    go_ret
    exact ⟨ret_i rfl, hb2⟩
  · go_wp2_with fail
    refine (at2 A n c s W H _ _ w0 _ HP.out (below_two HB.out hb2) (by omega) (by omega)).mono ?_
    rintro e w5 ⟨rfl, hb⟩
    have k0 := (hb.cell (p := ⟨w.heap.size, 0, none⟩) k3).trans k0
    have k1 := (hb.cell (p := ⟨w.heap.size, 1, none⟩) k3).trans k1
    have k2 := (hb.cell (p := ⟨w.heap.size, 2, none⟩) k3).trans k2
    have hb2 := hb2.trans (hb.mono k4)
    have k3 := Nat.lt_of_lt_of_le k3 hb.size
    have k4 := Nat.le_of_lt k3
    clear hb
    go_wp2_with fail
    refine (of2_any _ _ _ (by first | exact clip_bd _ | exact HV.out _ _) (by first | exact clip_bd _ | exact HV.out _ _)).mono ?_
    rintro e w' ⟨rfl, rfl⟩
    go_wp2_with fail
    go_ret
    exact ⟨ret_i rfl, hb2⟩
  · go_wp2_with fail
    refine (of2_any _ _ _ (by first | exact clip_bd _ | exact HV.out _ _) (by first | exact clip_bd _ | exact HV.out _ _)).mono ?_
    rintro e w' ⟨rfl, rfl⟩
    go_wp2_with fail
    go_ret
    exact ⟨ret_i rfl, hb2⟩
  · go_wp2_with fail
    refine (of2_any _ _ _ (by first | exact clip_bd _ | exact HV.out _ _) (by first | exact clip_bd _ | exact HV.out _ _)).mono ?_
    rintro e w' ⟨rfl, rfl⟩
    go_wp2_with fail
    go_ret
    exact ⟨ret_i rfl, hb2⟩
  · go_wp2_with fail
    refine (mid2 A n c s W H _ _ w0 _ HP.out (below_two HB.out hb2) (by omega) (by omega)).mono ?_
    rintro e w5 ⟨rfl, hb⟩
    have k0 := (hb.cell (p := ⟨w.heap.size, 0, none⟩) k3).trans k0
    have k1 := (hb.cell (p := ⟨w.heap.size, 1, none⟩) k3).trans k1
    have k2 := (hb.cell (p := ⟨w.heap.size, 2, none⟩) k3).trans k2
    have hb2 := hb2.trans (hb.mono k4)
    have k3 := Nat.lt_of_lt_of_le k3 hb.size
    have k4 := Nat.le_of_lt k3
    clear hb
    go_wp2_with fail
    refine (of2_any _ _ _ (by first | exact clip_bd _ | exact HV.out _ _) (by first | exact clip_bd _ | exact HV.out _ _)).mono ?_
    rintro e w' ⟨rfl, rfl⟩
    go_wp2_with fail
    go_ret
    exact ⟨ret_i rfl, hb2⟩
  · have vv := dwn_bd (A := atS s W H) HV.out (x + 1) y
    go_wp2_with fail
    refine (down2 A n c s W H _ _ w0 _ HP.out (below_two HB.out hb2) (by omega) (by omega)).mono ?_
    rintro e w5 ⟨rfl, hb⟩
    have k0 := (hb.cell (p := ⟨w.heap.size, 0, none⟩) k3).trans k0
    have k1 := (hb.cell (p := ⟨w.heap.size, 1, none⟩) k3).trans k1
    have k2 := (hb.cell (p := ⟨w.heap.size, 2, none⟩) k3).trans k2
    have hb2 := hb2.trans (hb.mono k4)
    have k3 := Nat.lt_of_lt_of_le k3 hb.size
    have k4 := Nat.le_of_lt k3
    clear hb
    go_wp2_with fail
    refine (half2_any _ _ (by omega)).mono ?_
    rintro e w' ⟨rfl, rfl⟩
    go_wp2_with fail
    refine (of2_any _ _ _ (by first | exact clip_bd _ | exact HV.out _ _) (by first | exact clip_bd _ | exact HV.out _ _)).mono ?_
    rintro e w' ⟨rfl, rfl⟩
    go_wp2_with fail
    go_ret
    exact ⟨ret_i rfl, hb2⟩
  · go_wp2_with fail
    go_ret
    exact ⟨ret_i rfl, hb2⟩
  · go_wp2_with fail
    refine (mid2 A n c s W H _ _ w0 _ HP.out (below_two HB.out hb2) (by omega) (by omega)).mono ?_
    rintro e w5 ⟨rfl, hb⟩
    have k0 := (hb.cell (p := ⟨w.heap.size, 0, none⟩) k3).trans k0
    have k1 := (hb.cell (p := ⟨w.heap.size, 1, none⟩) k3).trans k1
    have k2 := (hb.cell (p := ⟨w.heap.size, 2, none⟩) k3).trans k2
    have hb2 := hb2.trans (hb.mono k4)
    have k3 := Nat.lt_of_lt_of_le k3 hb.size
    have k4 := Nat.le_of_lt k3
    clear hb
    go_wp2_with fail
    refine (of2_any _ _ _ (by first | exact clip_bd _ | exact HV.out _ _) (by first | exact clip_bd _ | exact HV.out _ _)).mono ?_
    rintro e w' ⟨rfl, rfl⟩
    go_wp2_with fail
    go_ret
    exact ⟨ret_i rfl, hb2⟩
  · go_wp2_with fail
    refine (mid2 A n c s W H _ _ w0 _ HP.out (below_two HB.out hb2) (by omega) (by omega)).mono ?_
    rintro e w5 ⟨rfl, hb⟩
    have k0 := (hb.cell (p := ⟨w.heap.size, 0, none⟩) k3).trans k0
    have k1 := (hb.cell (p := ⟨w.heap.size, 1, none⟩) k3).trans k1
    have k2 := (hb.cell (p := ⟨w.heap.size, 2, none⟩) k3).trans k2
    have hb2 := hb2.trans (hb.mono k4)
    have k3 := Nat.lt_of_lt_of_le k3 hb.size
    have k4 := Nat.le_of_lt k3
    clear hb
    go_wp2_with fail
    go_ret
    exact ⟨ret_i rfl, hb2⟩
  · have vv := dwn_bd (A := atS s W H) HV.out (x + 1) y
    go_wp2_with fail
    refine (mid2 A n c s W H _ _ w0 _ HP.out (below_two HB.out hb2) (by omega) (by omega)).mono ?_
    rintro e w5 ⟨rfl, hb⟩
    have k0 := (hb.cell (p := ⟨w.heap.size, 0, none⟩) k3).trans k0
    have k1 := (hb.cell (p := ⟨w.heap.size, 1, none⟩) k3).trans k1
    have k2 := (hb.cell (p := ⟨w.heap.size, 2, none⟩) k3).trans k2
    have hb2 := hb2.trans (hb.mono k4)
    have k3 := Nat.lt_of_lt_of_le k3 hb.size
    have k4 := Nat.le_of_lt k3
    clear hb
    go_wp2_with fail
    refine (down2 A n c s W H _ _ w0 _ HP.out (below_two HB.out hb2) (by omega) (by omega)).mono ?_
    rintro e w5 ⟨rfl, hb⟩
    have k0 := (hb.cell (p := ⟨w.heap.size, 0, none⟩) k3).trans k0
    have k1 := (hb.cell (p := ⟨w.heap.size, 1, none⟩) k3).trans k1
    have k2 := (hb.cell (p := ⟨w.heap.size, 2, none⟩) k3).trans k2
    have hb2 := hb2.trans (hb.mono k4)
    have k3 := Nat.lt_of_lt_of_le k3 hb.size
    have k4 := Nat.le_of_lt k3
    clear hb
    go_wp2_with fail
    refine (half2_any _ _ (by omega)).mono ?_
    rintro e w' ⟨rfl, rfl⟩
    go_wp2_with fail
    refine (of2_any _ _ _ (by first | exact clip_bd _ | exact HV.out _ _) (by first | exact clip_bd _ | exact HV.out _ _)).mono ?_
    rintro e w' ⟨rfl, rfl⟩
    go_wp2_with fail
    go_ret
    exact ⟨ret_i rfl, hb2⟩
  · go_wp2_with fail
    refine (at2 A n c s W H _ _ w0 _ HP.out (below_two HB.out hb2) (by omega) (by omega)).mono ?_
    rintro e w5 ⟨rfl, hb⟩
    have k0 := (hb.cell (p := ⟨w.heap.size, 0, none⟩) k3).trans k0
    have k1 := (hb.cell (p := ⟨w.heap.size, 1, none⟩) k3).trans k1
    have k2 := (hb.cell (p := ⟨w.heap.size, 2, none⟩) k3).trans k2
    have hb2 := hb2.trans (hb.mono k4)
    have k3 := Nat.lt_of_lt_of_le k3 hb.size
    have k4 := Nat.le_of_lt k3
    clear hb
    go_wp2_with fail
    refine (of2_any _ _ _ (by first | exact clip_bd _ | exact HV.out _ _) (by first | exact clip_bd _ | exact HV.out _ _)).mono ?_
    rintro e w' ⟨rfl, rfl⟩
    go_wp2_with fail
    go_ret
    exact ⟨ret_i rfl, hb2⟩
  · have vv := acr_bd (A := atS s W H) HV.out x (y + 1)
    go_wp2_with fail
    refine (across2 A n c s W H _ _ w0 _ HP.out (below_two HB.out hb2) (by omega) (by omega)).mono ?_
    rintro e w5 ⟨rfl, hb⟩
    have k0 := (hb.cell (p := ⟨w.heap.size, 0, none⟩) k3).trans k0
    have k1 := (hb.cell (p := ⟨w.heap.size, 1, none⟩) k3).trans k1
    have k2 := (hb.cell (p := ⟨w.heap.size, 2, none⟩) k3).trans k2
    have hb2 := hb2.trans (hb.mono k4)
    have k3 := Nat.lt_of_lt_of_le k3 hb.size
    have k4 := Nat.le_of_lt k3
    clear hb
    go_wp2_with fail
    refine (half2_any _ _ (by omega)).mono ?_
    rintro e w' ⟨rfl, rfl⟩
    go_wp2_with fail
    refine (of2_any _ _ _ (by first | exact clip_bd _ | exact HV.out _ _) (by first | exact clip_bd _ | exact HV.out _ _)).mono ?_
    rintro e w' ⟨rfl, rfl⟩
    go_wp2_with fail
    go_ret
    exact ⟨ret_i rfl, hb2⟩
  · have vv := acr_bd (A := atS s W H) HV.out x (y + 1)
    go_wp2_with fail
    refine (mid2 A n c s W H _ _ w0 _ HP.out (below_two HB.out hb2) (by omega) (by omega)).mono ?_
    rintro e w5 ⟨rfl, hb⟩
    have k0 := (hb.cell (p := ⟨w.heap.size, 0, none⟩) k3).trans k0
    have k1 := (hb.cell (p := ⟨w.heap.size, 1, none⟩) k3).trans k1
    have k2 := (hb.cell (p := ⟨w.heap.size, 2, none⟩) k3).trans k2
    have hb2 := hb2.trans (hb.mono k4)
    have k3 := Nat.lt_of_lt_of_le k3 hb.size
    have k4 := Nat.le_of_lt k3
    clear hb
    go_wp2_with fail
    refine (across2 A n c s W H _ _ w0 _ HP.out (below_two HB.out hb2) (by omega) (by omega)).mono ?_
    rintro e w5 ⟨rfl, hb⟩
    have k0 := (hb.cell (p := ⟨w.heap.size, 0, none⟩) k3).trans k0
    have k1 := (hb.cell (p := ⟨w.heap.size, 1, none⟩) k3).trans k1
    have k2 := (hb.cell (p := ⟨w.heap.size, 2, none⟩) k3).trans k2
    have hb2 := hb2.trans (hb.mono k4)
    have k3 := Nat.lt_of_lt_of_le k3 hb.size
    have k4 := Nat.le_of_lt k3
    clear hb
    go_wp2_with fail
    refine (half2_any _ _ (by omega)).mono ?_
    rintro e w' ⟨rfl, rfl⟩
    go_wp2_with fail
    refine (of2_any _ _ _ (by first | exact clip_bd _ | exact HV.out _ _) (by first | exact clip_bd _ | exact HV.out _ _)).mono ?_
    rintro e w' ⟨rfl, rfl⟩
    go_wp2_with fail
    go_ret
    exact ⟨ret_i rfl, hb2⟩
  · have vv := acr_bd (A := atS s W H) HV.out x (y + 1)
    have vw := dwn_bd (A := atS s W H) HV.out (x + 1) y
    have x1 : -9000 ≤ x + 1 ∧ x + 1 ≤ 9000 := by omega
    have y1 : -9000 ≤ y + 1 ∧ y + 1 ≤ 9000 := by omega
    have e3 := wr_in (x := x + 1) (by omega)
    have e4 := wr_in (x := y + 1) (by omega)
    go_wp2_with fail
    go_region_held3 (fun w' => w'.cell? ⟨w.heap.size, 0, none⟩ = some (.slice A n c) ∧ w'.cell? ⟨w.heap.size, 1, none⟩ = some (.int .i64 W) ∧ w'.cell? ⟨w.heap.size, 2, none⟩ = some (.int .i64 H) ∧ w.heap.size < w'.heap.size ∧ w.heap.size ≤ w'.heap.size ∧ Below w.heap.size w w')
      (first | (refine ⟨by simp [go_sem, *], by simp [go_sem, *], by simp [go_sem, *], by simp [go_sem] <;> omega, by simp [go_sem] <;> omega, (by repeat (first | exact Below.refl _ _ | assumption | refine Below.alloc ?_ (by first | omega | (simp <;> omega)) _ | refine Below.drew ?_ | refine Below.setCell ?_ (by first | omega | (simp <;> omega)) _))⟩) | (go_split_ands; refine ⟨(hbh0.cell (by simp <;> omega)).trans (by assumption), (hbh0.cell (by simp <;> omega)).trans (by assumption), (hbh0.cell (by simp <;> omega)).trans (by assumption), by have := hbh0.size; omega, by have := hbh0.size; omega, Below.trans (by assumption) (hbh0.mono (by omega))⟩) | (go_split_ands; refine ⟨(hbh1.cell (by simp <;> omega)).trans (by assumption), (hbh1.cell (by simp <;> omega)).trans (by assumption), (hbh1.cell (by simp <;> omega)).trans (by assumption), by have := hbh1.size; omega, by have := hbh1.size; omega, Below.trans (by assumption) (hbh1.mono (by omega))⟩) | go_keep)
      (first | (go_at_call 37; go_split_ands; refine (across2 A n c s W H _ _ w0 _ HP.out (below_two HB.out (by assumption)) ⟨by assumption, by assumption⟩ ⟨by assumption, by assumption⟩).mono ?_; rintro e wh0 ⟨rfl, hbh0⟩) | (go_at_call 38; go_split_ands; refine (down2 A n c s W H _ _ w0 _ HP.out (below_two HB.out (by assumption)) ⟨by assumption, by assumption⟩ ⟨by assumption, by assumption⟩).mono ?_; rintro e wh1 ⟨rfl, hbh1⟩) | (go_at_call 36; refine (half2_any _ _ (by omega)).mono ?_; rintro e w' ⟨rfl, rfl⟩) | (go_at_call 39; refine (of2_any _ _ _ (by first | exact clip_bd _ | exact HV.out _ _) (by first | exact clip_bd _ | exact HV.out _ _)).mono ?_; rintro e w' ⟨rfl, rfl⟩))
    rename_i hh
    obtain ⟨_, _, _, _, _, hb3⟩ := hh
    go_wp2_with fail
    go_ret
    exact ⟨ret_i rfl, hb3⟩

end Go.Proofs.Ytoagihocibeidaa
