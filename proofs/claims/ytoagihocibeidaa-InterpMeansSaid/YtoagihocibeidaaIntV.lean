/- The statement InterpMeans: the walk. -/
import Derived.Test.YtoagihocibeidaaIntU
namespace Go.Proofs.Ytoagihocibeidaa
open Go.RowKit
set_option linter.unusedVariables false
set_option linter.unusedSimpArgs false
attribute [local go_sem] ite_max ite_min and_3 and_7 and_63

theorem lum_val {s : Nat → Int} (hs : ∀ k, 0 ≤ s k ∧ s k ≤ 255) (x y : Int) (k : Nat) : 0 ≤ lumF s 12 12 x y 4 k ∧ lumF s 12 12 x y 4 k ≤ 255 := lum_bd (fun _ _ => hs _) _ _ _
/-- what spot answers -/
def Spot (w : World) (s : Nat → Int) (x y : Int) (e : Ending) (w' : World) : Prop := ∃ A cp, e = .returned (.slice A 16 cp) ∧ Ri w' w'.heap.size A 16 (lumF s 12 12 x y 4) ∧ Below w.heap.size w w'
set_option maxHeartbeats 1600000 in
theorem spot_any (A : Option Addr) (c : Nat) (s : Nat → Int) (x y : Int) (w0 w : World) (hr : Rb w0 A 144 s) (hb : Below w0.heap.size w0 w) (hs : ∀ k, 0 ≤ s k ∧ s k ≤ 255) (hx : 0 ≤ x ∧ x ≤ 100) (hy : 0 ≤ y ∧ y ≤ 100) :
    Calls Try.prog 20 #[.slice A 144 c, .int .i64 x, .int .i64 y] w (Spot w s x y) := by
  have HL := Lib.hid (luma44 A 144 c s 12 12 x y w (Rd.go hr hb) hs (by omega) (by omega) (by omega) (by omega) (by omega))
  clear hr hs hb
  go_enter Try.func20, Try.ntmps20
  go_wp2_with fail
  refine Calls.mono HL.out ?_
  rintro e w6 hq
  obtain ⟨A3, p3, rfl, hr, -, -, hb⟩ := gives_at hq
  have R := Lib.hid hr
  have B := Lib.hid hb
  clear hq hr hb
  go_wp2_with (go_at_call 16; refine (num_any _ _).mono ?_; rintro e w' ⟨rfl, rfl⟩)
  go_ret
  exact ⟨A3, p3, rfl, R.out, B.out⟩

theorem pairs_cell {w : World} {g : Nat} {t : TypeId} (h : Bk w g t (pairsL.map (Value.int .i64)).toArray) (k j : Nat) (hk : k < 12) (hj : j < 6) : w.cell? ⟨g, k * 6 + j, none⟩ = some (.int .i64 (pr k j)) := by
  rw [h.cell]
  have hl : k * 6 + j < pairsL.length := by show _ < 72; omega
  unfold pr
  rw [List.getElem?_toArray, List.getElem?_map, List.getD_eq_getElem?_getD, List.getElem?_eq_getElem hl]
  rfl

set_option maxRecDepth 100000 in
set_option maxHeartbeats 6400000 in
theorem walk_InterpMeans (a0 : Option Addr) (n0 c0 : Nat) (z : Nat → Int) (x y : Int) (w : World) (w_a0 : BytesArg w a0 n0 c0 z) (_ : (Lit.int .i64 x).wf = true) (_ : (Lit.int .i64 y).wf = true) :
    Calls Try.prog 6 #[.slice a0 n0 c0, .int .i64 x, .int .i64 y] w fun e w' => e = .returned (.bool true) ∧ Below w.heap.size w w' := by
  obtain ⟨hr0, hnil, hnc, hcm, hz⟩ := w_a0
  have hn0 : n0 ≤ 140737488351232 := by omega
  have hsb := fun k => plane_bd (n := n0) hz 12 k
  have HZ := Lib.hid hr0
  have x4 : 0 ≤ x % 4 ∧ x % 4 ≤ 3 := by omega
  have y4 : 0 ≤ y % 4 ∧ y % 4 ≤ 3 := by omega
  clear hr0 hnil hz
  have BB := Lib.hid (Below.refl w.heap.size w)
  go_enter Try.func6, Try.ntmps6
  go_wp2_with fail
  refine (awake_any _).mono ?_
  rintro e w1 ⟨rfl, hb⟩
  have BB := Lib.hid (BB.out.trans (hb.mono BB.out.size))
  have HZ := Lib.hid (Rd.go HZ.out hb)
  clear hb
  go_wp2_with fail
  refine (plane_any a0 n0 c0 z 12 12 _ HZ.out (by omega) (by omega) (by omega)).mono ?_
  rintro e w2 ⟨rfl, har, hb⟩
  have RP : Hid (Rb w2 (some ⟨w1.heap.size, 0, none⟩) 144 (planeF n0 z 12)) := Lib.hid har.rd
  clear har
  have BB := Lib.hid (BB.out.trans (hb.mono BB.out.size))
  clear hb
  obtain ⟨s, hs⟩ : ∃ s, s = planeF n0 z 12 := ⟨_, rfl⟩
  rw [← hs] at hsb RP
  clear hs
  have HS := Lib.hid hsb
  obtain ⟨a, ha⟩ : ∃ a, x % 4 = a := ⟨_, rfl⟩
  obtain ⟨b, hb⟩ : ∃ b, y % 4 = b := ⟨_, rfl⟩
  rw [ha] at x4
  rw [hb] at y4
  clear hsb
  go_wp2_with fail
  clear ha hb
  have hbk : Bk (w2.alloc (.cells (pairsL.map (Value.int .i64)).toArray 39)) w2.heap.size 39 (pairsL.map (Value.int .i64)).toArray := Bk.new _ _ _
  go_loopw [11] (fun t wr => ∃ i : Nat, i ≤ 12 ∧ t = .int .i64 i ∧ Bk wr w2.heap.size 39 (pairsL.map (Value.int .i64)).toArray ∧ Below w2.heap.size w2 wr) (fun t _ => 12 - (intOf t).toNat)
  case atStart => exact ⟨0, by omega, rfl, hbk, (Below.refl _ _).alloc (Nat.le_refl _) _⟩
  case round =>
    clear hbk
    obtain ⟨i, hi, rfl, hbk, hbl⟩ := hrel
    have HK := Lib.hid hbk
    have HB := Lib.hid hbl
    have hsz := hbl.size
    by_cases hlt : i < 12
    · have kl := hbk.lt
      have c0 : wr.cell? ⟨w2.heap.size, i * 6, none⟩ = some (.int .i64 (pr i 0)) := pairs_cell hbk i 0 hlt (by omega)
      have b0 := pr_bd i 0
      have c1 : wr.cell? ⟨w2.heap.size, i * 6+ 1, none⟩ = some (.int .i64 (pr i 1)) := pairs_cell hbk i 1 hlt (by omega)
      have b1 := pr_bd i 1
      have c2 : wr.cell? ⟨w2.heap.size, i * 6+ 2, none⟩ = some (.int .i64 (pr i 2)) := pairs_cell hbk i 2 hlt (by omega)
      have b2 := pr_bd i 2
      have c3 : wr.cell? ⟨w2.heap.size, i * 6+ 3, none⟩ = some (.int .i64 (pr i 3)) := pairs_cell hbk i 3 hlt (by omega)
      have b3 := pr_bd i 3
      have c4 : wr.cell? ⟨w2.heap.size, i * 6+ 4, none⟩ = some (.int .i64 (pr i 4)) := pairs_cell hbk i 4 hlt (by omega)
      have b4 := pr_bd i 4
      have c5 : wr.cell? ⟨w2.heap.size, i * 6+ 5, none⟩ = some (.int .i64 (pr i 5)) := pairs_cell hbk i 5 hlt (by omega)
      have b5 := pr_bd i 5
      have ML := Lib.hid (mean_law s a b x4 y4 i hlt)
      obtain ⟨p0, hp0⟩ : ∃ p, p = pr i 0 := ⟨_, rfl⟩
      rw [← hp0] at c0 b0 ML
      clear hp0
      obtain ⟨p1, hp1⟩ : ∃ p, p = pr i 1 := ⟨_, rfl⟩
      rw [← hp1] at c1 b1 ML
      clear hp1
      obtain ⟨p2, hp2⟩ : ∃ p, p = pr i 2 := ⟨_, rfl⟩
      rw [← hp2] at c2 b2 ML
      clear hp2
      obtain ⟨p3, hp3⟩ : ∃ p, p = pr i 3 := ⟨_, rfl⟩
      rw [← hp3] at c3 b3 ML
      clear hp3
      obtain ⟨p4, hp4⟩ : ∃ p, p = pr i 4 := ⟨_, rfl⟩
      rw [← hp4] at c4 b4 ML
      clear hp4
      obtain ⟨p5, hp5⟩ : ∃ p, p = pr i 5 := ⟨_, rfl⟩
      rw [← hp5] at c5 b5 ML
      clear hp5
      have hi0 : (0 : Int) ≤ (i : Int) := Int.natCast_nonneg _
      have hi1 : (i : Int) < 12 := by omega
      clear hbk hbl
      go_wp2_with fail
      clear c0 c1 c2 c3 c4 c5
      obtain ⟨wx, hwx⟩ : ∃ wx, wx = wr.alloc (.cells #[.int .i64 p0, .int .i64 p1, .int .i64 p2, .int .i64 p3, .int .i64 p4, .int .i64 p5] 39) := ⟨_, rfl⟩
      rw [← hwx]
      have hkx : Bk wx wr.heap.size 39 #[.int .i64 p0, .int .i64 p1, .int .i64 p2, .int .i64 p3, .int .i64 p4, .int .i64 p5] := by rw [hwx]; exact Bk.new _ _ _
      have hbx : Below wr.heap.size wr wx := by rw [hwx]; exact (Below.refl _ _).alloc (Nat.le_refl _) _
      clear hwx
      have c0 : wx.cell? ⟨wr.heap.size, 0, none⟩ = some (.int .i64 p0) := hkx.cell 0
      have c1 : wx.cell? ⟨wr.heap.size, 1, none⟩ = some (.int .i64 p1) := hkx.cell 1
      have c2 : wx.cell? ⟨wr.heap.size, 2, none⟩ = some (.int .i64 p2) := hkx.cell 2
      have c3 : wx.cell? ⟨wr.heap.size, 3, none⟩ = some (.int .i64 p3) := hkx.cell 3
      have c4 : wx.cell? ⟨wr.heap.size, 4, none⟩ = some (.int .i64 p4) := hkx.cell 4
      have c5 : wx.cell? ⟨wr.heap.size, 5, none⟩ = some (.int .i64 p5) := hkx.cell 5
      have kx := hkx.lt
      have HBX := Lib.hid (HB.out.trans (hbx.mono hsz))
      have HKX := Lib.hid (HK.out.go hbx)
      clear hkx hbx
      have h0 : 0 ≤ 4 * a + p0 ∧ 4 * a + p0 ≤ 100 := by omega
      have h1 : 0 ≤ 4 * b + p1 ∧ 4 * b + p1 ≤ 100 := by omega
      have h2 : 0 ≤ 4 * a + p2 ∧ 4 * a + p2 ≤ 100 := by omega
      have h3 : 0 ≤ 4 * b + p3 ∧ 4 * b + p3 ≤ 100 := by omega
      have h4 : 0 ≤ 4 * a + p4 ∧ 4 * a + p4 ≤ 100 := by omega
      have h5 : 0 ≤ 4 * b + p5 ∧ 4 * b + p5 ≤ 100 := by omega
      have g0 := wr_in (x := 4 * a + p0) (by omega)
      have g1 := wr_in (x := 4 * b + p1) (by omega)
      have g2 := wr_in (x := 4 * a + p2) (by omega)
      have g3 := wr_in (x := 4 * b + p3) (by omega)
      have g4 := wr_in (x := 4 * a + p4) (by omega)
      have g5 := wr_in (x := 4 * b + p5) (by omega)
      have g6 := wr_in (x := 4 * a) (by omega)
      have g7 := wr_in (x := 4 * b) (by omega)
      go_region_held3 (fun w' => w'.cell? ⟨wr.heap.size, 0, none⟩ = some (.int .i64 p0) ∧ w'.cell? ⟨wr.heap.size, 1, none⟩ = some (.int .i64 p1) ∧ w'.cell? ⟨wr.heap.size, 2, none⟩ = some (.int .i64 p2) ∧ w'.cell? ⟨wr.heap.size, 3, none⟩ = some (.int .i64 p3) ∧ w'.cell? ⟨wr.heap.size, 4, none⟩ = some (.int .i64 p4) ∧ w'.cell? ⟨wr.heap.size, 5, none⟩ = some (.int .i64 p5) ∧ wr.heap.size < w'.heap.size ∧ wx.heap.size ≤ w'.heap.size ∧ Below wx.heap.size wx w')
        (first | (refine ⟨by simp [go_sem, *], by simp [go_sem, *], by simp [go_sem, *], by simp [go_sem, *], by simp [go_sem, *], by simp [go_sem, *], by simp [go_sem, *], by simp [go_sem], Below.drew (Below.refl _ _)⟩) | (go_split_ands; refine ⟨(hbh0.cell (by simp <;> omega)).trans (by assumption), (hbh0.cell (by simp <;> omega)).trans (by assumption), (hbh0.cell (by simp <;> omega)).trans (by assumption), (hbh0.cell (by simp <;> omega)).trans (by assumption), (hbh0.cell (by simp <;> omega)).trans (by assumption), (hbh0.cell (by simp <;> omega)).trans (by assumption), by have := hbh0.size; omega, by have := hbh0.size; omega, Below.trans (by assumption) (hbh0.mono (by omega))⟩) | go_keep)
        (first | (go_at_call 20; go_split_ands; refine (spot_any _ _ s _ _ w2 _ RP.out (below_two HBX.out (by assumption)) HS.out ⟨by assumption, by assumption⟩ ⟨by assumption, by assumption⟩).mono ?_; rintro e wh0 ⟨A0, q0, rfl, hrr, hbh0⟩))
      rename_i v1 B1 t1 r1 e1 _ _ _ _ _ _ _ _ _ v2 B2 t2 r2 e2 _ _ _ _ _ _ _ _ _ hh
      have F1 := Lib.hid (Rd.go (Rd.go r1 e2) hbh0)
      have F2 := Lib.hid (Rd.go r2 hbh0)
      have F3 := Lib.hid hrr
      have hbx := hh.2.2.2.2.2.2.2.2
      have HKX := Lib.hid (HKX.out.go hbx)
      have HBX := Lib.hid (HBX.out.trans (hbx.mono HBX.out.size))
      clear r1 r2 hrr e1 e2 hbh0 hh hbx g0 g1 g2 g3 g4 g5 g6 g7 c0 c1 c2 c3 c4 c5
      go_wp2_with fail
      go_loopw [16] (fun t wr => ∃ k : Nat, k ≤ 16 ∧ t = .int .i64 k ∧ Below wh0.heap.size wh0 wr) (fun t _ => 16 - (intOf t).toNat)
      case atStart => exact ⟨0, Nat.zero_le _, rfl, Below.refl _ _⟩
      case round =>
        obtain ⟨k, hk, rfl, hbl⟩ := hrel
        by_cases hlt2 : k < 16
        · obtain ⟨d1, rfl, -, c1⟩ := (Rd.go F1.out hbl).at_ hlt2
          obtain ⟨d2, rfl, -, c2⟩ := (Rd.go F2.out hbl).at_ hlt2
          obtain ⟨d3, rfl, -, c3⟩ := (Rd.go F3.out hbl).at_ hlt2
          rw [ML.out k] at c1
          have l2 := lum_val HS.out (4 * a + p2) (4 * b + p3) k
          have l3 := lum_val HS.out (4 * a + p4) (4 * b + p5) k
          generalize lumF s 12 12 (4 * a + p2) (4 * b + p3) 4 k = u2 at *
          generalize lumF s 12 12 (4 * a + p4) (4 * b + p5) 4 k = u3 at *
          have m1 : IntKind.i64.wrap (u2 + u3) = u2 + u3 := wr_in (by omega)
          have m2 : IntKind.i64.wrap (u2 + u3 + 1) = u2 + u3 + 1 := wr_in (by omega)
          have m3 : (u2 + u3 + 1).tdiv 2 = (u2 + u3 + 1) / 2 := Int.tdiv_eq_ediv_of_nonneg (by omega)
          have HB2 := Lib.hid hbl
          clear hbl
          have hk0 : (0 : Int) ≤ (k : Int) := Int.natCast_nonneg _
          have hk1 : (k : Int) < 16 := by omega
          go_wp2_with fail
          go_quiet (fail)
          go_wp2_with fail
          go_roundw
          case rel => exact ⟨k + 1, by omega, by go_num, ⟨HB2.out.os, HB2.out.tape, HB2.out.output, HB2.out.size, HB2.out.block⟩⟩
          case measure => simp [intOf]; omega
        · have HK3 := Lib.hid (HKX.out.go hbl)
          have HB3 := Lib.hid (HBX.out.trans (hbl.mono HBX.out.size))
          clear hbl
          go_wp2_with fail
          go_roundw
          case rel => exact ⟨i + 1, by omega, by go_num, HK3.out, HB3.out⟩
          case measure => simp [intOf]; omega
    · obtain rfl : i = 12 := by omega
      clear hbk
      go_wp2_with fail
      go_ret
      exact ⟨rfl, BB.out.trans (HB.out.mono BB.out.size)⟩

end Go.Proofs.Ytoagihocibeidaa
