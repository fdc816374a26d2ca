/- The document's at, taps, across, down, half, mid. -/
import Derived.Test.YtoagihocibeidaaIntF
import Derived.Deep.RegionHeld3
namespace Go.Proofs.Ytoagihocibeidaa
open Go.RowKit
set_option linter.unusedVariables false
set_option linter.unusedSimpArgs false
attribute [local go_sem] ite_max ite_min

/-- samples that were there before: a plane by value -/
def Pv (w : World) (A : Option Addr) (n : Nat) (s : Nat → Int) (W H : Int) : Prop := Rb w A n s ∧ (n : Int) = W * H ∧ (1 ≤ W ∧ W ≤ 128) ∧ (1 ≤ H ∧ H ≤ 128) ∧ ∀ k, 0 ≤ s k ∧ s k ≤ 255
theorem Pv.val {w : World} {A : Option Addr} {n : Nat} {s : Nat → Int} {W H : Int} (h : Pv w A n s W H) (x y : Int) : 0 ≤ atS s W H x y ∧ atS s W H x y ≤ 255 := h.2.2.2.2 _

set_option maxHeartbeats 1600000 in
theorem at2 (A : Option Addr) (n c : Nat) (s : Nat → Int) (W H x y : Int) (w0 w : World) (hp : Pv w0 A n s W H) (hb0 : Below w0.heap.size w0 w) (hx : -10000 ≤ x ∧ x ≤ 10000) (hy : -10000 ≤ y ∧ y ≤ 10000) :
    Calls Try.prog 28 #[.agg #[.slice A n c, .int .i64 W, .int .i64 H], .int .i64 x, .int .i64 y] w fun e w' => e = .returned (.int .i64 (atS s W H x y)) ∧ Below w.heap.size w w' := by
  obtain ⟨hr, hn, hW, hH, hs⟩ := hp
  have hbd := atI_bd W H x y hW hH
  have hlt : atI W H x y < n := by unfold atI; omega
  obtain ⟨ad, rfl, hb, hc0⟩ := hr.at_ hlt
  have hc1 : w.cell? (ad.add (atI W H x y)) = some (.int .u8 (s (atI W H x y))) := (hb0.cell (by rw [block_add]; exact hb)).trans hc0
  have hlt2 : ad.block < w.heap.size := Nat.lt_of_lt_of_le hb hb0.size
  have hc : (w.alloc (.cells #[.slice (some ad) n c, .int .i64 W, .int .i64 H] 52)).cell? (ad.add (atI W H x y)) = some (.int .u8 (s (atI W H x y))) := (World.cell?_alloc_lt w _ _ (by rw [block_add]; exact hlt2)).trans hc1
  have hsv := hs (atI W H x y)
  have e3 : max 0 (min (W - 1) x) = cl x W := rfl
  have e4 : max 0 (min (H - 1) y) = cl y H := rfl
  obtain ⟨m, hm⟩ : ∃ m, m = cl y H * W := ⟨_, rfl⟩
  rw [← hm] at hbd
  have hm64 : wrap64 (cl y H * W) = m := by rw [← hm]; unfold wrap64; omega
  have e7 : (m + cl x W).toNat = atI W H x y := by unfold atI; rw [hm]
  have q1 : 0 ≤ m + cl x W := by omega
  have q2 : m + cl x W < (n : Int) := by omega
  have HS : Hid (atS s W H x y = s (atI W H x y)) := Lib.hid rfl
  have HR := Lib.hid hr
  have HQ := Lib.hid hs
  have HM := Lib.hid hm
  clear hr hs hm hn hlt hc0 hc1 hb0
  go_enter Try.func28, Try.ntmps28
  go_wp2_with fail
  go_ret
  exact ⟨ret_int HS.out.symm, (Below.refl _ _).alloc (Nat.le_refl _) _⟩

theorem acr_eq (A : Int → Int → Int) (x y : Int) : acr A x y = A (x - 2) y - 5 * A (x - 1) y + 20 * A x y + 20 * A (x + 1) y - 5 * A (x + 2) y + A (x + 3) y := by
  unfold acr tap
  simp only [Int.sub_eq_add_neg, Int.add_zero]
theorem dwn_eq (A : Int → Int → Int) (x y : Int) : dwn A x y = A x (y - 2) - 5 * A x (y - 1) + 20 * A x y + 20 * A x (y + 1) - 5 * A x (y + 2) + A x (y + 3) := by
  unfold dwn tap
  simp only [Int.sub_eq_add_neg, Int.add_zero]
theorem tt_eq (F : Int → Int) (y : Int) : tap (fun i => F (y + i)) = F (y - 2) - 5 * F (y - 1) + 20 * F y + 20 * F (y + 1) - 5 * F (y + 2) + F (y + 3) := by
  unfold tap
  simp only [Int.sub_eq_add_neg, Int.add_zero]

theorem taps2_any (a b c d e f : Int) (w : World) (ha : -20000 ≤ a ∧ a ≤ 20000) (hb : -20000 ≤ b ∧ b ≤ 20000) (hc : -20000 ≤ c ∧ c ≤ 20000) (hd : -20000 ≤ d ∧ d ≤ 20000) (he : -20000 ≤ e ∧ e ≤ 20000) (hf : -20000 ≤ f ∧ f ≤ 20000) :
    Calls Try.prog 44 #[.int .i64 a, .int .i64 b, .int .i64 c, .int .i64 d, .int .i64 e, .int .i64 f] w fun r w' => r = .returned (.int .i64 (a - 5 * b + 20 * c + 20 * d - 5 * e + f)) ∧ w = w' := by
  go_enter Try.func44, Try.ntmps44
  go_wp2_with fail
  go_ret
  exact ⟨rfl, rfl⟩

section
variable {A : Option Addr} {n : Nat} (c : Nat) {s : Nat → Int} {W H : Int} (x y : Int) {w0 : World} (w : World) (hp : Pv w0 A n s W H) (hb0 : Below w0.heap.size w0 w)
include hp
theorem tapsA : Calls Try.prog 44 #[.int .i64 (atS s W H (x - 2) y), .int .i64 (atS s W H (x - 1) y), .int .i64 (atS s W H x y), .int .i64 (atS s W H (x + 1) y), .int .i64 (atS s W H (x + 2) y), .int .i64 (atS s W H (x + 3) y)] w fun r w' => r = .returned (.int .i64 (acr (atS s W H) x y)) ∧ w = w' := by
  rw [acr_eq]
  have hv := fun a b => hp.val a b
  exact taps2_any _ _ _ _ _ _ w (by have := hv (x - 2) y; omega) (by have := hv (x - 1) y; omega) (by have := hv x y; omega) (by have := hv (x + 1) y; omega) (by have := hv (x + 2) y; omega) (by have := hv (x + 3) y; omega)
theorem tapsD : Calls Try.prog 44 #[.int .i64 (atS s W H x (y - 2)), .int .i64 (atS s W H x (y - 1)), .int .i64 (atS s W H x y), .int .i64 (atS s W H x (y + 1)), .int .i64 (atS s W H x (y + 2)), .int .i64 (atS s W H x (y + 3))] w fun r w' => r = .returned (.int .i64 (dwn (atS s W H) x y)) ∧ w = w' := by
  rw [dwn_eq]
  have hv := fun a b => hp.val a b
  exact taps2_any _ _ _ _ _ _ w (by have := hv x (y - 2); omega) (by have := hv x (y - 1); omega) (by have := hv x y; omega) (by have := hv x (y + 1); omega) (by have := hv x (y + 2); omega) (by have := hv x (y + 3); omega)
theorem tapsJ : Calls Try.prog 44 #[.int .i64 (acr (atS s W H) x (y - 2)), .int .i64 (acr (atS s W H) x (y - 1)), .int .i64 (acr (atS s W H) x y), .int .i64 (acr (atS s W H) x (y + 1)), .int .i64 (acr (atS s W H) x (y + 2)), .int .i64 (acr (atS s W H) x (y + 3))] w fun r w' => r = .returned (.int .i64 (tap fun i => acr (atS s W H) x (y + i))) ∧ w = w' := by
  rw [tt_eq (fun b => acr (atS s W H) x b)]
  have hv := fun b => acr_bd (A := atS s W H) hp.val x b
  exact taps2_any _ _ _ _ _ _ w (by have := hv (y - 2); omega) (by have := hv (y - 1); omega) (by have := hv y; omega) (by have := hv (y + 1); omega) (by have := hv (y + 2); omega) (by have := hv (y + 3); omega)
end

theorem below_two {a b c : World} (h : Below a.heap.size a b) (k : Below b.heap.size b c) : Below a.heap.size a c := h.trans (k.mono h.size)
theorem wr_in {x : Int} (h : -100000 ≤ x ∧ x ≤ 100000) : IntKind.i64.wrap x = x := IntWalk.i64_in _ (by omega)

set_option maxRecDepth 100000 in
set_option maxHeartbeats 1600000 in
theorem across2 (A : Option Addr) (n c : Nat) (s : Nat → Int) (W H x y : Int) (w0 w : World) (hp : Pv w0 A n s W H) (hb0 : Below w0.heap.size w0 w) (hx : -9000 ≤ x ∧ x ≤ 9000) (hy : -9000 ≤ y ∧ y ≤ 9000) :
    Calls Try.prog 37 #[.agg #[.slice A n c, .int .i64 W, .int .i64 H], .int .i64 x, .int .i64 y] w fun e w' => e = .returned (.int .i64 (acr (atS s W H) x y)) ∧ Below w.heap.size w w' := by
  have HP := Lib.hid hp
  have HB := Lib.hid hb0
  have y0 : -10000 ≤ y ∧ y ≤ 10000 := by omega
  have x0 : -10000 ≤ x ∧ x ≤ 10000 := by omega
  have x1 : -10000 ≤ x - 2 ∧ x - 2 ≤ 10000 := by omega
  have x2 : -10000 ≤ x - 1 ∧ x - 1 ≤ 10000 := by omega
  have x3 : -10000 ≤ x + 1 ∧ x + 1 ≤ 10000 := by omega
  have x4 : -10000 ≤ x + 2 ∧ x + 2 ≤ 10000 := by omega
  have x5 : -10000 ≤ x + 3 ∧ x + 3 ≤ 10000 := by omega
  have X := Lib.hid (And.intro y0 (And.intro x0 (And.intro x1 (And.intro x2 (And.intro x3 (And.intro x4 x5))))))
  have e1 := wr_in (x := x - 2) (by omega)
  have e2 := wr_in (x := x - 1) (by omega)
  have e3 := wr_in (x := x + 1) (by omega)
  have e4 := wr_in (x := x + 2) (by omega)
  have e5 := wr_in (x := x + 3) (by omega)
  clear hp hb0
  go_enter Try.func37, Try.ntmps37
  go_wp2_with fail
  go_region_held3 (fun w' => w'.cell? ⟨w.heap.size, 0, none⟩ = some (.slice A n c) ∧ w'.cell? ⟨w.heap.size, 1, none⟩ = some (.int .i64 W) ∧ w'.cell? ⟨w.heap.size, 2, none⟩ = some (.int .i64 H) ∧ w.heap.size < w'.heap.size ∧ w.heap.size ≤ w'.heap.size ∧ Below w.heap.size w w')
    (first | (refine ⟨by simp [go_sem, *], by simp [go_sem, *], by simp [go_sem, *], by simp [go_sem] <;> omega, by simp [go_sem] <;> omega, (by repeat (first | exact Below.refl _ _ | assumption | refine Below.alloc ?_ (by first | omega | (simp <;> omega)) _ | refine Below.drew ?_ | refine Below.setCell ?_ (by first | omega | (simp <;> omega)) _))⟩) | (go_split_ands; refine ⟨(hbh0.cell (by simp <;> omega)).trans (by assumption), (hbh0.cell (by simp <;> omega)).trans (by assumption), (hbh0.cell (by simp <;> omega)).trans (by assumption), by have := hbh0.size; omega, by have := hbh0.size; omega, Below.trans (by assumption) (hbh0.mono (by omega))⟩) | go_keep)
    (first | (go_at_call 28; go_split_ands; refine (at2 A n c s W H _ _ w0 _ HP.out (below_two HB.out (by assumption)) ⟨by assumption, by assumption⟩ ⟨by assumption, by assumption⟩).mono ?_; rintro e wh0 ⟨rfl, hbh0⟩) | (go_at_call 44; refine (tapsA x y _ HP.out).mono ?_; rintro e w' ⟨rfl, rfl⟩))
  go_split_ands
  go_wp2_with fail
  go_ret
  exact ⟨rfl, by assumption⟩

set_option maxRecDepth 100000 in
set_option maxHeartbeats 1600000 in
theorem down2 (A : Option Addr) (n c : Nat) (s : Nat → Int) (W H x y : Int) (w0 w : World) (hp : Pv w0 A n s W H) (hb0 : Below w0.heap.size w0 w) (hx : -9000 ≤ x ∧ x ≤ 9000) (hy : -9000 ≤ y ∧ y ≤ 9000) :
    Calls Try.prog 38 #[.agg #[.slice A n c, .int .i64 W, .int .i64 H], .int .i64 x, .int .i64 y] w fun e w' => e = .returned (.int .i64 (dwn (atS s W H) x y)) ∧ Below w.heap.size w w' := by
  have HP := Lib.hid hp
  have HB := Lib.hid hb0
  have y0 : -10000 ≤ y ∧ y ≤ 10000 := by omega
  have x0 : -10000 ≤ x ∧ x ≤ 10000 := by omega
  have x1 : -10000 ≤ y - 2 ∧ y - 2 ≤ 10000 := by omega
  have x2 : -10000 ≤ y - 1 ∧ y - 1 ≤ 10000 := by omega
  have x3 : -10000 ≤ y + 1 ∧ y + 1 ≤ 10000 := by omega
  have x4 : -10000 ≤ y + 2 ∧ y + 2 ≤ 10000 := by omega
  have x5 : -10000 ≤ y + 3 ∧ y + 3 ≤ 10000 := by omega
  have X := Lib.hid (And.intro y0 (And.intro x0 (And.intro x1 (And.intro x2 (And.intro x3 (And.intro x4 x5))))))
  have e1 := wr_in (x := y - 2) (by omega)
  have e2 := wr_in (x := y - 1) (by omega)
  have e3 := wr_in (x := y + 1) (by omega)
  have e4 := wr_in (x := y + 2) (by omega)
  have e5 := wr_in (x := y + 3) (by omega)
  clear hp hb0
  go_enter Try.func38, Try.ntmps38
  go_wp2_with fail
  go_region_held3 (fun w' => w'.cell? ⟨w.heap.size, 0, none⟩ = some (.slice A n c) ∧ w'.cell? ⟨w.heap.size, 1, none⟩ = some (.int .i64 W) ∧ w'.cell? ⟨w.heap.size, 2, none⟩ = some (.int .i64 H) ∧ w.heap.size < w'.heap.size ∧ w.heap.size ≤ w'.heap.size ∧ Below w.heap.size w w')
    (first | (refine ⟨by simp [go_sem, *], by simp [go_sem, *], by simp [go_sem, *], by simp [go_sem] <;> omega, by simp [go_sem] <;> omega, (by repeat (first | exact Below.refl _ _ | assumption | refine Below.alloc ?_ (by first | omega | (simp <;> omega)) _ | refine Below.drew ?_ | refine Below.setCell ?_ (by first | omega | (simp <;> omega)) _))⟩) | (go_split_ands; refine ⟨(hbh0.cell (by simp <;> omega)).trans (by assumption), (hbh0.cell (by simp <;> omega)).trans (by assumption), (hbh0.cell (by simp <;> omega)).trans (by assumption), by have := hbh0.size; omega, by have := hbh0.size; omega, Below.trans (by assumption) (hbh0.mono (by omega))⟩) | go_keep)
    (first | (go_at_call 28; go_split_ands; refine (at2 A n c s W H _ _ w0 _ HP.out (below_two HB.out (by assumption)) ⟨by assumption, by assumption⟩ ⟨by assumption, by assumption⟩).mono ?_; rintro e wh0 ⟨rfl, hbh0⟩) | (go_at_call 44; refine (tapsD x y _ HP.out).mono ?_; rintro e w' ⟨rfl, rfl⟩))
  go_split_ands
  go_wp2_with fail
  go_ret
  exact ⟨rfl, by assumption⟩

theorem clip2_any (x : Int) (w : World) : Calls Try.prog 43 #[.int .i64 x] w fun e w' => e = .returned (.int .i64 (clip x)) ∧ w = w' := by
  go_enter Try.func43, Try.ntmps43
  go_wp2_with fail
  go_ret
  exact ⟨ret_int (by unfold clip; omega), rfl⟩
theorem of2_any (a b : Int) (w : World) (ha : 0 ≤ a ∧ a ≤ 255) (hb : 0 ≤ b ∧ b ≤ 255) : Calls Try.prog 39 #[.int .i64 a, .int .i64 b] w fun e w' => e = .returned (.int .i64 ((a + b + 1) / 2)) ∧ w = w' := by
  go_enter Try.func39, Try.ntmps39
  go_wp2_with fail
  go_ret
  exact ⟨rfl, rfl⟩
theorem half2_any (t : Int) (w : World) (ht : -300000 ≤ t ∧ t ≤ 500000) : Calls Try.prog 36 #[.int .i64 t] w fun e w' => e = .returned (.int .i64 (clip ((t + 16) / 32))) ∧ w = w' := by
  go_enter Try.func36, Try.ntmps36
  go_wp2_with fail
  refine (clip2_any _ _).mono ?_
  rintro e w' ⟨rfl, rfl⟩
  go_wp2_with fail
  go_ret
  exact ⟨rfl, rfl⟩

set_option maxRecDepth 1000000 in
set_option maxHeartbeats 1600000 in
theorem mid2 (A : Option Addr) (n c : Nat) (s : Nat → Int) (W H x y : Int) (w0 w : World) (hp : Pv w0 A n s W H) (hb0 : Below w0.heap.size w0 w) (hx : -8000 ≤ x ∧ x ≤ 8000) (hy : -8000 ≤ y ∧ y ≤ 8000) :
    Calls Try.prog 40 #[.agg #[.slice A n c, .int .i64 W, .int .i64 H], .int .i64 x, .int .i64 y] w fun e w' => e = .returned (.int .i64 (hJ (atS s W H) x y)) ∧ Below w.heap.size w w' := by
  have HP := Lib.hid hp
  have HB := Lib.hid hb0
  have y0 : -9000 ≤ y ∧ y ≤ 9000 := by omega
  have x0 : -9000 ≤ x ∧ x ≤ 9000 := by omega
  have x1 : -9000 ≤ y - 2 ∧ y - 2 ≤ 9000 := by omega
  have x2 : -9000 ≤ y - 1 ∧ y - 1 ≤ 9000 := by omega
  have x3 : -9000 ≤ y + 1 ∧ y + 1 ≤ 9000 := by omega
  have x4 : -9000 ≤ y + 2 ∧ y + 2 ≤ 9000 := by omega
  have x5 : -9000 ≤ y + 3 ∧ y + 3 ≤ 9000 := by omega
  have X := Lib.hid (And.intro y0 (And.intro x0 (And.intro x1 (And.intro x2 (And.intro x3 (And.intro x4 x5))))))
  have e1 := wr_in (x := y - 2) (by omega)
  have e2 := wr_in (x := y - 1) (by omega)
  have e3 := wr_in (x := y + 1) (by omega)
  have e4 := wr_in (x := y + 2) (by omega)
  have e5 := wr_in (x := y + 3) (by omega)
  clear hp hb0
  go_enter Try.func40, Try.ntmps40
  go_wp2_with fail
  go_region_held3 (fun w' => w'.cell? ⟨w.heap.size, 0, none⟩ = some (.slice A n c) ∧ w'.cell? ⟨w.heap.size, 1, none⟩ = some (.int .i64 W) ∧ w'.cell? ⟨w.heap.size, 2, none⟩ = some (.int .i64 H) ∧ w.heap.size < w'.heap.size ∧ w.heap.size ≤ w'.heap.size ∧ Below w.heap.size w w')
    (first | (refine ⟨by simp [go_sem, *], by simp [go_sem, *], by simp [go_sem, *], by simp [go_sem] <;> omega, by simp [go_sem] <;> omega, (by repeat (first | exact Below.refl _ _ | assumption | refine Below.alloc ?_ (by first | omega | (simp <;> omega)) _ | refine Below.drew ?_ | refine Below.setCell ?_ (by first | omega | (simp <;> omega)) _))⟩) | (go_split_ands; refine ⟨(hbh0.cell (by simp <;> omega)).trans (by assumption), (hbh0.cell (by simp <;> omega)).trans (by assumption), (hbh0.cell (by simp <;> omega)).trans (by assumption), by have := hbh0.size; omega, by have := hbh0.size; omega, Below.trans (by assumption) (hbh0.mono (by omega))⟩) | go_keep)
    (first | (go_at_call 37; go_split_ands; refine (across2 A n c s W H _ _ w0 _ HP.out (below_two HB.out (by assumption)) ⟨by assumption, by assumption⟩ ⟨by assumption, by assumption⟩).mono ?_; rintro e wh0 ⟨rfl, hbh0⟩) | (go_at_call 44; refine (tapsJ x y _ HP.out).mono ?_; rintro e w' ⟨rfl, rfl⟩))
  go_split_ands
  have hv := tt_bd (A := atS s W H) HP.out.val x y
  clear e1 e2 e3 e4 e5
  go_wp2_with fail
  refine (clip2_any _ _).mono ?_
  rintro e w' ⟨rfl, rfl⟩
  go_wp2_with fail
  go_ret
  exact ⟨rfl, by assumption⟩

end Go.Proofs.Ytoagihocibeidaa
