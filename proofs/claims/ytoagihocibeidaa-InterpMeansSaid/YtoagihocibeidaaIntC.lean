/- The program's half: every kind; kinds; may. -/
import Derived.Test.YtoagihocibeidaaIntB
namespace Go.Proofs.Ytoagihocibeidaa
open Go.RowKit
set_option linter.unusedVariables false
set_option linter.unusedSimpArgs false
attribute [local go_sem] ite_max ite_min

theorem clip_any (x : Int) (w : World) : Calls Try.prog 31 #[.int .i64 x] w fun e w' => e = .returned (.int .i64 (clip x)) ∧ w = w' := by
  go_enter Try.func31, Try.ntmps31
  go_wp2_with fail
  go_ret
  exact ⟨ret_int (by unfold clip; omega), rfl⟩

section
variable (g : Nat) (s : Nat → Int) (W H x y : Int) (w : World) (hp : Pl w g s W H) (hx : -8000 ≤ x ∧ x ≤ 8000) (hy : -8000 ≤ y ∧ y ≤ 8000)
include hp hx hy
omit hx hy in
theorem boxes : Below w.heap.size w (((w.alloc (.cells #[.pointer (some ⟨g, 0, none⟩)] 44)).alloc (.cells #[.int .i64 x] 3)).alloc (.cells #[.int .i64 y] 3)) ∧
    Pl (((w.alloc (.cells #[.pointer (some ⟨g, 0, none⟩)] 44)).alloc (.cells #[.int .i64 x] 3)).alloc (.cells #[.int .i64 y] 3)) g s W H :=
  ⟨(((Below.refl _ _).alloc (Nat.le_refl _) _).alloc (by simp) _).alloc (by simp; omega) _, ((hp.alloc _).alloc _).alloc _⟩

set_option maxHeartbeats 1600000 in
theorem half_b : Calls Try.prog 24 #[.pointer (some ⟨g, 0, none⟩), .int .i64 x, .int .i64 y, .int .i64 98] w fun e w' => e = .returned (.int .i64 (hB (atS s W H) x y)) ∧ Below w.heap.size w w' := by
  obtain ⟨hb0, hp0⟩ := boxes g s W H x y w hp
  have hv := acr_bd (A := atS s W H) hp.val x y
  have BB := Lib.hid hb0
  have HP := Lib.hid hp0
  clear hb0 hp0 hp
  go_enter Try.func24, Try.ntmps24
  go_wp2_with fail
  refine (across_any g s W H x y _ HP.out (by omega) (by omega)).mono ?_
  rintro e w2 ⟨rfl, hb⟩
  have BB := Lib.hid (BB.out.trans (hb.mono BB.out.size))
  clear hb
  go_wp2_with fail
  refine (clip_any _ _).mono ?_
  rintro e w' ⟨rfl, rfl⟩
  go_wp2_with fail
  go_ret
  exact ⟨rfl, BB.out⟩
set_option maxHeartbeats 1600000 in
theorem half_h : Calls Try.prog 24 #[.pointer (some ⟨g, 0, none⟩), .int .i64 x, .int .i64 y, .int .i64 104] w fun e w' => e = .returned (.int .i64 (hH (atS s W H) x y)) ∧ Below w.heap.size w w' := by
  obtain ⟨hb0, hp0⟩ := boxes g s W H x y w hp
  have hv := dwn_bd (A := atS s W H) hp.val x y
  have BB := Lib.hid hb0
  have HP := Lib.hid hp0
  clear hb0 hp0 hp
  go_enter Try.func24, Try.ntmps24
  go_wp2_with fail
  refine (down_any g s W H x y _ HP.out (by omega) (by omega)).mono ?_
  rintro e w2 ⟨rfl, hb⟩
  have BB := Lib.hid (BB.out.trans (hb.mono BB.out.size))
  clear hb
  go_wp2_with fail
  refine (clip_any _ _).mono ?_
  rintro e w' ⟨rfl, rfl⟩
  go_wp2_with fail
  go_ret
  exact ⟨rfl, BB.out⟩
end
set_option maxHeartbeats 1600000 in
theorem half1_any (gp gx gy : Nat) (g : Nat) (s : Nat → Int) (W H x y : Int) (w : World) (hp : Pl w g s W H) (hc : Cap3 w gp gx gy g x y) (hx : -8000 ≤ x ∧ x ≤ 8000) (hy : -8000 ≤ y ∧ y ≤ 8000) :
    Gv w 35 [.pointer (some ⟨gp, 0, none⟩), .pointer (some ⟨gx, 0, none⟩), .pointer (some ⟨gy, 0, none⟩)] (fun i => acr (atS s W H) x (y + i)) := by
  intro i w1 hi hb
  have HP := Lib.hid (hp.go hb)
  have c0 : w1.cell? ⟨gp, 0, none⟩ = some (.pointer (some ⟨g, 0, none⟩)) := (hc.1.go hb).cell 0
  have c1 : w1.cell? ⟨gx, 0, none⟩ = some (.int .i64 x) := (hc.2.1.go hb).cell 0
  have c2 : w1.cell? ⟨gy, 0, none⟩ = some (.int .i64 y) := (hc.2.2.go hb).cell 0
  clear hp hc hb
  show Calls Try.prog 35 #[.int .i64 i, .pointer (some ⟨gp, 0, none⟩), .pointer (some ⟨gx, 0, none⟩), .pointer (some ⟨gy, 0, none⟩)] w1 _
  go_enter Try.func35, Try.ntmps35
  go_wp2_with fail
  refine (across_any g s W H _ _ _ HP.out (by omega) (by omega)).mono ?_
  rintro e w2 ⟨rfl, hb⟩
  have BB := Lib.hid hb
  clear hb
  go_wp2_with fail
  go_ret
  exact ⟨rfl, BB.out⟩

section
variable (g : Nat) (s : Nat → Int) (W H x y : Int) (w : World) (hp : Pl w g s W H) (hx : -7000 ≤ x ∧ x ≤ 7000) (hy : -7000 ≤ y ∧ y ≤ 7000)
include hp hx hy
set_option maxHeartbeats 1600000 in
theorem half_j : Calls Try.prog 24 #[.pointer (some ⟨g, 0, none⟩), .int .i64 x, .int .i64 y, .int .i64 106] w fun e w' => e = .returned (.int .i64 (hJ (atS s W H) x y)) ∧ Below w.heap.size w w' := by
  have hmf : ∀ (fn : Fn) (first cap : Array Value) (w : World), (Instr.makeFunc fn first cap).run Try.prog w = .ok (.func fn first cap) w := fun _ _ _ _ => rfl
  obtain ⟨hb0, hp0⟩ := boxes g s W H x y w hp
  have hv := tt_bd (A := atS s W H) hp.val x y
  have hac := fun i => acr_bd (A := atS s W H) hp.val x (y + i)
  have HC := Lib.hid (taps_J _ _ _ _ _ (half1_any w.heap.size (w.heap.size + 1) (w.heap.size + 2) g s W H x y (((w.alloc (.cells #[.pointer (some ⟨g, 0, none⟩)] 44)).alloc (.cells #[.int .i64 x] 3)).alloc (.cells #[.int .i64 y] 3)) hp0
    ⟨((Bk.new _ _ _).alloc _).alloc _, by simpa using (Bk.new (w.alloc (.cells #[.pointer (some ⟨g, 0, none⟩)] 44)) 3 #[.int .i64 x]).alloc (.cells #[.int .i64 y] 3), by simpa using Bk.new ((w.alloc (.cells #[.pointer (some ⟨g, 0, none⟩)] 44)).alloc (.cells #[.int .i64 x] 3)) 3 #[.int .i64 y]⟩ (by omega) (by omega)) (fun i => by have := hac i; omega))
  have BB := Lib.hid hb0
  clear hb0 hp0 hp hac
  go_enter Try.func24, Try.ntmps24
  go_wp2_with fail
  refine HC.out.mono ?_
  rintro e w2 ⟨rfl, hb⟩
  have BB := Lib.hid (BB.out.trans (hb.mono BB.out.size))
  clear hb
  go_wp2_with fail
  refine (clip_any _ _).mono ?_
  rintro e w' ⟨rfl, rfl⟩
  go_wp2_with fail
  go_ret
  exact ⟨rfl, BB.out⟩
set_option maxHeartbeats 1600000 in
theorem half_m : Calls Try.prog 24 #[.pointer (some ⟨g, 0, none⟩), .int .i64 x, .int .i64 y, .int .i64 109] w fun e w' => e = .returned (.int .i64 (hH (atS s W H) (x + 1) y)) ∧ Below w.heap.size w w' := by
  obtain ⟨hb0, hp0⟩ := boxes g s W H x y w hp
  have BB := Lib.hid hb0
  have HP := Lib.hid hp0
  clear hb0 hp0 hp
  go_enter Try.func24, Try.ntmps24
  go_wp2_with fail
  refine (half_h g s W H _ _ _ HP.out (by omega) (by omega)).mono ?_
  rintro e w2 ⟨rfl, hb⟩
  have BB := Lib.hid (BB.out.trans (hb.mono BB.out.size))
  clear hb
  go_wp2_with fail
  go_ret
  exact ⟨rfl, BB.out⟩
set_option maxHeartbeats 1600000 in
theorem half_s : Calls Try.prog 24 #[.pointer (some ⟨g, 0, none⟩), .int .i64 x, .int .i64 y, .int .i64 115] w fun e w' => e = .returned (.int .i64 (hB (atS s W H) x (y + 1))) ∧ Below w.heap.size w w' := by
  obtain ⟨hb0, hp0⟩ := boxes g s W H x y w hp
  have BB := Lib.hid hb0
  have HP := Lib.hid hp0
  clear hb0 hp0 hp
  go_enter Try.func24, Try.ntmps24
  go_wp2_with fail
  refine (half_b g s W H _ _ _ HP.out (by omega) (by omega)).mono ?_
  rintro e w2 ⟨rfl, hb⟩
  have BB := Lib.hid (BB.out.trans (hb.mono BB.out.size))
  clear hb
  go_wp2_with fail
  go_ret
  exact ⟨rfl, BB.out⟩
set_option maxHeartbeats 1600000 in
theorem half_r : Calls Try.prog 24 #[.pointer (some ⟨g, 0, none⟩), .int .i64 x, .int .i64 y, .int .i64 114] w fun e w' => e = .returned (.int .i64 (atS s W H (x + 1) y)) ∧ Below w.heap.size w w' := by
  obtain ⟨hb0, hp0⟩ := boxes g s W H x y w hp
  have BB := Lib.hid hb0
  have HP := Lib.hid hp0
  clear hb0 hp0 hp
  go_enter Try.func24, Try.ntmps24
  go_wp2_with fail
  refine (at1 g s W H _ _ _ HP.out (by omega) (by omega)).mono ?_
  rintro e w2 ⟨rfl, hb⟩
  have BB := Lib.hid (BB.out.trans (hb.mono BB.out.size))
  clear hb
  go_wp2_with fail
  go_ret
  exact ⟨rfl, BB.out⟩
set_option maxHeartbeats 1600000 in
theorem half_l : Calls Try.prog 24 #[.pointer (some ⟨g, 0, none⟩), .int .i64 x, .int .i64 y, .int .i64 108] w fun e w' => e = .returned (.int .i64 (atS s W H x (y + 1))) ∧ Below w.heap.size w w' := by
  obtain ⟨hb0, hp0⟩ := boxes g s W H x y w hp
  have BB := Lib.hid hb0
  have HP := Lib.hid hp0
  clear hb0 hp0 hp
  go_enter Try.func24, Try.ntmps24
  go_wp2_with fail
  refine (at1 g s W H _ _ _ HP.out (by omega) (by omega)).mono ?_
  rintro e w2 ⟨rfl, hb⟩
  have BB := Lib.hid (BB.out.trans (hb.mono BB.out.size))
  clear hb
  go_wp2_with fail
  go_ret
  exact ⟨rfl, BB.out⟩
set_option maxHeartbeats 1600000 in
theorem half_G : Calls Try.prog 24 #[.pointer (some ⟨g, 0, none⟩), .int .i64 x, .int .i64 y, .int .i64 71] w fun e w' => e = .returned (.int .i64 (atS s W H x y)) ∧ Below w.heap.size w w' := by
  obtain ⟨hb0, hp0⟩ := boxes g s W H x y w hp
  have BB := Lib.hid hb0
  have HP := Lib.hid hp0
  clear hb0 hp0 hp
  go_enter Try.func24, Try.ntmps24
  go_wp2_with fail
  refine (at1 g s W H _ _ _ HP.out (by omega) (by omega)).mono ?_
  rintro e w2 ⟨rfl, hb⟩
  have BB := Lib.hid (BB.out.trans (hb.mono BB.out.size))
  clear hb
  go_wp2_with fail
  go_ret
  exact ⟨rfl, BB.out⟩
theorem half_any (k : Nat) (hk : k ∈ [71, 98, 104, 106, 109, 115, 114, 108]) : Calls Try.prog 24 #[.pointer (some ⟨g, 0, none⟩), .int .i64 x, .int .i64 y, .int .i64 k] w fun e w' => e = .returned (.int .i64 (kd (atS s W H) k x y)) ∧ Below w.heap.size w w' := by
  simp only [List.mem_cons, List.not_mem_nil, or_false] at hk
  rcases hk with rfl | rfl | rfl | rfl | rfl | rfl | rfl | rfl
  · exact half_G g s W H x y w hp hx hy
  · exact half_b g s W H x y w hp (by omega) (by omega)
  · exact half_h g s W H x y w hp (by omega) (by omega)
  · exact half_j g s W H x y w hp hx hy
  · exact half_m g s W H x y w hp hx hy
  · exact half_s g s W H x y w hp hx hy
  · exact half_r g s W H x y w hp hx hy
  · exact half_l g s W H x y w hp hx hy
end

end Go.Proofs.Ytoagihocibeidaa
