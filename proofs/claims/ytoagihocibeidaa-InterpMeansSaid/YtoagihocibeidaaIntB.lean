/- The program's at, taps, across, down, half. -/
import Derived.Test.YtoagihocibeidaaIntA
import Derived.Test.YtoagihocibeidaaTouch
import Derived.IntWalk
namespace Go.Proofs.Ytoagihocibeidaa
open Go.RowKit
set_option linter.unusedVariables false
set_option linter.unusedSimpArgs false
attribute [local go_sem] ite_max ite_min

/-- A plane's samples: behind A lie n bytes, n = W * H. -/
def Rb (w : World) (A : Option Addr) (n : Nat) (s : Nat → Int) : Prop := Rd w w.heap.size A n fun k => .int .u8 (s k)
/-- The program's plane in block g. -/
def Pl (w : World) (g : Nat) (s : Nat → Int) (W H : Int) : Prop :=
  ∃ (A : Option Addr) (n c : Nat), Bk w g 46 #[.slice A n c, .int .i64 W, .int .i64 H] ∧ Rb w A n s ∧ (n : Int) = W * H ∧ (1 ≤ W ∧ W ≤ 128) ∧ (1 ≤ H ∧ H ≤ 128) ∧ ∀ k, 0 ≤ s k ∧ s k ≤ 255
theorem Pl.go {w w' : World} {g : Nat} {s : Nat → Int} {W H : Int} (h : Pl w g s W H) (hb : Below w.heap.size w w') : Pl w' g s W H := by
  obtain ⟨A, n, c, h1, h2, h3⟩ := h
  exact ⟨A, n, c, h1.go hb, (h2.below hb (Nat.le_refl _)).more hb.size, h3⟩
theorem Pl.alloc {w : World} {g : Nat} {s : Nat → Int} {W H : Int} (h : Pl w g s W H) (o : Obj) : Pl (w.alloc o) g s W H := h.go ((Below.refl _ _).alloc (Nat.le_refl _) o)

set_option maxHeartbeats 1600000 in
theorem at1 (g : Nat) (s : Nat → Int) (W H x y : Int) (w : World) (hp : Pl w g s W H) (hx : -10000 ≤ x ∧ x ≤ 10000) (hy : -10000 ≤ y ∧ y ≤ 10000) :
    Calls Try.prog 27 #[.pointer (some ⟨g, 0, none⟩), .int .i64 x, .int .i64 y] w fun e w' => e = .returned (.int .i64 (atS s W H x y)) ∧ Below w.heap.size w w' := by
  obtain ⟨A, n, c, hbk, hr, hn, hW, hH, hs⟩ := hp
  have c0 : w.cell? ⟨g, 0, none⟩ = some (.slice A n c) := hbk.cell 0
  have c1 : w.cell? ⟨g, 1, none⟩ = some (.int .i64 W) := hbk.cell 1
  have c2 : w.cell? ⟨g, 2, none⟩ = some (.int .i64 H) := hbk.cell 2
  have hbd := atI_bd W H x y hW hH
  have hlt : atI W H x y < n := by unfold atI; omega
  obtain ⟨ad, rfl, hb, hc⟩ := hr.at_ hlt
  have hsv := hs (atI W H x y)
  have e1 : IntKind.i64.wrap (W - 1) = W - 1 := IntWalk.i64_in _ (by omega)
  have e2 : IntKind.i64.wrap (H - 1) = H - 1 := IntWalk.i64_in _ (by omega)
  have e3 : min (max x 0) (W - 1) = cl x W := by unfold cl; omega
  have e4 : min (max y 0) (H - 1) = cl y H := by unfold cl; omega
  obtain ⟨m, hm⟩ : ∃ m, m = cl y H * W := ⟨_, rfl⟩
  rw [← hm] at hbd
  have e5 : IntKind.i64.wrap (cl y H * W) = m := by rw [← hm]; exact IntWalk.i64_in _ (by omega)
  have e6 : IntKind.i64.wrap (m + cl x W) = m + cl x W := IntWalk.i64_in _ (by omega)
  have e7 : (m + cl x W).toNat = atI W H x y := by unfold atI; rw [hm]
  have q1 : 0 ≤ m + cl x W := by omega
  have q2 : m + cl x W < (n : Int) := by omega
  have HS : Hid (atS s W H x y = s (atI W H x y)) := Lib.hid rfl
  have HB := Lib.hid hbk
  have HR := Lib.hid hr
  have HQ := Lib.hid hs
  have HM := Lib.hid hm
  clear hbk hr hs hm hn hlt
  go_enter Try.func27, Try.ntmps27
  go_wp2_with fail
  go_quiet (fail)
  go_wp2_with fail
  go_quiet (fail)
  go_wp2_with fail
  go_ret
  exact ⟨ret_int HS.out.symm, ⟨rfl, rfl, rfl, Nat.le_refl _, fun _ _ => rfl⟩⟩

/-- What a closure gives: F of its number, in every world that has grown from w. -/
def Gv (w : World) (K : FuncId) (caps : List Value) (F : Int → Int) : Prop :=
  ∀ (i : Int) (w1 : World), -2 ≤ i ∧ i ≤ 3 → Below w.heap.size w w1 → Calls Try.prog K (.int .i64 i :: caps).toArray w1 fun e w' => e = .returned (.int .i64 (F i)) ∧ Below w1.heap.size w1 w'

theorem Gv.at_ {w w1 : World} {K : FuncId} {caps : List Value} {F : Int → Int} (h : Gv w K caps F) (hb : Below w.heap.size w w1) (i : Int) (hi : -2 ≤ i ∧ i ≤ 3) :
    Calls Try.prog K (.int .i64 i :: caps).toArray w1 fun e w' => e = .returned (.int .i64 (F i)) ∧ Below w1.heap.size w1 w' := h i w1 hi hb

set_option maxHeartbeats 1600000 in
theorem taps_A (a b c : Value) (F : Int → Int) (w : World) (h : Gv w 41 [a, b, c] F) (hF : ∀ i, -100000 ≤ F i ∧ F i ≤ 100000) :
    Calls Try.prog 34 #[.func (.func 41) #[] #[a, b, c]] w fun e w' => e = .returned (.int .i64 (tap F)) ∧ Below w.heap.size w w' := by
  have HG := Lib.hid h
  have BB := Lib.hid (Below.refl w.heap.size w)
  have f1 := hF (-2)
  have f2 := hF (-1)
  have f3 := hF 0
  have f4 := hF 1
  have f5 := hF 2
  have f6 := hF 3
  clear hF h
  go_enter Try.func34, Try.ntmps34
  go_wp2_with fail
  refine (HG.out.at_ BB.out (-2) (by omega)).mono ?_
  rintro e w1 ⟨rfl, hb⟩
  have BB := Lib.hid (BB.out.trans (hb.mono BB.out.size))
  clear hb
  go_wp2_with fail
  refine (HG.out.at_ BB.out (-1) (by omega)).mono ?_
  rintro e w1 ⟨rfl, hb⟩
  have BB := Lib.hid (BB.out.trans (hb.mono BB.out.size))
  clear hb
  go_wp2_with fail
  refine (HG.out.at_ BB.out (0) (by omega)).mono ?_
  rintro e w1 ⟨rfl, hb⟩
  have BB := Lib.hid (BB.out.trans (hb.mono BB.out.size))
  clear hb
  go_wp2_with fail
  refine (HG.out.at_ BB.out (1) (by omega)).mono ?_
  rintro e w1 ⟨rfl, hb⟩
  have BB := Lib.hid (BB.out.trans (hb.mono BB.out.size))
  clear hb
  go_wp2_with fail
  refine (HG.out.at_ BB.out (2) (by omega)).mono ?_
  rintro e w1 ⟨rfl, hb⟩
  have BB := Lib.hid (BB.out.trans (hb.mono BB.out.size))
  clear hb
  go_wp2_with fail
  refine (HG.out.at_ BB.out (3) (by omega)).mono ?_
  rintro e w1 ⟨rfl, hb⟩
  have BB := Lib.hid (BB.out.trans (hb.mono BB.out.size))
  clear hb
  go_wp2_with fail
  go_ret
  exact ⟨ret_int (by unfold tap; omega), BB.out⟩

set_option maxHeartbeats 1600000 in
theorem taps_D (a b c : Value) (F : Int → Int) (w : World) (h : Gv w 42 [a, b, c] F) (hF : ∀ i, -100000 ≤ F i ∧ F i ≤ 100000) :
    Calls Try.prog 34 #[.func (.func 42) #[] #[a, b, c]] w fun e w' => e = .returned (.int .i64 (tap F)) ∧ Below w.heap.size w w' := by
  have HG := Lib.hid h
  have BB := Lib.hid (Below.refl w.heap.size w)
  have f1 := hF (-2)
  have f2 := hF (-1)
  have f3 := hF 0
  have f4 := hF 1
  have f5 := hF 2
  have f6 := hF 3
  clear hF h
  go_enter Try.func34, Try.ntmps34
  go_wp2_with fail
  refine (HG.out.at_ BB.out (-2) (by omega)).mono ?_
  rintro e w1 ⟨rfl, hb⟩
  have BB := Lib.hid (BB.out.trans (hb.mono BB.out.size))
  clear hb
  go_wp2_with fail
  refine (HG.out.at_ BB.out (-1) (by omega)).mono ?_
  rintro e w1 ⟨rfl, hb⟩
  have BB := Lib.hid (BB.out.trans (hb.mono BB.out.size))
  clear hb
  go_wp2_with fail
  refine (HG.out.at_ BB.out (0) (by omega)).mono ?_
  rintro e w1 ⟨rfl, hb⟩
  have BB := Lib.hid (BB.out.trans (hb.mono BB.out.size))
  clear hb
  go_wp2_with fail
  refine (HG.out.at_ BB.out (1) (by omega)).mono ?_
  rintro e w1 ⟨rfl, hb⟩
  have BB := Lib.hid (BB.out.trans (hb.mono BB.out.size))
  clear hb
  go_wp2_with fail
  refine (HG.out.at_ BB.out (2) (by omega)).mono ?_
  rintro e w1 ⟨rfl, hb⟩
  have BB := Lib.hid (BB.out.trans (hb.mono BB.out.size))
  clear hb
  go_wp2_with fail
  refine (HG.out.at_ BB.out (3) (by omega)).mono ?_
  rintro e w1 ⟨rfl, hb⟩
  have BB := Lib.hid (BB.out.trans (hb.mono BB.out.size))
  clear hb
  go_wp2_with fail
  go_ret
  exact ⟨ret_int (by unfold tap; omega), BB.out⟩

set_option maxHeartbeats 1600000 in
theorem taps_J (a b c : Value) (F : Int → Int) (w : World) (h : Gv w 35 [a, b, c] F) (hF : ∀ i, -100000 ≤ F i ∧ F i ≤ 100000) :
    Calls Try.prog 34 #[.func (.func 35) #[] #[a, b, c]] w fun e w' => e = .returned (.int .i64 (tap F)) ∧ Below w.heap.size w w' := by
  have HG := Lib.hid h
  have BB := Lib.hid (Below.refl w.heap.size w)
  have f1 := hF (-2)
  have f2 := hF (-1)
  have f3 := hF 0
  have f4 := hF 1
  have f5 := hF 2
  have f6 := hF 3
  clear hF h
  go_enter Try.func34, Try.ntmps34
  go_wp2_with fail
  refine (HG.out.at_ BB.out (-2) (by omega)).mono ?_
  rintro e w1 ⟨rfl, hb⟩
  have BB := Lib.hid (BB.out.trans (hb.mono BB.out.size))
  clear hb
  go_wp2_with fail
  refine (HG.out.at_ BB.out (-1) (by omega)).mono ?_
  rintro e w1 ⟨rfl, hb⟩
  have BB := Lib.hid (BB.out.trans (hb.mono BB.out.size))
  clear hb
  go_wp2_with fail
  refine (HG.out.at_ BB.out (0) (by omega)).mono ?_
  rintro e w1 ⟨rfl, hb⟩
  have BB := Lib.hid (BB.out.trans (hb.mono BB.out.size))
  clear hb
  go_wp2_with fail
  refine (HG.out.at_ BB.out (1) (by omega)).mono ?_
  rintro e w1 ⟨rfl, hb⟩
  have BB := Lib.hid (BB.out.trans (hb.mono BB.out.size))
  clear hb
  go_wp2_with fail
  refine (HG.out.at_ BB.out (2) (by omega)).mono ?_
  rintro e w1 ⟨rfl, hb⟩
  have BB := Lib.hid (BB.out.trans (hb.mono BB.out.size))
  clear hb
  go_wp2_with fail
  refine (HG.out.at_ BB.out (3) (by omega)).mono ?_
  rintro e w1 ⟨rfl, hb⟩
  have BB := Lib.hid (BB.out.trans (hb.mono BB.out.size))
  clear hb
  go_wp2_with fail
  go_ret
  exact ⟨ret_int (by unfold tap; omega), BB.out⟩

section
variable (g : Nat) (s : Nat → Int) (W H : Int)
/-- the blocks of three captured variables -/
def Cap3 (w : World) (gp gx gy g : Nat) (x y : Int) : Prop := Bk w gp 44 #[.pointer (some ⟨g, 0, none⟩)] ∧ Bk w gx 3 #[.int .i64 x] ∧ Bk w gy 3 #[.int .i64 y]

theorem across1_any (gp gx gy : Nat) (x y : Int) (w : World) (hp : Pl w g s W H) (hc : Cap3 w gp gx gy g x y) (hx : -9000 ≤ x ∧ x ≤ 9000) (hy : -9000 ≤ y ∧ y ≤ 9000) :
    Gv w 41 [.pointer (some ⟨gp, 0, none⟩), .pointer (some ⟨gx, 0, none⟩), .pointer (some ⟨gy, 0, none⟩)] (fun i => atS s W H (x + i) y) := by
  intro i w1 hi hb
  have HP := Lib.hid (hp.go hb)
  have c0 : w1.cell? ⟨gp, 0, none⟩ = some (.pointer (some ⟨g, 0, none⟩)) := (hc.1.go hb).cell 0
  have c1 : w1.cell? ⟨gx, 0, none⟩ = some (.int .i64 x) := (hc.2.1.go hb).cell 0
  have c2 : w1.cell? ⟨gy, 0, none⟩ = some (.int .i64 y) := (hc.2.2.go hb).cell 0
  clear hp hc hb
  show Calls Try.prog 41 #[.int .i64 i, .pointer (some ⟨gp, 0, none⟩), .pointer (some ⟨gx, 0, none⟩), .pointer (some ⟨gy, 0, none⟩)] w1 _
  go_enter Try.func41, Try.ntmps41
  go_wp2_with fail
  refine (at1 g s W H _ _ _ HP.out (by omega) (by omega)).mono ?_
  rintro e w2 ⟨rfl, hb⟩
  have BB := Lib.hid hb
  clear hb
  go_wp2_with fail
  go_ret
  exact ⟨rfl, BB.out⟩
theorem down1_any (gp gx gy : Nat) (x y : Int) (w : World) (hp : Pl w g s W H) (hc : Cap3 w gp gx gy g x y) (hx : -9000 ≤ x ∧ x ≤ 9000) (hy : -9000 ≤ y ∧ y ≤ 9000) :
    Gv w 42 [.pointer (some ⟨gp, 0, none⟩), .pointer (some ⟨gx, 0, none⟩), .pointer (some ⟨gy, 0, none⟩)] (fun i => atS s W H x (y + i)) := by
  intro i w1 hi hb
  have HP := Lib.hid (hp.go hb)
  have c0 : w1.cell? ⟨gp, 0, none⟩ = some (.pointer (some ⟨g, 0, none⟩)) := (hc.1.go hb).cell 0
  have c1 : w1.cell? ⟨gx, 0, none⟩ = some (.int .i64 x) := (hc.2.1.go hb).cell 0
  have c2 : w1.cell? ⟨gy, 0, none⟩ = some (.int .i64 y) := (hc.2.2.go hb).cell 0
  clear hp hc hb
  show Calls Try.prog 42 #[.int .i64 i, .pointer (some ⟨gp, 0, none⟩), .pointer (some ⟨gx, 0, none⟩), .pointer (some ⟨gy, 0, none⟩)] w1 _
  go_enter Try.func42, Try.ntmps42
  go_wp2_with fail
  refine (at1 g s W H _ _ _ HP.out (by omega) (by omega)).mono ?_
  rintro e w2 ⟨rfl, hb⟩
  have BB := Lib.hid hb
  clear hb
  go_wp2_with fail
  go_ret
  exact ⟨rfl, BB.out⟩
end

theorem Pl.val {w : World} {g : Nat} {s : Nat → Int} {W H : Int} (h : Pl w g s W H) (x y : Int) : 0 ≤ atS s W H x y ∧ atS s W H x y ≤ 255 := by
  obtain ⟨_, _, _, _, _, _, _, _, hs⟩ := h
  exact hs _

set_option maxHeartbeats 1600000 in
theorem across_any (g : Nat) (s : Nat → Int) (W H x y : Int) (w : World) (hp : Pl w g s W H) (hx : -9000 ≤ x ∧ x ≤ 9000) (hy : -9000 ≤ y ∧ y ≤ 9000) :
    Calls Try.prog 32 #[.pointer (some ⟨g, 0, none⟩), .int .i64 x, .int .i64 y] w fun e w' => e = .returned (.int .i64 (acr (atS s W H) x y)) ∧ Below w.heap.size w w' := by
  have hmf : ∀ (fn : Fn) (first cap : Array Value) (w : World), (Instr.makeFunc fn first cap).run Try.prog w = .ok (.func fn first cap) w := fun _ _ _ _ => rfl
  have hv := hp.val
  have hw : Below w.heap.size w (((w.alloc (.cells #[.pointer (some ⟨g, 0, none⟩)] 44)).alloc (.cells #[.int .i64 x] 3)).alloc (.cells #[.int .i64 y] 3)) := (((Below.refl _ _).alloc (Nat.le_refl _) _).alloc (by simp) _).alloc (by simp; omega) _
  have HC := Lib.hid (taps_A _ _ _ _ _ (across1_any g s W H w.heap.size (w.heap.size + 1) (w.heap.size + 2) x y (((w.alloc (.cells #[.pointer (some ⟨g, 0, none⟩)] 44)).alloc (.cells #[.int .i64 x] 3)).alloc (.cells #[.int .i64 y] 3)) (hp.go hw)
    ⟨((Bk.new _ _ _).alloc _).alloc _, by simpa using (Bk.new (w.alloc (.cells #[.pointer (some ⟨g, 0, none⟩)] 44)) 3 #[.int .i64 x]).alloc (.cells #[.int .i64 y] 3), by simpa using Bk.new ((w.alloc (.cells #[.pointer (some ⟨g, 0, none⟩)] 44)).alloc (.cells #[.int .i64 x] 3)) 3 #[.int .i64 y]⟩ hx hy) (fun i => by have := hv (x + i) y; omega))
  have HW := Lib.hid hw
  clear hp hv hw
  go_enter Try.func32, Try.ntmps32
  go_wp2_with fail
  refine HC.out.mono ?_
  rintro e w2 ⟨rfl, hb⟩
  have BB := Lib.hid (HW.out.trans (hb.mono HW.out.size))
  clear hb
  go_wp2_with fail
  go_ret
  exact ⟨rfl, BB.out⟩
set_option maxHeartbeats 1600000 in
theorem down_any (g : Nat) (s : Nat → Int) (W H x y : Int) (w : World) (hp : Pl w g s W H) (hx : -9000 ≤ x ∧ x ≤ 9000) (hy : -9000 ≤ y ∧ y ≤ 9000) :
    Calls Try.prog 33 #[.pointer (some ⟨g, 0, none⟩), .int .i64 x, .int .i64 y] w fun e w' => e = .returned (.int .i64 (dwn (atS s W H) x y)) ∧ Below w.heap.size w w' := by
  have hmf : ∀ (fn : Fn) (first cap : Array Value) (w : World), (Instr.makeFunc fn first cap).run Try.prog w = .ok (.func fn first cap) w := fun _ _ _ _ => rfl
  have hv := hp.val
  have hw : Below w.heap.size w (((w.alloc (.cells #[.pointer (some ⟨g, 0, none⟩)] 44)).alloc (.cells #[.int .i64 x] 3)).alloc (.cells #[.int .i64 y] 3)) := (((Below.refl _ _).alloc (Nat.le_refl _) _).alloc (by simp) _).alloc (by simp; omega) _
  have HC := Lib.hid (taps_D _ _ _ _ _ (down1_any g s W H w.heap.size (w.heap.size + 1) (w.heap.size + 2) x y (((w.alloc (.cells #[.pointer (some ⟨g, 0, none⟩)] 44)).alloc (.cells #[.int .i64 x] 3)).alloc (.cells #[.int .i64 y] 3)) (hp.go hw)
    ⟨((Bk.new _ _ _).alloc _).alloc _, by simpa using (Bk.new (w.alloc (.cells #[.pointer (some ⟨g, 0, none⟩)] 44)) 3 #[.int .i64 x]).alloc (.cells #[.int .i64 y] 3), by simpa using Bk.new ((w.alloc (.cells #[.pointer (some ⟨g, 0, none⟩)] 44)).alloc (.cells #[.int .i64 x] 3)) 3 #[.int .i64 y]⟩ hx hy) (fun i => by have := hv x (y + i); omega))
  have HW := Lib.hid hw
  clear hp hv hw
  go_enter Try.func33, Try.ntmps33
  go_wp2_with fail
  refine HC.out.mono ?_
  rintro e w2 ⟨rfl, hb⟩
  have BB := Lib.hid (HW.out.trans (hb.mono HW.out.size))
  clear hb
  go_wp2_with fail
  go_ret
  exact ⟨rfl, BB.out⟩

end Go.Proofs.Ytoagihocibeidaa
