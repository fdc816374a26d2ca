/- Blocks of coefficients: the program's Get. -/
import Derived.Test.YtocooplmfkeepaaLevF
namespace Go.Proofs.Ytocooplmfkeepaa
open Go.RowKit
set_option linter.unusedVariables false
set_option linter.unusedSimpArgs false

def sizeI (x : Int) : Bool := x == 4 || x == 15 || x == 16
theorem sizeI_nat (k : Nat) : sizeI k = sizeOk k := by
  have e4 : ((k : Int) == 4) = (k == 4) := by rw [Bool.eq_iff_iff]; simp; omega
  have e15 : ((k : Int) == 15) = (k == 15) := by rw [Bool.eq_iff_iff]; simp; omega
  have e16 : ((k : Int) == 16) = (k == 16) := by rw [Bool.eq_iff_iff]; simp; omega
  unfold sizeI sizeOk
  rw [e4, e15, e16]
theorem sizei_any (x : Int) (w : World) : Calls Try.prog 34 #[.int .i64 x] w fun e w' => e = .returned (.bool (sizeI x)) ∧ w = w' := by
  unfold sizeI
  cases h4 : (x == 4) <;> cases h15 : (x == 15) <;> cases h16 : (x == 16)
  all_goals
    go_enter Try.func34, Try.ntmps34
    go_wp2_with fail
    go_ret
    exact ⟨rfl, rfl⟩
theorem sizei2_any (x : Int) (w : World) : Calls Try.prog 37 #[.int .i64 x] w fun e w' => e = .returned (.bool (sizeI x)) ∧ w = w' := by
  unfold sizeI
  cases h4 : (x == 4) <;> cases h15 : (x == 15) <;> cases h16 : (x == 16)
  all_goals
    go_enter Try.func37, Try.ntmps37
    go_wp2_with fail
    go_ret
    exact ⟨rfl, rfl⟩
def TG (w : World) (g : Nat) (s : ByteArray) (a size : Nat) (r : Except Int ((Nat → Int) × Nat)) (e : Ending) (w' : World) : Prop :=
  match r with
  | .ok (z, b) => ∃ O, e = .returned (.tuple #[.slice (some ⟨O, 0, none⟩) size size, .int .i64 0]) ∧ w.heap.size ≤ O ∧ Ar w' O size (fun k => .int .i64 (z k)) ∧ b ≤ 8 * s.size ∧ RPost w g s b w'
  | .error c => e = .returned (.tuple #[.slice none 0 0, .int .i64 c]) ∧ RPost w g s a w'

set_option maxRecDepth 100000 in
set_option maxHeartbeats 3200000 in
theorem lget_no (g : Nat) (s : ByteArray) (a : Nat) (x : Int) (w : World) (h : Rr w g s a) (hx : sizeI x = false) :
    Calls Try.prog 25 #[.pointer (some ⟨g, 0, none⟩), .int .i64 x] w fun e w' => e = .returned (.tuple #[.slice none 0 0, .int .i64 700]) ∧ RPost w g s a w' := by
  have HH := Lib.hid h
  clear h
  go_enter_defers Try.func25, Try.ntmps25
  go_wp2_with fail
  refine (sizei_any x _).mono ?_
  rintro e w' ⟨rfl, rfl⟩
  rw [hx]
  go_wp2_with fail
  have hf : RPost w g s a (((w.alloc (.cells #[.pointer (some ⟨g, 0, none⟩)] 40)).alloc (.cells #[.slice none 0 0] 22)).alloc (.cells #[.int .i64 700] 25)) :=
    ⟨((HH.out.alloc _).alloc _).alloc _, (((Touch.refl _ _).alloc _).alloc _).alloc _⟩
  simp [bodyPostD, Leaves, settle, results, Try.results25, go_sem]
  exact hf

set_option maxRecDepth 100000 in
set_option maxHeartbeats 3200000 in
theorem lget_any (g : Nat) (s : ByteArray) (a size : Nat) (w : World) (h : Rr w g s a) (hs : s.size ≤ 140737488351232) (ha : a ≤ 8 * s.size) (hx : sizeOk size = true) :
    Calls Try.prog 25 #[.pointer (some ⟨g, 0, none⟩), .int .i64 size] w (TG w g s a size (getB (sbit s) (8 * s.size) size a)) := by
  have hmf : ∀ (fn : Fn) (first cap : Array Value) (w : World), (Instr.makeFunc fn first cap).run Try.prog w = .ok (.func fn first cap) w := fun _ _ _ _ => rfl
  have h0 := Bk.cell h 0
  have h1 := Bk.cell h 1
  simp at h0 h1
  have hl := Bk.lt h
  have hl1 : g < w.heap.size + 1 := by omega
  have hl2 : g < w.heap.size + 1 + 1 := by omega
  have hl3 : g < w.heap.size + 1 + 1 + 1 := by omega
  have HH := Lib.hid h
  have hk := sizeOk_le hx
  have HK := Lib.hid hk
  obtain ⟨R, hR⟩ : ∃ R, R = getB (sbit s) (8 * s.size) size a := ⟨_, rfl⟩
  rw [← hR]
  have HR := Lib.hid hR
  clear h hk hR
  go_enter_defers Try.func25, Try.ntmps25
  go_wp2_with fail
  refine (size_any size _).mono ?_
  rintro e w' ⟨rfl, rfl⟩
  rw [hx]
  clear hx
  go_wp2_with fail
  obtain ⟨N, hN⟩ : ∃ N, N = w.heap.size := ⟨_, rfl⟩
  have k0 := ((((Bk.new w 40 #[.pointer (some ⟨g, 0, none⟩)]).alloc (.cells #[.slice none 0 0] 22)).alloc (.cells #[.int .i64 0] 25)).alloc (.cells #[.string s, .int .i64 (a : Int)] 74)).alloc (.cells #[.pointer (some ⟨g, 0, none⟩)] 81)
  have k1 := (((Bk.new (w.alloc (.cells #[.pointer (some ⟨g, 0, none⟩)] 40)) 22 #[.slice none 0 0]).alloc (.cells #[.int .i64 0] 25)).alloc (.cells #[.string s, .int .i64 (a : Int)] 74)).alloc (.cells #[.pointer (some ⟨g, 0, none⟩)] 81)
  have k2 := ((Bk.new ((w.alloc (.cells #[.pointer (some ⟨g, 0, none⟩)] 40)).alloc (.cells #[.slice none 0 0] 22)) 25 #[.int .i64 0]).alloc (.cells #[.string s, .int .i64 (a : Int)] 74)).alloc (.cells #[.pointer (some ⟨g, 0, none⟩)] 81)
  have k3 := (Bk.new (((w.alloc (.cells #[.pointer (some ⟨g, 0, none⟩)] 40)).alloc (.cells #[.slice none 0 0] 22)).alloc (.cells #[.int .i64 0] 25)) 74 #[.string s, .int .i64 (a : Int)]).alloc (.cells #[.pointer (some ⟨g, 0, none⟩)] 81)
  have k4 := Bk.new ((((w.alloc (.cells #[.pointer (some ⟨g, 0, none⟩)] 40)).alloc (.cells #[.slice none 0 0] 22)).alloc (.cells #[.int .i64 0] 25)).alloc (.cells #[.string s, .int .i64 (a : Int)] 74)) 81 #[.pointer (some ⟨g, 0, none⟩)]
  have kr := ((((HH.out.alloc (.cells #[.pointer (some ⟨g, 0, none⟩)] 40)).alloc (.cells #[.slice none 0 0] 22)).alloc (.cells #[.int .i64 0] 25)).alloc (.cells #[.string s, .int .i64 (a : Int)] 74)).alloc (.cells #[.pointer (some ⟨g, 0, none⟩)] 81)
  have kt : Touch (RS g) w (((((w.alloc (.cells #[.pointer (some ⟨g, 0, none⟩)] 40)).alloc (.cells #[.slice none 0 0] 22)).alloc (.cells #[.int .i64 0] 25)).alloc (.cells #[.string s, .int .i64 (a : Int)] 74)).alloc (.cells #[.pointer (some ⟨g, 0, none⟩)] 81)) := (((((Touch.refl _ _).alloc _).alloc _).alloc _).alloc _).alloc _
  have kz : (((((w.alloc (.cells #[.pointer (some ⟨g, 0, none⟩)] 40)).alloc (.cells #[.slice none 0 0] 22)).alloc (.cells #[.int .i64 0] 25)).alloc (.cells #[.string s, .int .i64 (a : Int)] 74)).alloc (.cells #[.pointer (some ⟨g, 0, none⟩)] 81)).heap.size = N + 5 := by rw [hN]; simp
  simp only [World.size_alloc, ← hN] at k1 k2 k3 k4
  rw [← hN] at k0 hl hl1 hl2 hl3 ⊢
  generalize (((((w.alloc (.cells #[.pointer (some ⟨g, 0, none⟩)] 40)).alloc (.cells #[.slice none 0 0] 22)).alloc (.cells #[.int .i64 0] 25)).alloc (.cells #[.string s, .int .i64 (a : Int)] 74)).alloc (.cells #[.pointer (some ⟨g, 0, none⟩)] 81)) = W at *
  have hblk := lblock_any (N + 1 + 1 + 1 + 1) g s a size W kr hs ha (k4.cell 0) (by omega) HK.out.1 HK.out.2
  rw [← HR.out, kz] at hblk
  refine hblk.mono ?_
  rintro e w2 hT
  have KT := Lib.hid kt
  have HNN := Lib.hid hN
  have hzz : w2.heap.size = w2.heap.size := rfl
  clear hblk kt HR HH h0 h1 HK hN hzz
  rcases R with c | ⟨z, b⟩
  · obtain ⟨rfl, b, hq⟩ := hT
    have j0 := k0.touch hq.2 (show ¬ RS g N by unfold RS; omega)
    have j1 := k1.touch hq.2 (show ¬ RS g (N + 1) by unfold RS; omega)
    have j2 := k2.touch hq.2 (show ¬ RS g (N + 1 + 1) by unfold RS; omega)
    have j3 := k3.touch hq.2 (show ¬ RS g (N + 1 + 1 + 1) by unfold RS; omega)
    have hct := fun older => catch_panicking (N + 1 + 1 + 1) N (N + 1) (N + 1 + 1) g s a b c 0 (.slice none 0 0) w2 hq.1 (j3.cell 0) (j3.cell 1) (j0.cell 0) j1 j2 (by omega) (by omega) (by omega) older
    have HCT := Lib.hid hct
    have HT2 := Lib.hid (KT.out.trans hq.2)
    clear hq j0 j1 j2 j3 k0 k1 k2 k3 k4 kr hct
    unfold thr
    go_wp2_with fail
    refine leaves_cons (f := 43) (args := #[.pointer (some ⟨N + 1 + 1 + 1, 0, none⟩), .pointer (some ⟨N, 0, none⟩), .pointer (some ⟨N + 1, 0, none⟩), .pointer (some ⟨N + 1 + 1, 0, none⟩)]) (by simp) (by simp [go_sem]) ?_
    refine (HCT.out []).mono ?_
    rintro e u' w'' ⟨rfl, rfl, hcaught⟩
    obtain ⟨c1, c2, c3, c4⟩ := hcaught
    have HC1 := Lib.hid c1
    have hfin : RPost w g s a w'' := ⟨c1, HT2.out.old c4 fun i hi q => by
      rcases q with q | q | q
      · exact q
      · have := HNN.out; omega
      · have := HNN.out; omega⟩
    have HFIN := Lib.hid hfin
    clear c1 c4 hfin
    simp [Leaves, settle, results, Try.results25, go_sem, c2, c3]
    exact ⟨rfl, HFIN.out⟩
  · obtain ⟨rfl, har, hb, hq⟩ := hT
    have j1 := k1.touch hq.2 (show ¬ RS g (N + 1) by unfold RS; omega)
    have j2 := k2.touch hq.2 (show ¬ RS g (N + 1 + 1) by unfold RS; omega)
    have e1 := j1.cell 0
    have e2 := j2.cell 0
    have g1 := j1.frozen 0
    have g2 := j2.frozen 0
    simp at e1 e2
    have HAR := Lib.hid har
    have HQ := Lib.hid hq
    have HT2 := Lib.hid (KT.out.trans hq.2)
    clear hq j1 j2 k0 k1 k2 k3 k4 kr har
    go_wp2_with fail
    refine leaves_cons (f := 43) (args := #[.pointer (some ⟨N + 1 + 1 + 1, 0, none⟩), .pointer (some ⟨N, 0, none⟩), .pointer (some ⟨N + 1, 0, none⟩), .pointer (some ⟨N + 1 + 1, 0, none⟩)]) (by simp) (by simp [go_sem]) ?_
    refine (catch_idle _ _ _ _ _).mono ?_
    rintro e u' w'' ⟨rfl, rfl, rfl⟩
    have har2 := (HAR.out.far (p := ⟨N + 1, 0, none⟩) (by simp) (.slice (some ⟨N + 5, 0, none⟩) size size)).far (p := ⟨N + 1 + 1, 0, none⟩) (by simp) (.int .i64 0)
    have hpo : RPost w g s b ((w2.setCell ⟨N + 1, 0, none⟩ (.slice (some ⟨N + 5, 0, none⟩) size size)).setCell ⟨N + 1 + 1, 0, none⟩ (.int .i64 0)) :=
      ⟨(Bk.far HQ.out.1 (p := ⟨N + 1, 0, none⟩) (by simp; omega) _).far (p := ⟨N + 1 + 1, 0, none⟩) (by simp; omega) _,
        (HT2.out.setCell (p := ⟨N + 1, 0, none⟩) (fun q => by have := HNN.out; simp at q; omega) _).setCell (p := ⟨N + 1 + 1, 0, none⟩) (fun q => by have := HNN.out; simp at q; omega) _⟩
    have HA2 := Lib.hid har2
    have HPO := Lib.hid hpo
    clear har2 hpo
    simp [Leaves, settle, results, Try.results25, go_sem, e1, e2]
    exact ⟨N + 5, rfl, by have := HNN.out; omega, HA2.out, hb, HPO.out⟩
end Go.Proofs.Ytocooplmfkeepaa
