/- Contracts of direct.Scale: the scale by distances; whatever integers come in. -/
import Derived.Test.YtadinglpkphpgaaDirA
namespace Go.Proofs.Ytadinglpkphpgaa.Dir
open Go.RowKit
set_option linter.unusedVariables false
attribute [local go_sem] ite_max ite_min

theorem clip_bd (x lo hi : Int) (h : lo ≤ hi) : lo ≤ clip x lo hi ∧ clip x lo hi ≤ hi := by unfold clip; omega

def diff (a b : Int) : Int := clip (clip a (-1073741824) 1073741824 - clip b (-1073741824) 1073741824) (-128) 127
def txOf (td : Int) : Int := (16384 + max td (-td) / 2).tdiv td
def scaleV (a b c : Int) : Int := if diff c b = 0 then 0 else clip ((diff a b * txOf (diff c b) + 32) / 64) (-1024) 1023
def scaleB (a b c : Int) : Bool := !(diff c b == 0)
theorem diff_bd (a b : Int) : -128 ≤ diff a b ∧ diff a b ≤ 127 := clip_bd _ _ _ (by omega)
theorem tx_bd (td : Int) (h : -128 ≤ td ∧ td ≤ 127) : -20000 ≤ txOf td ∧ txOf td ≤ 20000 := by
  have h1 : (txOf td).natAbs ≤ (16384 + max td (-td) / 2).natAbs := Int.natAbs_tdiv_le_natAbs _ _
  omega
theorem sc_w (tb td : Int) (h : -128 ≤ tb ∧ tb ≤ 127) (h' : -128 ≤ td ∧ td ≤ 127) : wrap64 (wrap64 (tb * wrap64 (txOf td)) + 32) = tb * txOf td + 32 := by
  have h1 := tx_bd td h'
  have h2 := mul_bd tb (txOf td) 128 20000 (by omega) h1
  rw [IntWalk.wrap64_in (txOf td) (by omega), IntWalk.wrap64_in (tb * txOf td) (by omega), IntWalk.wrap64_in _ (by omega)]

set_option maxHeartbeats 400000 in
theorem scale_any (a b c : Int) (w : World) :
    Calls Try.prog 27 #[.int .i64 a, .int .i64 b, .int .i64 c] w fun e w' => e = .returned (.tuple #[.int .i64 (scaleV a b c), .bool (scaleB a b c)]) ∧ w = w' := by
  have h1 := clip_bd a (-1073741824) 1073741824 (by omega)
  have h2 := clip_bd b (-1073741824) 1073741824 (by omega)
  have h3 := clip_bd c (-1073741824) 1073741824 (by omega)
  have h4 := diff_bd a b
  have h5 := diff_bd c b
  have hv : scaleV a b c = if diff c b = 0 then 0 else clip ((diff a b * txOf (diff c b) + 32) / 64) (-1024) 1023 := rfl
  have hb : scaleB a b c = !(diff c b == 0) := rfl
  have h6 := sc_w (diff a b) (diff c b) h4 h5
  unfold diff txOf at *
  generalize scaleV a b c = V at *
  generalize scaleB a b c = B at *
  have HV := Lib.hid hv
  have HB := Lib.hid hb
  have H6 := Lib.hid h6
  clear hv hb h6
  by_cases hz : clip (clip c (-1073741824) 1073741824 - clip b (-1073741824) 1073741824) (-128) 127 = 0
  · have hz' : (clip (clip c (-1073741824) 1073741824 - clip b (-1073741824) 1073741824) (-128) 127 == 0) = true := by simp [hz]
    have HZ := Lib.hid hz
    clear hz
    go_enter Try.func27, Try.ntmps27
    go_wp2_with (first | (go_at_call 30; refine (clip_any _ _ _ _).mono ?_; rintro e w' ⟨rfl, rfl⟩) | (go_at_call 29; refine (near_any _ _).mono ?_; rintro e w' ⟨rfl, rfl⟩))
    go_ret2
    exact ⟨ret_ib (by rw [HV.out, if_pos HZ.out]) (by rw [HB.out, HZ.out]; rfl), rfl⟩
  · have hz' : (clip (clip c (-1073741824) 1073741824 - clip b (-1073741824) 1073741824) (-128) 127 == 0) = false := by simp [hz]
    go_enter Try.func27, Try.ntmps27
    go_wp2_with (first | (go_at_call 30; refine (clip_any _ _ _ _).mono ?_; rintro e w' ⟨rfl, rfl⟩) | (go_at_call 29; refine (near_any _ _).mono ?_; rintro e w' ⟨rfl, rfl⟩))
    go_ret2
    exact ⟨ret_ib (by rw [HV.out, if_neg hz, H6.out]) (by rw [HB.out, hz']; rfl), rfl⟩

end Go.Proofs.Ytadinglpkphpgaa.Dir
