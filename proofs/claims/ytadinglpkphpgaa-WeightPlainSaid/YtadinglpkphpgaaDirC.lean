/- The document's own Scale: the same numbers. -/
import Derived.Test.YtadinglpkphpgaaDirB
namespace Go.Proofs.Ytadinglpkphpgaa.Dir
open Go.RowKit
set_option linter.unusedVariables false
attribute [local go_sem] ite_max ite_min

theorem clip_alt (x : Int) : max (-128) (min 127 x) = clip x (-128) 127 := by unfold clip; omega
theorem clip_alt2 (x : Int) : max (-1024) (min 1023 x) = clip x (-1024) 1023 := by unfold clip; omega
theorem tdiv_two (x : Int) : x.tdiv 2 = (x + max 0 (min 1 (-x))) / 2 := by
  rcases Int.le_total 0 x with h | h
  · have : x.tdiv 2 = x / 2 := Int.tdiv_eq_ediv_of_nonneg h
    omega
  · obtain ⟨y, rfl⟩ : ∃ y, x = -y := ⟨-x, by omega⟩
    have : (-y).tdiv 2 = -(y / 2) := by rw [Int.neg_tdiv, Int.tdiv_eq_ediv_of_nonneg (by omega)]
    omega
theorem half_alt (x : Int) : max ((x + max 0 (min 1 (-x))) / 2) (-((x + max 0 (min 1 (-x))) / 2)) = max x (-x) / 2 := by omega
attribute [local go_sem] clip_alt clip_alt2 tdiv_two half_alt

set_option maxHeartbeats 800000 in
theorem scale2_any (a b c : Int) (w : World) :
    Calls Try.prog 28 #[.int .i64 a, .int .i64 b, .int .i64 c] w fun e w' => e = .returned (.tuple #[.int .i64 (scaleV a b c), .bool (scaleB a b c)]) ∧ w = w' := by
  have h1 := clip_bd a (-1073741824) 1073741824 (by omega)
  have h2 := clip_bd b (-1073741824) 1073741824 (by omega)
  have h3 := clip_bd c (-1073741824) 1073741824 (by omega)
  have h4 := diff_bd a b
  have h5 := diff_bd c b
  have hv : scaleV a b c = if diff c b = 0 then 0 else clip ((diff a b * txOf (diff c b) + 32) / 64) (-1024) 1023 := rfl
  have hb : scaleB a b c = !(diff c b == 0) := rfl
  have h6 := sc_w (diff a b) (diff c b) h4 h5
  unfold diff txOf at *
  generalize scaleV a b c = V at *
  generalize scaleB a b c = B at *
  have HV := Lib.hid hv
  have HB := Lib.hid hb
  have H6 := Lib.hid h6
  clear hv hb h6
  by_cases hz : clip (clip c (-1073741824) 1073741824 - clip b (-1073741824) 1073741824) (-128) 127 = 0
  · have hz' : (clip (clip c (-1073741824) 1073741824 - clip b (-1073741824) 1073741824) (-128) 127 == 0) = true := by simp [hz]
    have HZ := Lib.hid hz
    clear hz
    go_enter Try.func28, Try.ntmps28
    go_wp2_with (go_at_call 31; refine (near2_any _ _).mono ?_; rintro e w' ⟨rfl, rfl⟩)
    go_ret2
    exact ⟨ret_ib (by rw [HV.out, if_pos HZ.out]) (by rw [HB.out, HZ.out]; rfl), rfl⟩
  · have hz' : (clip (clip c (-1073741824) 1073741824 - clip b (-1073741824) 1073741824) (-128) 127 == 0) = false := by simp [hz]
    go_enter Try.func28, Try.ntmps28
    go_wp2_with (go_at_call 31; refine (near2_any _ _).mono ?_; rintro e w' ⟨rfl, rfl⟩)
    go_ret2
    refine ⟨ret_ib (by rw [HV.out, if_neg hz, H6.out]) (by rw [HB.out, hz']; rfl), rfl⟩

end Go.Proofs.Ytadinglpkphpgaa.Dir
