/- The statement NalEscapes: the walk. -/
import Derived.Test.YtndlmhpbnaohpaaNalK
namespace Go.Proofs.Ytndlmhpbnaohpaa
open Go.RowKit
set_option linter.unusedVariables false
set_option linter.unusedSimpArgs false

set_option maxRecDepth 100000 in
set_option maxHeartbeats 3200000 in
theorem walk_NalEscapes (s : ByteArray) (w : World) (hs : s.size ≤ 1048576) (w_sh : w.ShapedOpen Try.prog) :
    Calls Try.prog 3 #[.string s] w fun e w' => e = .returned (.bool true) ∧ Below w.heap.size w w' := by
  have HP := Lib.hid (Up.of_shaped w_sh)
  have HU := Lib.hid (fun w => une_any s w (by omega))
  have HV := Lib.hid (fun w => une2_any s w (by omega))
  have HE := Lib.hid (fun w => esc_any s w (by omega))
  have HF := Lib.hid (fun w => esc2_any s w (by omega))
  clear w_sh
  generalize unS s = U at *
  generalize unE s = E at *
  generalize txt (esc (bl s)) = T at *
  go_enter Try.func3, Try.ntmps3
  go_wp2_with fail
  refine (HU.out _).mono ?_
  rintro e w1 ⟨rfl, hb⟩
  have HB := Lib.hid hb
  have hz := hb.size
  clear hb HU
  go_wp2_with fail
  refine (HV.out _).mono ?_
  rintro e w2 ⟨rfl, hb⟩
  have HB := Lib.hid (HB.out.trans (hb.mono hz))
  have hz := HB.out.size
  clear hb HV
  go_wp2_with fail
  refine (HE.out _).mono ?_
  rintro e w3 ⟨rfl, hb⟩
  have HB := Lib.hid (HB.out.trans (hb.mono hz))
  have hz := HB.out.size
  clear hb HE
  go_wp2_with fail
  refine (HF.out _).mono ?_
  rintro e w4 ⟨rfl, hb⟩
  have HB := Lib.hid (HB.out.trans (hb.mono hz))
  have hz := HB.out.size
  clear hb HF
  go_wp2_with (go_at_call 15; refine (num_any _ _).mono ?_; rintro e w' ⟨rfl, rfl⟩)
  refine (awake_up (HP.out.go HB.out)).mono ?_
  rintro e w5 ⟨rfl, hb⟩
  have HB := Lib.hid (HB.out.trans (hb.mono hz))
  clear hb
  go_wp2_with fail
  go_ret
  exact ⟨rfl, HB.out⟩
end Go.Proofs.Ytndlmhpbnaohpaa
