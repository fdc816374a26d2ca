/- The statement NalNests: the walk. -/
import Derived.Test.YtndlmhpbnaohpaaNalK
namespace Go.Proofs.Ytndlmhpbnaohpaa
open Go.RowKit
set_option linter.unusedVariables false
set_option linter.unusedSimpArgs false

theorem unOk_esc (s : ByteArray) : unOk (txt (esc (bl s))) = true := by
  unfold unOk
  rw [bl_txt _ (esc_bytes _ (bl_lt s)), une_esc]
  simp
theorem unS_esc (s : ByteArray) : unS (txt (esc (bl s))) = s ∧ unE (txt (esc (bl s))) = 0 := by
  unfold unS unE
  rw [if_pos (unOk_esc s), if_pos (unOk_esc s), bl_txt _ (esc_bytes _ (bl_lt s)), une_esc, txt_bl]
  exact ⟨rfl, rfl⟩
theorem esc_size (s : ByteArray) : s.size ≤ (txt (esc (bl s))).size ∧ 2 * (txt (esc (bl s))).size ≤ 3 * s.size := by
  have := esc_len (bl s)
  rw [bl_len] at this
  rw [txt_size]
  exact this

set_option maxRecDepth 100000 in
set_option maxHeartbeats 3200000 in
theorem walk_NalNests (s : ByteArray) (w : World) (hs : s.size ≤ 1048576) (w_sh : w.ShapedOpen Try.prog) :
    Calls Try.prog 9 #[.string s] w fun e w' => e = .returned (.bool true) ∧ Below w.heap.size w w' := by
  have HP := Lib.hid (Up.of_shaped w_sh)
  have hz1 := esc_size s
  have hz2 := esc_size (txt (esc (bl s)))
  have HE := Lib.hid (fun w => esc_any s w (by omega))
  have HE2 := Lib.hid (fun w => esc_any (txt (esc (bl s))) w (by omega))
  have hU := fun w => une_any (txt (esc (bl (txt (esc (bl s)))))) w (by omega)
  have hV := fun w => une_any (txt (esc (bl s))) w (by omega)
  rw [(unS_esc (txt (esc (bl s)))).1, (unS_esc (txt (esc (bl s)))).2] at hU
  rw [(unS_esc s).1, (unS_esc s).2] at hV
  have HU := Lib.hid hU
  have HV := Lib.hid hV
  clear w_sh hU hV
  generalize txt (esc (bl (txt (esc (bl s))))) = b at *
  generalize txt (esc (bl s)) = a at *
  have l1 : (s.size : Int) ≤ (a.size : Int) := by omega
  have l2 : 2 * (a.size : Int) ≤ 3 * (s.size : Int) := by omega
  have l3 : a.size ≤ 1572864 := by omega
  clear hz1 hz2
  go_enter Try.func9, Try.ntmps9
  go_wp2_with fail
  refine (awake_up HP.out).mono ?_
  rintro e w0 ⟨rfl, hb⟩
  have HB := Lib.hid hb
  have hz := hb.size
  clear hb HP
  go_wp2_with fail
  refine (HE.out _).mono ?_
  rintro e w1 ⟨rfl, hb⟩
  have HB := Lib.hid (HB.out.trans (hb.mono hz))
  have hz := HB.out.size
  clear hb HE
  go_wp2_with fail
  refine (HE2.out _).mono ?_
  rintro e w2 ⟨rfl, hb⟩
  have HB := Lib.hid (HB.out.trans (hb.mono hz))
  have hz := HB.out.size
  clear hb HE2
  go_wp2_with fail
  refine (HU.out _).mono ?_
  rintro e w3 ⟨rfl, hb⟩
  have HB := Lib.hid (HB.out.trans (hb.mono hz))
  have hz := HB.out.size
  clear hb HU
  go_wp2_with (go_at_call 15; refine (num_any _ _).mono ?_; rintro e w' ⟨rfl, rfl⟩)
  refine (HV.out _).mono ?_
  rintro e w4 ⟨rfl, hb⟩
  have HB := Lib.hid (HB.out.trans (hb.mono hz))
  have hz := HB.out.size
  clear hb HV
  go_wp2_with (go_at_call 15; refine (num_any _ _).mono ?_; rintro e w' ⟨rfl, rfl⟩)
  go_ret
  exact ⟨rfl, HB.out⟩
end Go.Proofs.Ytndlmhpbnaohpaa
