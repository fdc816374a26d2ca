/- The statement NalUnits: the walk. -/
import Derived.Test.YtndlmhpbnaohpaaNalK
namespace Go.Proofs.Ytndlmhpbnaohpaa
open Go.RowKit
set_option linter.unusedVariables false
set_option linter.unusedSimpArgs false

def pkS (r t : Int) (s : ByteArray) : ByteArray := if fitB r t = true then txt (packL r t (bl s)) else ByteArray.empty
def pkE (r t : Int) : Int := if fitB r t = true then 0 else 200
theorem pk0 (r t : Int) (s : ByteArray) (w : World) (hs : s.size ≤ 4194304) :
    Calls Try.prog 17 #[.agg #[.int .i64 r, .int .i64 t, .string s]] w fun e w' => e = .returned (.tuple #[.string (pkS r t s), .int .i64 (pkE r t)]) ∧ Below w.heap.size w w' := by
  unfold pkS pkE
  by_cases h : fitB r t = true
  · rw [if_pos h, if_pos h]
    exact pack0_yes r t s w h hs
  · rw [if_neg h, if_neg h]
    exact pack0_no r t s w (Bool.eq_false_iff.2 h)
theorem pk1 (r t : Int) (s : ByteArray) (w : World) (hs : s.size ≤ 4194304) :
    Calls Try.prog 18 #[.agg #[.int .i64 r, .int .i64 t, .string s]] w fun e w' => e = .returned (.tuple #[.string (pkS r t s), .int .i64 (pkE r t)]) ∧ Below w.heap.size w w' := by
  unfold pkS pkE
  by_cases h : fitB r t = true
  · rw [if_pos h, if_pos h]
    exact pack1_yes r t s w h hs
  · rw [if_neg h, if_neg h]
    exact pack1_no r t s w (Bool.eq_false_iff.2 h)

set_option maxRecDepth 100000 in
set_option maxHeartbeats 3200000 in
theorem walk_NalUnits (a0_Ref a0_Type : Int) (a0_Rbsp a1 : ByteArray) (w : World) (w_R : (Lit.int .i64 a0_Ref).wf = true) (w_T : (Lit.int .i64 a0_Type).wf = true) (w_S : a0_Rbsp.size ≤ 1048576) (hs : a1.size ≤ 1048576) (w_sh : w.ShapedOpen Try.prog) :
    Calls Try.prog 4 #[.agg #[.int .i64 a0_Ref, .int .i64 a0_Type, .string a0_Rbsp], .string a1] w fun e w' => e = .returned (.bool true) ∧ Below w.heap.size w w' := by
  have HP := Lib.hid (Up.of_shaped w_sh)
  have HA := Lib.hid (fun w => pk0 a0_Ref a0_Type a0_Rbsp w (by omega))
  have HA2 := Lib.hid (fun w => pk1 a0_Ref a0_Type a0_Rbsp w (by omega))
  have HU := Lib.hid (fun w => up0 a1 w (by omega))
  have HV := Lib.hid (fun w => up1 a1 w (by omega))
  clear w_sh w_R w_T
  unfold upV at HU HV
  generalize pkS a0_Ref a0_Type a0_Rbsp = T at *
  generalize pkE a0_Ref a0_Type = E at *
  generalize upR a1 = x at *
  generalize upT a1 = y at *
  generalize upS a1 = z at *
  generalize upE a1 = f at *
  go_enter Try.func4, Try.ntmps4
  go_wp2_with fail
  refine (HA.out _).mono ?_
  rintro e w1 ⟨rfl, hb⟩
  have c0 := hb.cell (p := ⟨w.heap.size, 0, none⟩) (by simp [go_sem])
  have c1 := hb.cell (p := ⟨w.heap.size, 1, none⟩) (by simp [go_sem])
  have c2 := hb.cell (p := ⟨w.heap.size, 2, none⟩) (by simp [go_sem])
  simp [go_sem] at c0 c1 c2
  have HB := Lib.hid (((Below.refl w.heap.size w).alloc (Nat.le_refl _) _).trans (hb.mono (by simp)))
  have hz := HB.out.size
  clear hb HA
  go_wp2_with fail
  refine (HA2.out _).mono ?_
  rintro e w2 ⟨rfl, hb⟩
  have HB := Lib.hid (HB.out.trans (hb.mono hz))
  have hz := HB.out.size
  clear hb HA2 c0 c1 c2
  go_wp2_with fail
  refine (HU.out _).mono ?_
  rintro e w3 ⟨rfl, hb⟩
  have HB := Lib.hid (HB.out.trans (hb.mono hz))
  have hz := HB.out.size
  clear hb HU
  go_wp2_with fail
  refine (HV.out _).mono ?_
  rintro e w4 ⟨rfl, hb⟩
  have c0 := hb.cell (p := ⟨w3.heap.size, 0, none⟩) (by simp [go_sem])
  have c1 := hb.cell (p := ⟨w3.heap.size, 1, none⟩) (by simp [go_sem])
  have c2 := hb.cell (p := ⟨w3.heap.size, 2, none⟩) (by simp [go_sem])
  simp [go_sem] at c0 c1 c2
  have hb3 := HB.out
  have hs3 := hb.size
  simp [go_sem] at hs3
  have hs4 : w3.heap.size < w4.heap.size := by omega
  clear hs3
  have HB : Hid (Below w.heap.size w w4) := Lib.hid (Below.trans (by repeat (first | exact Below.refl _ _ | assumption | refine Below.alloc ?_ (by first | omega | (simp <;> omega)) _ | refine Below.drew ?_ | refine Below.setCell ?_ (by first | omega | (simp <;> omega)) _)) (hb.mono (by simp [go_sem] <;> omega)))
  clear hb HV hb3
  go_wp2_with (go_at_call 15; refine (num_any _ _).mono ?_; rintro e w' ⟨rfl, rfl⟩)
  have hz4 := HB.out.size
  refine (awake_up (w := w4.alloc (.cells #[.int .i64 x, .int .i64 y, .string z] 32)) (HP.out.go (HB.out.alloc hz4 _))).mono ?_
  rintro e w5 ⟨rfl, hb⟩
  have HB : Hid (Below w.heap.size w w5) := Lib.hid ((HB.out.alloc hz4 _).trans (hb.mono (by simp <;> omega)))
  clear hb
  go_wp2_with fail
  go_ret
  exact ⟨rfl, HB.out⟩
end Go.Proofs.Ytndlmhpbnaohpaa
