/- ParamsPps. Printed by gen-pps.py. -/
import Derived.Test.YtegfglpaabddlaaDocA
import Derived.Test.YtegfglpaabddlaaParO
import Derived.Test.YtegfglpaabddlaaParZ
import Derived.Test.YtegfglpaabddlaaQuiet
namespace Go.Proofs.Ytegfglpaabddlaa
open Go.RowKit
set_option linter.unusedVariables false
set_option linter.unusedSimpArgs false


set_option maxRecDepth 100000 in
set_option maxHeartbeats 6400000 in
theorem pps_all (p0 p1 : Bool) (p2 p3 p4 : Int) (p5 p6 : Bool) (p7 p8 : Int) (t : ByteArray) (w : World) (ht : t.size ≤ 1048576) :
    Calls Try.prog 4 #[.agg #[.bool p0, .bool p1, .int .i64 p2, .int .i64 p3, .int .i64 p4, .bool p5, .bool p6, .int .i64 p7, .int .i64 p8], .string t] w fun e w' => e = .returned (.bool true) ∧ Below w.heap.size w w' := by
  obtain ⟨Q, E, hQ⟩ : ∃ Q E, getPp (sbit t) (8 * t.size) = (Q, E) := ⟨_, _, rfl⟩
  have h1 := putpp_any ⟨p0, p1, p2, p3, p4, p5, p6, p7, p8⟩
  have h2 := putpp2_any ⟨p0, p1, p2, p3, p4, p5, p6, p7, p8⟩
  have h3 := getpp_any t
  have h4 := getpp2_any t
  rw [hQ] at h3 h4
  have h5 := maypp_any ⟨p0, p1, p2, p3, p4, p5, p6, p7, p8⟩
  have h6 := maypp2_any ⟨p0, p1, p2, p3, p4, p5, p6, p7, p8⟩
  generalize putPpS ⟨p0, p1, p2, p3, p4, p5, p6, p7, p8⟩ = U at h1 h2
  generalize putPpE ⟨p0, p1, p2, p3, p4, p5, p6, p7, p8⟩ = UE at h1 h2
  generalize mayPp ⟨p0, p1, p2, p3, p4, p5, p6, p7, p8⟩ = MB at h5 h6
  obtain ⟨q0, q1, q2, q3, q4, q5, q6, q7, q8⟩ := Q
  simp only [ppV] at h1 h2 h3 h4 h5 h6
  have X1 := Lib.hid h1
  have X2 := Lib.hid h2
  have X3 := Lib.hid (fun w => h3 w (by omega))
  have X4 := Lib.hid (fun w => h4 w (by omega))
  have X5 := Lib.hid h5
  have X6 := Lib.hid h6
  clear h1 h2 h3 h4 h5 h6 hQ
  have HB := Lib.hid (Below.refl w.heap.size w)
  replace HB := Lib.hid (HB.out.alloc HB.out.size (.cells #[.bool p0, .bool p1, .int .i64 p2, .int .i64 p3, .int .i64 p4, .bool p5, .bool p6, .int .i64 p7, .int .i64 p8] 43))
  have Kp := Lib.hid (Bk.new w 43 #[.bool p0, .bool p1, .int .i64 p2, .int .i64 p3, .int .i64 p4, .bool p5, .bool p6, .int .i64 p7, .int .i64 p8])
  go_enter Try.func4, Try.ntmps4
  go_wp2_with fail
  refine (X1.out _).mono ?_
  rintro e w1 ⟨rfl, hb⟩
  replace Kp := Lib.hid (Kp.out.go hb)
  replace HB := Lib.hid (HB.out.trans (hb.mono HB.out.size))
  clear hb
  have cp_0 := Kp.out.cell 0
  have cp_1 := Kp.out.cell 1
  have cp_2 := Kp.out.cell 2
  have cp_3 := Kp.out.cell 3
  have cp_4 := Kp.out.cell 4
  have cp_5 := Kp.out.cell 5
  have cp_6 := Kp.out.cell 6
  have cp_7 := Kp.out.cell 7
  have cp_8 := Kp.out.cell 8
  simp at cp_0 cp_1 cp_2 cp_3 cp_4 cp_5 cp_6 cp_7 cp_8
  go_wp2_with fail
  clear cp_0 cp_1 cp_2 cp_3 cp_4 cp_5 cp_6 cp_7 cp_8
  refine (X2.out _).mono ?_
  rintro e w2 ⟨rfl, hb⟩
  replace Kp := Lib.hid (Kp.out.go hb)
  replace HB := Lib.hid (HB.out.trans (hb.mono HB.out.size))
  clear hb
  go_wp2_with fail
  refine (X3.out _).mono ?_
  rintro e w3 ⟨rfl, hb⟩
  replace Kp := Lib.hid (Kp.out.go hb)
  replace HB := Lib.hid (HB.out.trans (hb.mono HB.out.size))
  clear hb
  replace Kp := Lib.hid (Kp.out.alloc (.cells #[.bool q0, .bool q1, .int .i64 q2, .int .i64 q3, .int .i64 q4, .bool q5, .bool q6, .int .i64 q7, .int .i64 q8] 43))
  replace HB := Lib.hid (HB.out.alloc HB.out.size (.cells #[.bool q0, .bool q1, .int .i64 q2, .int .i64 q3, .int .i64 q4, .bool q5, .bool q6, .int .i64 q7, .int .i64 q8] 43))
  have Ka := Lib.hid (Bk.new w3 43 #[.bool q0, .bool q1, .int .i64 q2, .int .i64 q3, .int .i64 q4, .bool q5, .bool q6, .int .i64 q7, .int .i64 q8])
  go_wp2_with fail
  refine (X4.out _).mono ?_
  rintro e w4 ⟨rfl, hb⟩
  replace Kp := Lib.hid (Kp.out.go hb)
  replace Ka := Lib.hid (Ka.out.go hb)
  replace HB := Lib.hid (HB.out.trans (hb.mono HB.out.size))
  clear hb
  replace Kp := Lib.hid (Kp.out.alloc (.cells #[.bool q0, .bool q1, .int .i64 q2, .int .i64 q3, .int .i64 q4, .bool q5, .bool q6, .int .i64 q7, .int .i64 q8] 43))
  replace Ka := Lib.hid (Ka.out.alloc (.cells #[.bool q0, .bool q1, .int .i64 q2, .int .i64 q3, .int .i64 q4, .bool q5, .bool q6, .int .i64 q7, .int .i64 q8] 43))
  replace HB := Lib.hid (HB.out.alloc HB.out.size (.cells #[.bool q0, .bool q1, .int .i64 q2, .int .i64 q3, .int .i64 q4, .bool q5, .bool q6, .int .i64 q7, .int .i64 q8] 43))
  have Kb := Lib.hid (Bk.new w4 43 #[.bool q0, .bool q1, .int .i64 q2, .int .i64 q3, .int .i64 q4, .bool q5, .bool q6, .int .i64 q7, .int .i64 q8])
  go_wp2_with fail
  obtain ⟨w5, hw5⟩ : ∃ w5, w5 = (w4.alloc (.cells #[.bool q0, .bool q1, .int .i64 q2, .int .i64 q3, .int .i64 q4, .bool q5, .bool q6, .int .i64 q7, .int .i64 q8] 43)) := ⟨_, rfl⟩
  rw [← hw5] at HB Kp Ka Kb
  rw [← hw5]
  clear hw5 X1 X2 X3 X4
  have cp_0 := Kp.out.cell 0
  have cp_1 := Kp.out.cell 1
  have cp_2 := Kp.out.cell 2
  have cp_3 := Kp.out.cell 3
  have cp_4 := Kp.out.cell 4
  have cp_5 := Kp.out.cell 5
  have cp_6 := Kp.out.cell 6
  have cp_7 := Kp.out.cell 7
  have cp_8 := Kp.out.cell 8
  simp at cp_0 cp_1 cp_2 cp_3 cp_4 cp_5 cp_6 cp_7 cp_8
  have ca_0 := Ka.out.cell 0
  have ca_1 := Ka.out.cell 1
  have ca_2 := Ka.out.cell 2
  have ca_3 := Ka.out.cell 3
  have ca_4 := Ka.out.cell 4
  have ca_5 := Ka.out.cell 5
  have ca_6 := Ka.out.cell 6
  have ca_7 := Ka.out.cell 7
  have ca_8 := Ka.out.cell 8
  simp at ca_0 ca_1 ca_2 ca_3 ca_4 ca_5 ca_6 ca_7 ca_8
  have cb_0 := Kb.out.cell 0
  have cb_1 := Kb.out.cell 1
  have cb_2 := Kb.out.cell 2
  have cb_3 := Kb.out.cell 3
  have cb_4 := Kb.out.cell 4
  have cb_5 := Kb.out.cell 5
  have cb_6 := Kb.out.cell 6
  have cb_7 := Kb.out.cell 7
  have cb_8 := Kb.out.cell 8
  simp at cb_0 cb_1 cb_2 cb_3 cb_4 cb_5 cb_6 cb_7 cb_8
  have hltp := Kp.out.lt
  have hlta := Ka.out.lt
  have hltb := Kb.out.lt
  refine wp_region_class (fun w' => Below w5.heap.size w5 w') (by kernel_rfl) (by kernel_rfl) ((Below.refl _ _).drew) ?_
  repeat (first
    | go_big_quiet_skip
    | (go_big_quiet_want; first
        | (go_big_quiet_op; go_big_quiet_on)
        | (refine qv_val (v := ?_) ?_ ?_; rotate_left 1; (intro w' hw'; obtain ⟨hcc, hff⟩ := bcell hw'; clear hff hw'; go_simp; (try with_reducible rfl)); (try simp only [Act.put, List.setIfInBounds_toArray, List.set_cons_zero, List.set_cons_succ]); go_big_quiet_on)
        | (refine qv_call (v := ?_) (f := ?_) (args := ?_) ?_ ?_ ?_; rotate_left 3; (intro w' hw'; clear hw'; go_simp; (refine ⟨?_, ?_⟩ <;> rfl)); (first | (intro w' hw'; refine (X5.out _).mono ?_; rintro e wh ⟨rfl, hbh⟩; refine ⟨?_, Below.trans hw' (hbh.mono hw'.size)⟩; skip; rfl) | (intro w' hw'; refine (X6.out _).mono ?_; rintro e wh ⟨rfl, hbh⟩; refine ⟨?_, Below.trans hw' (hbh.mono hw'.size)⟩; skip; rfl) | (intro w' hw'; refine (num_any _ _).mono ?_; rintro e w'' ⟨rfl, rfl⟩; refine ⟨?_, hw'⟩; skip; rfl) | (intro w' hw'; refine (awake_any _).mono ?_; rintro e wh ⟨rfl, hbh⟩; refine ⟨?_, Below.trans hw' (hbh.mono hw'.size)⟩; skip; rfl)); (try simp only [Act.put, List.setIfInBounds_toArray, List.set_cons_zero, List.set_cons_succ]); go_big_quiet_on)))
  with_reducible refine wpQuiet_nil ?_
  intro w1 hw
  clear cp_0 cp_1 cp_2 cp_3 cp_4 cp_5 cp_6 cp_7 cp_8 ca_0 ca_1 ca_2 ca_3 ca_4 ca_5 ca_6 ca_7 ca_8 cb_0 cb_1 cb_2 cb_3 cb_4 cb_5 cb_6 cb_7 cb_8 hltp hlta hltb
  replace HB := Lib.hid (HB.out.trans (hw.mono HB.out.size))
  go_wp2_with fail
  go_ret
  exact ⟨rfl, HB.out⟩
theorem walk_ParamsPps (a0_Cabac : Bool) (a0_Weighted : Bool) (a0_BiPred : Int) (a0_Qp : Int) (a0_ChromaQp : Int) (a0_Constrained : Bool) (a0_Deblock : Bool) (a0_Active0 : Int) (a0_Active1 : Int) (a1 : ByteArray) (w : World) (w_a0_BiPred : (Lit.int .i64 a0_BiPred).wf = true) (w_a0_Qp : (Lit.int .i64 a0_Qp).wf = true) (w_a0_ChromaQp : (Lit.int .i64 a0_ChromaQp).wf = true) (w_a0_Active0 : (Lit.int .i64 a0_Active0).wf = true) (w_a0_Active1 : (Lit.int .i64 a0_Active1).wf = true) (w_a1 : a1.size ≤ 1048576) :
    Calls Try.prog 4 #[.agg #[.bool a0_Cabac, .bool a0_Weighted, .int .i64 a0_BiPred, .int .i64 a0_Qp, .int .i64 a0_ChromaQp, .bool a0_Constrained, .bool a0_Deblock, .int .i64 a0_Active0, .int .i64 a0_Active1], .string a1] w fun e w' => e = .returned (.bool true) ∧ Below w.heap.size w w' :=
  pps_all _ _ _ _ _ _ _ _ _ a1 w w_a1
end Go.Proofs.Ytegfglpaabddlaa
