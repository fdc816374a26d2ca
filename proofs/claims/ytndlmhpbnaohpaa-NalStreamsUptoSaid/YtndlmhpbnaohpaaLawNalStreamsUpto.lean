/- The row's step of the statement NalStreams: for every input the call returns true and nothing that was there is changed. Written by a program; the walk is YtndlmhpbnaohpaaLawI's walk_NalStreams. -/
import Derived.Test.YtndlmhpbnaohpaaLawI
import Derived.ProofKit
import Derived.OpenShut
import Derived.ShutString
import Derived.ChangeOld
import Derived.Below
import Derived.Deep.DeepHandedRow
import Derived.HandedShaped
import Derived.JoinedCond
import Derived.Test.YtndlmhpbnaohpaaBulk
namespace Go.Proofs.Ytndlmhpbnaohpaa.lawNalStreams
open Go.ChangeShapes Go.WideShapes Go.ChangeAt Go.RowKit
open Go.ChangeMaps (open_string shut_string)
set_option linter.unusedVariables false
set_option linter.unusedSimpArgs false

theorem own : ownKnob Try.prog.godebug = none := by kernel_rfl
theorem laidOut : laidOutB Try.prog = true := by kernel_rfl
theorem cells3 : Try.prog.cellsOf 3 = 1 := by kernel_rfl
theorem cells9 : Try.prog.cellsOf 9 = 1 := by kernel_rfl
theorem cells32 : Try.prog.cellsOf 32 = 3 := by kernel_rfl

set_option maxRecDepth 100000 in
set_option maxHeartbeats 1000000 in
theorem lifted (os : Os) (started : os.Started) (H : Type) (enc : TypeId × Value → H) (F : Stop.Interp) :
    ReturnsInHanded {} Try.checked os 5 .any ((Rows.OpenSpec.upto Rows.nalStreamsSpec).preRow enc Try.prog Try.f5 Rows.nalStreamsUptoRow.domain false []) (((Rows.OpenSpec.upto Rows.nalStreamsSpec).at F).post enc Try.prog Try.f5 false true false false) := by
  refine returnsInHanded_of_row (C := Try.checked) (s := Rows.OpenSpec.upto Rows.nalStreamsSpec) (laid := []) own started (by kernel_rfl) Try.func5 (by
    obtain ⟨w, tape, i, h1, h2, h3, h4, h5, h6⟩ := OpenSpec.witness (enc := enc) (os := os) (f := 5) (fn := Try.f5) (conds := Rows.nalStreamsUptoRow.domain) (apart := false) (C := Try.checked) (s := Rows.OpenSpec.upto Rows.nalStreamsSpec) (k := Rows.uptoSmall) rfl false ⟨#[], #[.slice none 0 0, .string ByteArray.empty], []⟩ 8 (by kernel_rfl) (by kernel_rfl) (by kernel_rfl)
      (x := ([.nil, .lit (.string [])], [], [])) (by kernel_rfl) rfl (by kernel_rfl)
    exact ⟨w, tape, i, h1, h2, h3, h4, ⟨⟨h5.1, ⟨[], by simp [DataW.LaidVars], List.nodup_nil, fun _ _ h => by cases h⟩⟩, h5.2⟩, h6⟩) ?_
  intro W base args ds gs before hval0 hW hcnd hk0 _ _ hsh _
  have hk : Rows.uptoSmall H (ds ++ gs) = true := hk0 _ rfl
  have hval : ∀ (j : Nat) t v, Try.f5.params[j]? = some t → args[j]? = some v → Value.okWide Try.prog W .any base t v := hval0
  have hW' := hW
  obtain ⟨p, q, hA0, hV, rfl, hfz, hnd⟩ := hW
  have hA : DataW.TrodAll enc Try.prog W 0 (fun _ => true) true Try.f5.params.toList args.toList ds p := hA0
  rw [Try.params5] at hA hval
  obtain ⟨v0, vs0, d0, ds0, p0, q0, hargs, rfl, rfl, h0, r0⟩ := trodAll_cons hA
  obtain ⟨v1, vs1, d1, ds1, p1, q1, rfl, rfl, rfl, h1, r1⟩ := trodAll_cons r0
  obtain ⟨rfl, rfl, rfl⟩ := trodAll_nil r1
  obtain rfl : args = #[v0, v1] := by cases args; simp_all
  obtain ⟨rfl, rfl⟩ := trodVars_none hV
  have k0 := h0
  have lt0 : ∀ x ∈ p0, x.block < W.heap.size := by obtain ⟨m, hm⟩ := k0; exact DataW.trod_lt m _ _ _ hm
  obtain ⟨a0, len_a0, cap_a0, rfl⟩ := okWide_slice Try.underlying40 (hval 0 40 v0 rfl rfl)
  obtain ⟨fu0, q0⟩ := h0
  have q0' : DataW.trod enc Try.prog W 0 (fun _ => true) true fu0 40 [.slice a0 len_a0 cap_a0] = some (d0, p0) := q0
  obtain ⟨V_a0, B_a0, r_a0, F_a0, D_a0⟩ := open_structs_up (C := 3) Try.underlying40 Try.underlying32 cells32 (by decide) q0'
  have y_a0_Ref : ∀ k, k < cap_a0 → ∃ x, V_a0 k 0 = .int .i64 x ∧ (Lit.int .i64 x).wf = true := fun k hk => by
    obtain ⟨fu', y, hy, hbk⟩ := F_a0 k hk 0 _ rfl
    change DataW.trod enc Try.prog W 0 (fun _ => true) true fu' 3 ((((List.range 3).map (V_a0 k)).drop 0).take (Try.prog.cellsOf 3)) = some y at hy
    rw [cells3] at hy
    obtain ⟨x, e, dx, hw⟩ := DataW.trod_int Try.underlying3 hy
    have e2 : [V_a0 k 0] = [.int .i64 x] := e
    exact ⟨x, (List.cons.inj e2).1, hw⟩
  obtain ⟨z_a0_Ref, e_a0_Ref, w_a0_Ref⟩ := choose_ints (by decide) y_a0_Ref
  have y_a0_Type : ∀ k, k < cap_a0 → ∃ x, V_a0 k 1 = .int .i64 x ∧ (Lit.int .i64 x).wf = true := fun k hk => by
    obtain ⟨fu', y, hy, hbk⟩ := F_a0 k hk 1 _ rfl
    change DataW.trod enc Try.prog W 0 (fun _ => true) true fu' 3 ((((List.range 3).map (V_a0 k)).drop 1).take (Try.prog.cellsOf 3)) = some y at hy
    rw [cells3] at hy
    obtain ⟨x, e, dx, hw⟩ := DataW.trod_int Try.underlying3 hy
    have e2 : [V_a0 k 1] = [.int .i64 x] := e
    exact ⟨x, (List.cons.inj e2).1, hw⟩
  obtain ⟨z_a0_Type, e_a0_Type, w_a0_Type⟩ := choose_ints (by decide) y_a0_Type
  have y_a0_Rbsp : ∀ k, k < cap_a0 → ∃ x : ByteArray, V_a0 k 2 = .string x ∧ x.size ≤ maxLen ∧ x.size ≤ Rows.uptoBulk (B_a0 k) := fun k hk => by
    obtain ⟨fu', y, hy, hbk⟩ := F_a0 k hk 2 _ rfl
    change DataW.trod enc Try.prog W 0 (fun _ => true) true fu' 9 ((((List.range 3).map (V_a0 k)).drop 2).take (Try.prog.cellsOf 9)) = some y at hy
    rw [cells9] at hy
    obtain ⟨x, e, dx, hw⟩ := DataW.trod_string Try.underlying9 hy
    have e2 : [V_a0 k 2] = [.string x] := e
    have hb2 : x.size ≤ Rows.uptoBulk (B_a0 k) := by
      rw [dx] at hbk
      simp only [Rows.uptoBulk] at hbk
      have e3 : x.data.toList.length = x.size := by rw [Array.length_toList]; rfl
      omega
    exact ⟨x, (List.cons.inj e2).1, hw, hb2⟩
  obtain ⟨z_a0_Rbsp, e_a0_Rbsp, w_a0_Rbsp⟩ := choose_strings (fun k hk => let ⟨x, a, b, _⟩ := y_a0_Rbsp k hk; ⟨x, a, b⟩)
  have t_a0_Rbsp : ((List.range len_a0).map fun k => (z_a0_Rbsp k).size).sum ≤ 1048576 := by
    rcases D_a0 with e | ⟨sp, hd, hl⟩
    · have h0 : len_a0 = 0 := by have := r_a0.2.2; omega
      rw [h0]
      simp
    · have h : Rows.uptoBulkAll _ ≤ 1048576 := of_decide_eq_true hk
      simp only [List.cons_append, List.nil_append, Rows.uptoBulkAll, hd, Rows.uptoBulk] at h
      have hm := bulk_map B_a0 (fun k => (z_a0_Rbsp k).size) len_a0 (fun k hk => by
        have hkc : k < cap_a0 := Nat.lt_of_lt_of_le hk r_a0.2.2
        obtain ⟨x, a, _, b⟩ := y_a0_Rbsp k hkc
        rw [e_a0_Rbsp k hkc] at a
        injection a with a
        show (z_a0_Rbsp k).size ≤ _
        rw [a]
        exact b)
      omega
  have s_a0 : cap_a0 ≤ 1048576 := by
    rcases D_a0 with e | ⟨sp, hd, hl⟩
    · omega
    · have h : Rows.uptoBulkAll _ ≤ 1048576 := of_decide_eq_true hk
      simp only [List.cons_append, List.nil_append, Rows.uptoBulkAll, hd, Rows.uptoBulk] at h
      have h1 := bulk_len ((List.range len_a0).map B_a0)
      rw [List.length_map, List.length_range] at h1
      have h2 := bulk_len sp
      omega
  have k1 := h1
  have lt1 : ∀ x ∈ p1, x.block < W.heap.size := by obtain ⟨m, hm⟩ := k1; exact DataW.trod_lt m _ _ _ hm
  obtain ⟨a1, rfl, rfl, rfl, w_a1⟩ := open_string Try.underlying9 (hval 1 9 v1 rfl rfl) h1
  have s_a1 : a1.size ≤ 1048576 := by
    have h : Rows.uptoBulkAll _ ≤ 1048576 := of_decide_eq_true hk
    simp only [List.cons_append, List.nil_append, Rows.uptoBulkAll, Rows.uptoBulk] at h
    have e2 : a1.data.toList.length = a1.size := by rw [Array.length_toList]; rfl
    omega
  clear hA0 hval0
  refine (walk_NalStreams a0 len_a0 cap_a0 V_a0 z_a0_Ref z_a0_Type z_a0_Rbsp a1 W r_a0 (fun k hk => e_a0_Ref k (Nat.lt_of_lt_of_le hk r_a0.2.2)) (fun k hk => e_a0_Type k (Nat.lt_of_lt_of_le hk r_a0.2.2)) (fun k hk => e_a0_Rbsp k (Nat.lt_of_lt_of_le hk r_a0.2.2)) w_a0_Ref w_a0_Type w_a0_Rbsp s_a0 t_a0_Rbsp s_a1 hsh).mono fun e W' ⟨he, bel⟩ => ?_
  subst he
  exact (show ∃ v, _ = Ending.returned v ∧ Rows.nalStreamsSpec.post enc Try.prog Try.f5 false true false false W _ v W' from ⟨_, rfl, _, _, _, [], _, [], hW', trodAll_mk1 (shut_bool Try.underlying4 _), (trodAll_cons_mk (Below.trod laidOut (by kernel_rfl) (of_decide_eq_true (by kernel_rfl)) k0 bel lt0) (trodAll_cons_mk (Below.trod laidOut (by kernel_rfl) (of_decide_eq_true (by kernel_rfl)) k1 bel lt1) trodAll_mk0)), rfl, bel.frame _, fun h => by cases h⟩)

theorem over : Rows.nalStreamsUptoRow.holds Try.pinned (Rows.OpenSpec.upto Rows.nalStreamsSpec) :=
  OpenClaim.holds_of_cond 5 Try.f5 rfl rfl rfl rfl rfl rfl rfl ⟨rfl, rfl, rfl, rfl, rfl⟩ rfl rfl rfl rfl rfl (by kernel_rfl) Try.func5 (by kernel_rfl)
    (of_decide_eq_true (by kernel_rfl)) (by unfold Func.isWrapper; first | (rw [if_pos (by decide +kernel)]; kernel_rfl) | (rw [if_neg (by decide +kernel)]; exact ⟨rfl, rfl⟩))
    (fun os started H enc _ F => by rw [OpenClaim.pre_eq_preRow]; exact lifted os started H enc F)

theorem proved : Rows.NalStreamsUptoSaid := over
#print axioms proved
end Go.Proofs.Ytndlmhpbnaohpaa.lawNalStreams
