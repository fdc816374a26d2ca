/- The row's step of the statement ParamsPps: for every input the call returns true and nothing that was there is changed. Written by a program; the walk is YtegfglpaabddlaaLawF's walk_ParamsPps. -/
import Derived.Test.YtegfglpaabddlaaLawF
import Derived.ProofKit
import Derived.OpenShut
import Derived.ShutString
import Derived.ChangeOld
import Derived.Below
import Derived.JoinedCond
import Derived.Test.YtegfglpaabddlaaBulk
namespace Go.Proofs.Ytegfglpaabddlaa.lawParamsPps
open Go.ChangeShapes Go.WideShapes Go.ChangeAt Go.RowKit
open Go.ChangeMaps (open_string shut_string)
set_option linter.unusedVariables false
set_option linter.unusedSimpArgs false

theorem own : ownKnob Try.prog.godebug = none := by kernel_rfl
theorem laidOut : laidOutB Try.prog = true := by kernel_rfl
theorem cells43 : Try.prog.cellsOf 43 = 9 := by kernel_rfl
theorem cells_of_9 {α : Type} {cs : Array α} (h : cs.size = 9) : ∃ c0 c1 c2 c3 c4 c5 c6 c7 c8 : α, cs = #[c0, c1, c2, c3, c4, c5, c6, c7, c8] := by
  obtain ⟨l⟩ := cs
  match l, h with
  | [c0, c1, c2, c3, c4, c5, c6, c7, c8], _ => exact ⟨c0, c1, c2, c3, c4, c5, c6, c7, c8, rfl⟩

set_option maxRecDepth 100000 in
set_option maxHeartbeats 1000000 in
theorem lifted (os : Os) (started : os.Started) (H : Type) (enc : TypeId × Value → H) (F : Stop.Interp) :
    ReturnsInHanded {} Try.checked os 4 .any ((Rows.OpenSpec.upto Rows.paramsPpsSpec).pre6 enc Try.prog Try.f4 Rows.paramsPpsUptoRow.domain false) (((Rows.OpenSpec.upto Rows.paramsPpsSpec).at F).post enc Try.prog Try.f4 false true false false) := by
  refine returnsInHanded_of_cond (C := Try.checked) (s := Rows.OpenSpec.upto Rows.paramsPpsSpec) (k := Rows.uptoSmall) rfl own started (by kernel_rfl) Try.func4
    (OpenSpec.witness (enc := enc) (os := os) (f := 4) (fn := Try.f4) (conds := Rows.paramsPpsUptoRow.domain) (apart := false) (C := Try.checked) (s := Rows.OpenSpec.upto Rows.paramsPpsSpec) (k := Rows.uptoSmall) rfl false ⟨#[], #[.agg #[.bool false, .bool false, .int .i64 0, .int .i64 0, .int .i64 0, .bool false, .bool false, .int .i64 0, .int .i64 0], .string ByteArray.empty], []⟩ 8 (by kernel_rfl) (by kernel_rfl) (by kernel_rfl)
      (x := ([.agg [.lit (.bool false), .lit (.bool false), .lit (.int .i64 0), .lit (.int .i64 0), .lit (.int .i64 0), .lit (.bool false), .lit (.bool false), .lit (.int .i64 0), .lit (.int .i64 0)], .lit (.string [])], [], [])) (by kernel_rfl) rfl (by kernel_rfl)) ?_
  intro W base args ds gs before hval0 hW hcnd hk _
  have hval : ∀ (j : Nat) t v, Try.f4.params[j]? = some t → args[j]? = some v → Value.okWide Try.prog W .any base t v := hval0
  have hW' := hW
  obtain ⟨p, q, hA0, hV, rfl, hfz, hnd⟩ := hW
  have hA : DataW.TrodAll enc Try.prog W 0 (fun _ => true) true Try.f4.params.toList args.toList ds p := hA0
  rw [Try.params4] at hA hval
  obtain ⟨v0, vs0, d0, ds0, p0, q0, hargs, rfl, rfl, h0, r0⟩ := trodAll_cons hA
  obtain ⟨v1, vs1, d1, ds1, p1, q1, rfl, rfl, rfl, h1, r1⟩ := trodAll_cons r0
  obtain ⟨rfl, rfl, rfl⟩ := trodAll_nil r1
  obtain rfl : args = #[v0, v1] := by cases args; simp_all
  obtain ⟨rfl, rfl⟩ := trodVars_none hV
  have k0 := h0
  have lt0 : ∀ x ∈ p0, x.block < W.heap.size := by obtain ⟨m, hm⟩ := k0; exact DataW.trod_lt m _ _ _ hm
  obtain ⟨cs0, rfl, sz0⟩ := okWide_struct Try.underlying43 (hval 0 43 v0 rfl rfl)
  rw [cells43] at sz0
  obtain ⟨c0_0, c0_1, c0_2, c0_3, c0_4, c0_5, c0_6, c0_7, c0_8, rfl⟩ := cells_of_9 sz0
  obtain ⟨fu0, q0⟩ := h0
  obtain ⟨xs_a0, n_a0, _, dx_a0, _, xl_a0, hf_a0⟩ := DataW.trod_struct Try.underlying43 q0
  have q_a0_Cabac : DataW.trod enc Try.prog W 0 (fun _ => true) true n_a0 4 [c0_0] = some (xs_a0[0]'(by rw [xl_a0]; decide)) := (hf_a0 0 _ rfl).trans (List.getElem?_eq_getElem _)
  obtain ⟨a0_Cabac, e_a0_Cabac, _⟩ := DataW.trod_bool Try.underlying4 q_a0_Cabac
  obtain rfl : c0_0 = Value.bool a0_Cabac := by injection e_a0_Cabac
  have q_a0_Weighted : DataW.trod enc Try.prog W 0 (fun _ => true) true n_a0 4 [c0_1] = some (xs_a0[1]'(by rw [xl_a0]; decide)) := (hf_a0 1 _ rfl).trans (List.getElem?_eq_getElem _)
  obtain ⟨a0_Weighted, e_a0_Weighted, _⟩ := DataW.trod_bool Try.underlying4 q_a0_Weighted
  obtain rfl : c0_1 = Value.bool a0_Weighted := by injection e_a0_Weighted
  have q_a0_BiPred : DataW.trod enc Try.prog W 0 (fun _ => true) true n_a0 3 [c0_2] = some (xs_a0[2]'(by rw [xl_a0]; decide)) := (hf_a0 2 _ rfl).trans (List.getElem?_eq_getElem _)
  obtain ⟨a0_BiPred, e_a0_BiPred, _, w_a0_BiPred⟩ := DataW.trod_int Try.underlying3 q_a0_BiPred
  obtain rfl : c0_2 = Value.int .i64 a0_BiPred := by injection e_a0_BiPred
  have q_a0_Qp : DataW.trod enc Try.prog W 0 (fun _ => true) true n_a0 3 [c0_3] = some (xs_a0[3]'(by rw [xl_a0]; decide)) := (hf_a0 3 _ rfl).trans (List.getElem?_eq_getElem _)
  obtain ⟨a0_Qp, e_a0_Qp, _, w_a0_Qp⟩ := DataW.trod_int Try.underlying3 q_a0_Qp
  obtain rfl : c0_3 = Value.int .i64 a0_Qp := by injection e_a0_Qp
  have q_a0_ChromaQp : DataW.trod enc Try.prog W 0 (fun _ => true) true n_a0 3 [c0_4] = some (xs_a0[4]'(by rw [xl_a0]; decide)) := (hf_a0 4 _ rfl).trans (List.getElem?_eq_getElem _)
  obtain ⟨a0_ChromaQp, e_a0_ChromaQp, _, w_a0_ChromaQp⟩ := DataW.trod_int Try.underlying3 q_a0_ChromaQp
  obtain rfl : c0_4 = Value.int .i64 a0_ChromaQp := by injection e_a0_ChromaQp
  have q_a0_Constrained : DataW.trod enc Try.prog W 0 (fun _ => true) true n_a0 4 [c0_5] = some (xs_a0[5]'(by rw [xl_a0]; decide)) := (hf_a0 5 _ rfl).trans (List.getElem?_eq_getElem _)
  obtain ⟨a0_Constrained, e_a0_Constrained, _⟩ := DataW.trod_bool Try.underlying4 q_a0_Constrained
  obtain rfl : c0_5 = Value.bool a0_Constrained := by injection e_a0_Constrained
  have q_a0_Deblock : DataW.trod enc Try.prog W 0 (fun _ => true) true n_a0 4 [c0_6] = some (xs_a0[6]'(by rw [xl_a0]; decide)) := (hf_a0 6 _ rfl).trans (List.getElem?_eq_getElem _)
  obtain ⟨a0_Deblock, e_a0_Deblock, _⟩ := DataW.trod_bool Try.underlying4 q_a0_Deblock
  obtain rfl : c0_6 = Value.bool a0_Deblock := by injection e_a0_Deblock
  have q_a0_Active0 : DataW.trod enc Try.prog W 0 (fun _ => true) true n_a0 3 [c0_7] = some (xs_a0[7]'(by rw [xl_a0]; decide)) := (hf_a0 7 _ rfl).trans (List.getElem?_eq_getElem _)
  obtain ⟨a0_Active0, e_a0_Active0, _, w_a0_Active0⟩ := DataW.trod_int Try.underlying3 q_a0_Active0
  obtain rfl : c0_7 = Value.int .i64 a0_Active0 := by injection e_a0_Active0
  have q_a0_Active1 : DataW.trod enc Try.prog W 0 (fun _ => true) true n_a0 3 [c0_8] = some (xs_a0[8]'(by rw [xl_a0]; decide)) := (hf_a0 8 _ rfl).trans (List.getElem?_eq_getElem _)
  obtain ⟨a0_Active1, e_a0_Active1, _, w_a0_Active1⟩ := DataW.trod_int Try.underlying3 q_a0_Active1
  obtain rfl : c0_8 = Value.int .i64 a0_Active1 := by injection e_a0_Active1
  have k1 := h1
  have lt1 : ∀ x ∈ p1, x.block < W.heap.size := by obtain ⟨m, hm⟩ := k1; exact DataW.trod_lt m _ _ _ hm
  obtain ⟨a1, rfl, rfl, rfl, w_a1⟩ := open_string Try.underlying9 (hval 1 9 v1 rfl rfl) h1
  have s_a1 : a1.size ≤ 1048576 := by
    have h : Rows.uptoBulkAll _ ≤ 1048576 := of_decide_eq_true hk
    simp only [List.cons_append, List.nil_append, Rows.uptoBulkAll, Rows.uptoBulk] at h
    have e2 : a1.data.toList.length = a1.size := by rw [Array.length_toList]; rfl
    omega
  clear hA0 hval0
  refine (walk_ParamsPps a0_Cabac a0_Weighted a0_BiPred a0_Qp a0_ChromaQp a0_Constrained a0_Deblock a0_Active0 a0_Active1 a1 W w_a0_BiPred w_a0_Qp w_a0_ChromaQp w_a0_Active0 w_a0_Active1 s_a1).mono fun e W' ⟨he, bel⟩ => ?_
  subst he
  exact (show ∃ v, _ = Ending.returned v ∧ Rows.paramsPpsSpec.post enc Try.prog Try.f4 false true false false W _ v W' from ⟨_, rfl, _, _, _, [], _, [], hW', trodAll_mk1 (shut_bool Try.underlying4 _), (trodAll_cons_mk (Below.trod laidOut (by kernel_rfl) (of_decide_eq_true (by kernel_rfl)) k0 bel lt0) (trodAll_cons_mk (Below.trod laidOut (by kernel_rfl) (of_decide_eq_true (by kernel_rfl)) k1 bel lt1) trodAll_mk0)), rfl, bel.frame _, fun h => by cases h⟩)

theorem over : Rows.paramsPpsUptoRow.holds Try.pinned (Rows.OpenSpec.upto Rows.paramsPpsSpec) :=
  OpenClaim.holds_of_cond 4 Try.f4 rfl rfl rfl rfl rfl rfl rfl ⟨rfl, rfl, rfl, rfl, rfl⟩ rfl rfl rfl rfl rfl (by kernel_rfl) Try.func4 (by kernel_rfl)
    (of_decide_eq_true (by kernel_rfl)) (by unfold Func.isWrapper; first | (rw [if_pos (by decide +kernel)]; kernel_rfl) | (rw [if_neg (by decide +kernel)]; exact ⟨rfl, rfl⟩))
    (fun os started H enc _ F => lifted os started H enc F)

theorem proved : Rows.ParamsPpsUptoSaid := over
#print axioms proved
end Go.Proofs.Ytegfglpaabddlaa.lawParamsPps
