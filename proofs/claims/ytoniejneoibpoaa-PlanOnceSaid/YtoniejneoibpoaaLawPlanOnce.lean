/- The row's step of the statement PlanOnce: for every input the call returns true and nothing that was there is changed. Written by a program; the walk is YtoniejneoibpoaaPlanQ's walk_PlanOnce. -/
import Derived.Test.YtoniejneoibpoaaPlanQ
import Derived.ProofKit
import Derived.OpenShut
import Derived.ShutString
import Derived.ChangeOld
import Derived.Below
namespace Go.Proofs.Ytoniejneoibpoaa.lawPlanOnce
open Go.ChangeShapes Go.WideShapes Go.ChangeAt Go.RowKit
open Go.ChangeMaps (open_string shut_string)
set_option linter.unusedVariables false
set_option linter.unusedSimpArgs false

theorem own : ownKnob Try.prog.godebug = none := by kernel_rfl
theorem laidOut : laidOutB Try.prog = true := by kernel_rfl
theorem cells24 : Try.prog.cellsOf 24 = 12 := by kernel_rfl
theorem cells_of_12 {α : Type} {cs : Array α} (h : cs.size = 12) : ∃ c0 c1 c2 c3 c4 c5 c6 c7 c8 c9 c10 c11 : α, cs = #[c0, c1, c2, c3, c4, c5, c6, c7, c8, c9, c10, c11] := by
  obtain ⟨l⟩ := cs
  match l, h with
  | [c0, c1, c2, c3, c4, c5, c6, c7, c8, c9, c10, c11], _ => exact ⟨c0, c1, c2, c3, c4, c5, c6, c7, c8, c9, c10, c11, rfl⟩

set_option maxRecDepth 100000 in
set_option maxHeartbeats 1000000 in
theorem lifted (os : Os) (started : os.Started) (H : Type) (enc : TypeId × Value → H) :
    ReturnsInHanded {} Try.checked os 5 .any (Rows.planOnceSpec.pre6 enc Try.prog Try.f5 Rows.planOnceRow.domain false) (Rows.planOnceSpec.post enc Try.prog Try.f5 false true false false) := by
  refine returnsInHanded_of_change (C := Try.checked) own started (by kernel_rfl) Try.func5
    (ChangeSpec.witness6 (enc := enc) (C := Try.checked) false ⟨#[], #[.agg #[.int .i64 0, .int .i64 0, .int .i64 0, .int .i64 0, .int .i64 0, .int .i64 0, .bool false, .int .i64 0, .bool false, .bool false, .int .i64 0, .int .i64 0], .int .i64 0], []⟩ 8 (by kernel_rfl) (by kernel_rfl) (by kernel_rfl) (by kernel_rfl)) ?_
  intro W base args ds gs before hval0 hW hcnd _
  have hval : ∀ (j : Nat) t v, Try.f5.params[j]? = some t → args[j]? = some v → Value.okWide Try.prog W .any base t v := hval0
  have hW' := hW
  obtain ⟨p, q, hA0, hV, rfl, hfz, hnd⟩ := hW
  have hA : DataW.TrodAll enc Try.prog W 0 (fun _ => true) true Try.f5.params.toList args.toList ds p := hA0
  rw [Try.params5] at hA hval
  obtain ⟨v0, vs0, d0, ds0, p0, q0, hargs, rfl, rfl, h0, r0⟩ := trodAll_cons hA
  obtain ⟨v1, vs1, d1, ds1, p1, q1, rfl, rfl, rfl, h1, r1⟩ := trodAll_cons r0
  obtain ⟨rfl, rfl, rfl⟩ := trodAll_nil r1
  obtain rfl : args = #[v0, v1] := by cases args; simp_all
  obtain ⟨rfl, rfl⟩ := trodVars_none hV
  have k0 := h0
  have lt0 : ∀ x ∈ p0, x.block < W.heap.size := by obtain ⟨m, hm⟩ := k0; exact DataW.trod_lt m _ _ _ hm
  obtain ⟨cs0, rfl, sz0⟩ := okWide_struct Try.underlying24 (hval 0 24 v0 rfl rfl)
  rw [cells24] at sz0
  obtain ⟨c0_0, c0_1, c0_2, c0_3, c0_4, c0_5, c0_6, c0_7, c0_8, c0_9, c0_10, c0_11, rfl⟩ := cells_of_12 sz0
  obtain ⟨fu0, q0⟩ := h0
  obtain ⟨xs_a0, n_a0, _, _, _, xl_a0, hf_a0⟩ := DataW.trod_struct Try.underlying24 q0
  have q_a0_Wide : DataW.trod enc Try.prog W 0 (fun _ => true) true n_a0 3 [c0_0] = some (xs_a0[0]'(by rw [xl_a0]; decide)) := (hf_a0 0 _ rfl).trans (List.getElem?_eq_getElem _)
  obtain ⟨a0_Wide, e_a0_Wide, _, w_a0_Wide⟩ := DataW.trod_int Try.underlying3 q_a0_Wide
  obtain rfl : c0_0 = Value.int .i64 a0_Wide := by injection e_a0_Wide
  have q_a0_High : DataW.trod enc Try.prog W 0 (fun _ => true) true n_a0 3 [c0_1] = some (xs_a0[1]'(by rw [xl_a0]; decide)) := (hf_a0 1 _ rfl).trans (List.getElem?_eq_getElem _)
  obtain ⟨a0_High, e_a0_High, _, w_a0_High⟩ := DataW.trod_int Try.underlying3 q_a0_High
  obtain rfl : c0_1 = Value.int .i64 a0_High := by injection e_a0_High
  have q_a0_Refs : DataW.trod enc Try.prog W 0 (fun _ => true) true n_a0 3 [c0_2] = some (xs_a0[2]'(by rw [xl_a0]; decide)) := (hf_a0 2 _ rfl).trans (List.getElem?_eq_getElem _)
  obtain ⟨a0_Refs, e_a0_Refs, _, w_a0_Refs⟩ := DataW.trod_int Try.underlying3 q_a0_Refs
  obtain rfl : c0_2 = Value.int .i64 a0_Refs := by injection e_a0_Refs
  have q_a0_Qp : DataW.trod enc Try.prog W 0 (fun _ => true) true n_a0 3 [c0_3] = some (xs_a0[3]'(by rw [xl_a0]; decide)) := (hf_a0 3 _ rfl).trans (List.getElem?_eq_getElem _)
  obtain ⟨a0_Qp, e_a0_Qp, _, w_a0_Qp⟩ := DataW.trod_int Try.underlying3 q_a0_Qp
  obtain rfl : c0_3 = Value.int .i64 a0_Qp := by injection e_a0_Qp
  have q_a0_Bs : DataW.trod enc Try.prog W 0 (fun _ => true) true n_a0 3 [c0_4] = some (xs_a0[4]'(by rw [xl_a0]; decide)) := (hf_a0 4 _ rfl).trans (List.getElem?_eq_getElem _)
  obtain ⟨a0_Bs, e_a0_Bs, _, w_a0_Bs⟩ := DataW.trod_int Try.underlying3 q_a0_Bs
  obtain rfl : c0_4 = Value.int .i64 a0_Bs := by injection e_a0_Bs
  have q_a0_Period : DataW.trod enc Try.prog W 0 (fun _ => true) true n_a0 3 [c0_5] = some (xs_a0[5]'(by rw [xl_a0]; decide)) := (hf_a0 5 _ rfl).trans (List.getElem?_eq_getElem _)
  obtain ⟨a0_Period, e_a0_Period, _, w_a0_Period⟩ := DataW.trod_int Try.underlying3 q_a0_Period
  obtain rfl : c0_5 = Value.int .i64 a0_Period := by injection e_a0_Period
  have q_a0_Cabac : DataW.trod enc Try.prog W 0 (fun _ => true) true n_a0 4 [c0_6] = some (xs_a0[6]'(by rw [xl_a0]; decide)) := (hf_a0 6 _ rfl).trans (List.getElem?_eq_getElem _)
  obtain ⟨a0_Cabac, e_a0_Cabac, _⟩ := DataW.trod_bool Try.underlying4 q_a0_Cabac
  obtain rfl : c0_6 = Value.bool a0_Cabac := by injection e_a0_Cabac
  have q_a0_Slices : DataW.trod enc Try.prog W 0 (fun _ => true) true n_a0 3 [c0_7] = some (xs_a0[7]'(by rw [xl_a0]; decide)) := (hf_a0 7 _ rfl).trans (List.getElem?_eq_getElem _)
  obtain ⟨a0_Slices, e_a0_Slices, _, w_a0_Slices⟩ := DataW.trod_int Try.underlying3 q_a0_Slices
  obtain rfl : c0_7 = Value.int .i64 a0_Slices := by injection e_a0_Slices
  have q_a0_Pcm : DataW.trod enc Try.prog W 0 (fun _ => true) true n_a0 4 [c0_8] = some (xs_a0[8]'(by rw [xl_a0]; decide)) := (hf_a0 8 _ rfl).trans (List.getElem?_eq_getElem _)
  obtain ⟨a0_Pcm, e_a0_Pcm, _⟩ := DataW.trod_bool Try.underlying4 q_a0_Pcm
  obtain rfl : c0_8 = Value.bool a0_Pcm := by injection e_a0_Pcm
  have q_a0_Deblock : DataW.trod enc Try.prog W 0 (fun _ => true) true n_a0 4 [c0_9] = some (xs_a0[9]'(by rw [xl_a0]; decide)) := (hf_a0 9 _ rfl).trans (List.getElem?_eq_getElem _)
  obtain ⟨a0_Deblock, e_a0_Deblock, _⟩ := DataW.trod_bool Try.underlying4 q_a0_Deblock
  obtain rfl : c0_9 = Value.bool a0_Deblock := by injection e_a0_Deblock
  have q_a0_PocType : DataW.trod enc Try.prog W 0 (fun _ => true) true n_a0 3 [c0_10] = some (xs_a0[10]'(by rw [xl_a0]; decide)) := (hf_a0 10 _ rfl).trans (List.getElem?_eq_getElem _)
  obtain ⟨a0_PocType, e_a0_PocType, _, w_a0_PocType⟩ := DataW.trod_int Try.underlying3 q_a0_PocType
  obtain rfl : c0_10 = Value.int .i64 a0_PocType := by injection e_a0_PocType
  have q_a0_Bits : DataW.trod enc Try.prog W 0 (fun _ => true) true n_a0 3 [c0_11] = some (xs_a0[11]'(by rw [xl_a0]; decide)) := (hf_a0 11 _ rfl).trans (List.getElem?_eq_getElem _)
  obtain ⟨a0_Bits, e_a0_Bits, _, w_a0_Bits⟩ := DataW.trod_int Try.underlying3 q_a0_Bits
  obtain rfl : c0_11 = Value.int .i64 a0_Bits := by injection e_a0_Bits
  have k1 := h1
  have lt1 : ∀ x ∈ p1, x.block < W.heap.size := by obtain ⟨m, hm⟩ := k1; exact DataW.trod_lt m _ _ _ hm
  obtain ⟨a1, rfl, rfl, rfl, w_a1⟩ := open_int Try.underlying3 (hval 1 3 v1 rfl rfl) h1
  clear hA0 hval0
  refine (walk_PlanOnce a0_Wide a0_High a0_Refs a0_Qp a0_Bs a0_Period a0_Cabac a0_Slices a0_Pcm a0_Deblock a0_PocType a0_Bits a1 W w_a0_Wide w_a0_High w_a0_Refs w_a0_Qp w_a0_Bs w_a0_Period w_a0_Slices w_a0_PocType w_a0_Bits w_a1).mono fun e W' ⟨he, bel⟩ => ?_
  subst he
  exact ⟨_, rfl, _, _, _, [], _, [], hW', trodAll_mk1 (shut_bool Try.underlying4 _), (trodAll_cons_mk (Below.trod laidOut (by kernel_rfl) (of_decide_eq_true (by kernel_rfl)) k0 bel lt0) (trodAll_cons_mk (Below.trod laidOut (by kernel_rfl) (of_decide_eq_true (by kernel_rfl)) k1 bel lt1) trodAll_mk0)), rfl, bel.frame _, fun h => by cases h⟩

theorem over : Rows.planOnceRow.holds Try.pinned (OpenSpec.ofChange Rows.planOnceSpec) :=
  OpenClaim.holds_of_wide 5 Try.f5 rfl rfl rfl rfl rfl rfl rfl ⟨rfl, rfl, rfl, rfl, rfl⟩ rfl rfl rfl rfl rfl (by kernel_rfl) Try.func5 (by kernel_rfl)
    (of_decide_eq_true (by kernel_rfl)) (by unfold Func.isWrapper; first | (rw [if_pos (by decide +kernel)]; kernel_rfl) | (rw [if_neg (by decide +kernel)]; exact ⟨rfl, rfl⟩))
    (fun os started H enc _ => lifted os started H enc)

theorem proved : Rows.PlanOnceSaid := over
#print axioms proved
end Go.Proofs.Ytoniejneoibpoaa.lawPlanOnce
