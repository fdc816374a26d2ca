/- The row's step of the statement ParamsTails: for every input the call returns true and nothing that was there is changed. Written by a program; the walk is YtegfglpaabddlaaLawD's walk_ParamsTails. -/
import Derived.Test.YtegfglpaabddlaaLawD
import Derived.ProofKit
import Derived.OpenShut
import Derived.ShutString
import Derived.ChangeOld
import Derived.Below
import Derived.SizedLaws
namespace Go.Proofs.Ytegfglpaabddlaa.lawParamsTails
open Go.ChangeShapes Go.WideShapes Go.ChangeAt Go.RowKit
open Go.ChangeMaps (open_string shut_string)
set_option linter.unusedVariables false
set_option linter.unusedSimpArgs false

theorem own : ownKnob Try.prog.godebug = none := by kernel_rfl
theorem laidOut : laidOutB Try.prog = true := by kernel_rfl
theorem bytes3 : Try.prog.bytesOf 3 = 8 := by kernel_rfl
theorem cells24 : Try.prog.cellsOf 24 = 9 := by kernel_rfl
theorem cells43 : Try.prog.cellsOf 43 = 9 := by kernel_rfl
theorem cells_of_9 {α : Type} {cs : Array α} (h : cs.size = 9) : ∃ c0 c1 c2 c3 c4 c5 c6 c7 c8 : α, cs = #[c0, c1, c2, c3, c4, c5, c6, c7, c8] := by
  obtain ⟨l⟩ := cs
  match l, h with
  | [c0, c1, c2, c3, c4, c5, c6, c7, c8], _ => exact ⟨c0, c1, c2, c3, c4, c5, c6, c7, c8, rfl⟩

set_option maxRecDepth 100000 in
set_option maxHeartbeats 1000000 in
theorem lifted (os : Os) (started : os.Started) (H : Type) (enc : TypeId × Value → H) :
    ReturnsInHanded {} Try.checked os 9 .any (Rows.paramsTailsSpec.pre6 enc Try.prog Try.f9 Rows.paramsTailsRow.domain false) (Rows.paramsTailsSpec.post enc Try.prog Try.f9 false true false false) := by
  refine returnsInHanded_of_change_sized (C := Try.checked) own started (by kernel_rfl) Try.func9
    (ChangeSpec.witness6 (enc := enc) (C := Try.checked) false ⟨#[], #[.agg #[.int .i64 0, .int .i64 0, .int .i64 0, .int .i64 0, .int .i64 0, .int .i64 0, .slice none 0 0, .int .i64 0, .int .i64 0], .agg #[.bool false, .bool false, .int .i64 0, .int .i64 0, .int .i64 0, .bool false, .bool false, .int .i64 0, .int .i64 0], .int .i64 0, .int .i64 0], []⟩ 8 (by kernel_rfl) (by kernel_rfl) (by kernel_rfl) (by kernel_rfl)) ?_
  intro W base args ds gs before hval0 hW hcnd hsz0 _
  have hsz : (DataW.weightsEach Try.prog (Try.f9.params.toList ++ Rows.paramsTailsSpec.plain.varTypes Try.prog) (ds ++ gs)).all (· ≤ reachBytes) = true := hsz0
  have hval : ∀ (j : Nat) t v, Try.f9.params[j]? = some t → args[j]? = some v → Value.okWide Try.prog W .any base t v := hval0
  have hW' := hW
  obtain ⟨p, q, hA0, hV, rfl, hfz, hnd⟩ := hW
  have hA : DataW.TrodAll enc Try.prog W 0 (fun _ => true) true Try.f9.params.toList args.toList ds p := hA0
  rw [Try.params9] at hA hval hsz
  obtain ⟨v0, vs0, d0, ds0, p0, q0, hargs, rfl, rfl, h0, r0⟩ := trodAll_cons hA
  obtain ⟨v1, vs1, d1, ds1, p1, q1, rfl, rfl, rfl, h1, r1⟩ := trodAll_cons r0
  obtain ⟨v2, vs2, d2, ds2, p2, q2, rfl, rfl, rfl, h2, r2⟩ := trodAll_cons r1
  obtain ⟨v3, vs3, d3, ds3, p3, q3, rfl, rfl, rfl, h3, r3⟩ := trodAll_cons r2
  obtain ⟨rfl, rfl, rfl⟩ := trodAll_nil r3
  obtain rfl : args = #[v0, v1, v2, v3] := by cases args; simp_all
  obtain ⟨rfl, rfl⟩ := trodVars_none hV
  have k0 := h0
  have lt0 : ∀ x ∈ p0, x.block < W.heap.size := by obtain ⟨m, hm⟩ := k0; exact DataW.trod_lt m _ _ _ hm
  obtain ⟨cs0, rfl, sz0⟩ := okWide_struct Try.underlying24 (hval 0 24 v0 rfl rfl)
  rw [cells24] at sz0
  obtain ⟨c0_0, c0_1, c0_2, c0_3, c0_4, c0_5, c0_6, c0_7, c0_8, rfl⟩ := cells_of_9 sz0
  obtain ⟨fu0, q0⟩ := h0
  obtain ⟨xs_a0, n_a0, _, dx_a0, _, xl_a0, hf_a0⟩ := DataW.trod_struct Try.underlying24 q0
  have q_a0_Wide : DataW.trod enc Try.prog W 0 (fun _ => true) true n_a0 3 [c0_0] = some (xs_a0[0]'(by rw [xl_a0]; decide)) := (hf_a0 0 _ rfl).trans (List.getElem?_eq_getElem _)
  obtain ⟨a0_Wide, e_a0_Wide, _, w_a0_Wide⟩ := DataW.trod_int Try.underlying3 q_a0_Wide
  obtain rfl : c0_0 = Value.int .i64 a0_Wide := by injection e_a0_Wide
  have q_a0_High : DataW.trod enc Try.prog W 0 (fun _ => true) true n_a0 3 [c0_1] = some (xs_a0[1]'(by rw [xl_a0]; decide)) := (hf_a0 1 _ rfl).trans (List.getElem?_eq_getElem _)
  obtain ⟨a0_High, e_a0_High, _, w_a0_High⟩ := DataW.trod_int Try.underlying3 q_a0_High
  obtain rfl : c0_1 = Value.int .i64 a0_High := by injection e_a0_High
  have q_a0_FrameBits : DataW.trod enc Try.prog W 0 (fun _ => true) true n_a0 3 [c0_2] = some (xs_a0[2]'(by rw [xl_a0]; decide)) := (hf_a0 2 _ rfl).trans (List.getElem?_eq_getElem _)
  obtain ⟨a0_FrameBits, e_a0_FrameBits, _, w_a0_FrameBits⟩ := DataW.trod_int Try.underlying3 q_a0_FrameBits
  obtain rfl : c0_2 = Value.int .i64 a0_FrameBits := by injection e_a0_FrameBits
  have q_a0_PocType : DataW.trod enc Try.prog W 0 (fun _ => true) true n_a0 3 [c0_3] = some (xs_a0[3]'(by rw [xl_a0]; decide)) := (hf_a0 3 _ rfl).trans (List.getElem?_eq_getElem _)
  obtain ⟨a0_PocType, e_a0_PocType, _, w_a0_PocType⟩ := DataW.trod_int Try.underlying3 q_a0_PocType
  obtain rfl : c0_3 = Value.int .i64 a0_PocType := by injection e_a0_PocType
  have q_a0_PocBits : DataW.trod enc Try.prog W 0 (fun _ => true) true n_a0 3 [c0_4] = some (xs_a0[4]'(by rw [xl_a0]; decide)) := (hf_a0 4 _ rfl).trans (List.getElem?_eq_getElem _)
  obtain ⟨a0_PocBits, e_a0_PocBits, _, w_a0_PocBits⟩ := DataW.trod_int Try.underlying3 q_a0_PocBits
  obtain rfl : c0_4 = Value.int .i64 a0_PocBits := by injection e_a0_PocBits
  have q_a0_NonRef : DataW.trod enc Try.prog W 0 (fun _ => true) true n_a0 3 [c0_5] = some (xs_a0[5]'(by rw [xl_a0]; decide)) := (hf_a0 5 _ rfl).trans (List.getElem?_eq_getElem _)
  obtain ⟨a0_NonRef, e_a0_NonRef, _, w_a0_NonRef⟩ := DataW.trod_int Try.underlying3 q_a0_NonRef
  obtain rfl : c0_5 = Value.int .i64 a0_NonRef := by injection e_a0_NonRef
  have q_a0_Cycle : DataW.trod enc Try.prog W 0 (fun _ => true) true n_a0 22 [c0_6] = some (xs_a0[6]'(by rw [xl_a0]; decide)) := (hf_a0 6 _ rfl).trans (List.getElem?_eq_getElem _)
  obtain ⟨a0_Cycle, len_a0_Cycle, cap_a0_Cycle, z_a0_Cycle, e_a0_Cycle, g_a0_Cycle, n_a0_Cycle, l_a0_Cycle, f_a0_Cycle, D_a0_Cycle⟩ := open_row1 Try.underlying22 Try.underlying3 (by kernel_rfl) q_a0_Cycle
  obtain rfl : c0_6 = Value.slice a0_Cycle len_a0_Cycle cap_a0_Cycle := e_a0_Cycle
  have s_a0_Cycle : cap_a0_Cycle * 8 ≤ 140737488351232 := by
    rcases D_a0_Cycle with e | ⟨el, sp, hd, hl⟩
    · omega
    · have hd0 : d0 = .agg (xs_a0.map (·.1)) := congrArg Prod.fst dx_a0
      have hm : (xs_a0.map (·.1))[6]? = some (.slice el sp) := by
        rw [List.getElem?_map, List.getElem?_eq_getElem (by rw [xl_a0]; decide : 6 < xs_a0.length), Option.map_some]
        exact congrArg some hd
      have hp := sized_part hsz (j := 0) (t := 24) rfl (by rw [hd0]; rfl) Try.underlying24
      have e := sized_slice hp (j := 6) (t := 22) (e := 3) (elems := el) (spare := sp) rfl hm Try.underlying22
      rw [bytes3, hl] at e
      exact e
  have w_a0_Cycle : IntsArg W a0_Cycle len_a0_Cycle cap_a0_Cycle z_a0_Cycle := ⟨g_a0_Cycle, n_a0_Cycle, l_a0_Cycle, s_a0_Cycle, f_a0_Cycle⟩
  have q_a0_Refs : DataW.trod enc Try.prog W 0 (fun _ => true) true n_a0 3 [c0_7] = some (xs_a0[7]'(by rw [xl_a0]; decide)) := (hf_a0 7 _ rfl).trans (List.getElem?_eq_getElem _)
  obtain ⟨a0_Refs, e_a0_Refs, _, w_a0_Refs⟩ := DataW.trod_int Try.underlying3 q_a0_Refs
  obtain rfl : c0_7 = Value.int .i64 a0_Refs := by injection e_a0_Refs
  have q_a0_Delay : DataW.trod enc Try.prog W 0 (fun _ => true) true n_a0 3 [c0_8] = some (xs_a0[8]'(by rw [xl_a0]; decide)) := (hf_a0 8 _ rfl).trans (List.getElem?_eq_getElem _)
  obtain ⟨a0_Delay, e_a0_Delay, _, w_a0_Delay⟩ := DataW.trod_int Try.underlying3 q_a0_Delay
  obtain rfl : c0_8 = Value.int .i64 a0_Delay := by injection e_a0_Delay
  have k1 := h1
  have lt1 : ∀ x ∈ p1, x.block < W.heap.size := by obtain ⟨m, hm⟩ := k1; exact DataW.trod_lt m _ _ _ hm
  obtain ⟨cs1, rfl, sz1⟩ := okWide_struct Try.underlying43 (hval 1 43 v1 rfl rfl)
  rw [cells43] at sz1
  obtain ⟨c1_0, c1_1, c1_2, c1_3, c1_4, c1_5, c1_6, c1_7, c1_8, rfl⟩ := cells_of_9 sz1
  obtain ⟨fu1, q1⟩ := h1
  obtain ⟨xs_a1, n_a1, _, dx_a1, _, xl_a1, hf_a1⟩ := DataW.trod_struct Try.underlying43 q1
  have q_a1_Cabac : DataW.trod enc Try.prog W 0 (fun _ => true) true n_a1 4 [c1_0] = some (xs_a1[0]'(by rw [xl_a1]; decide)) := (hf_a1 0 _ rfl).trans (List.getElem?_eq_getElem _)
  obtain ⟨a1_Cabac, e_a1_Cabac, _⟩ := DataW.trod_bool Try.underlying4 q_a1_Cabac
  obtain rfl : c1_0 = Value.bool a1_Cabac := by injection e_a1_Cabac
  have q_a1_Weighted : DataW.trod enc Try.prog W 0 (fun _ => true) true n_a1 4 [c1_1] = some (xs_a1[1]'(by rw [xl_a1]; decide)) := (hf_a1 1 _ rfl).trans (List.getElem?_eq_getElem _)
  obtain ⟨a1_Weighted, e_a1_Weighted, _⟩ := DataW.trod_bool Try.underlying4 q_a1_Weighted
  obtain rfl : c1_1 = Value.bool a1_Weighted := by injection e_a1_Weighted
  have q_a1_BiPred : DataW.trod enc Try.prog W 0 (fun _ => true) true n_a1 3 [c1_2] = some (xs_a1[2]'(by rw [xl_a1]; decide)) := (hf_a1 2 _ rfl).trans (List.getElem?_eq_getElem _)
  obtain ⟨a1_BiPred, e_a1_BiPred, _, w_a1_BiPred⟩ := DataW.trod_int Try.underlying3 q_a1_BiPred
  obtain rfl : c1_2 = Value.int .i64 a1_BiPred := by injection e_a1_BiPred
  have q_a1_Qp : DataW.trod enc Try.prog W 0 (fun _ => true) true n_a1 3 [c1_3] = some (xs_a1[3]'(by rw [xl_a1]; decide)) := (hf_a1 3 _ rfl).trans (List.getElem?_eq_getElem _)
  obtain ⟨a1_Qp, e_a1_Qp, _, w_a1_Qp⟩ := DataW.trod_int Try.underlying3 q_a1_Qp
  obtain rfl : c1_3 = Value.int .i64 a1_Qp := by injection e_a1_Qp
  have q_a1_ChromaQp : DataW.trod enc Try.prog W 0 (fun _ => true) true n_a1 3 [c1_4] = some (xs_a1[4]'(by rw [xl_a1]; decide)) := (hf_a1 4 _ rfl).trans (List.getElem?_eq_getElem _)
  obtain ⟨a1_ChromaQp, e_a1_ChromaQp, _, w_a1_ChromaQp⟩ := DataW.trod_int Try.underlying3 q_a1_ChromaQp
  obtain rfl : c1_4 = Value.int .i64 a1_ChromaQp := by injection e_a1_ChromaQp
  have q_a1_Constrained : DataW.trod enc Try.prog W 0 (fun _ => true) true n_a1 4 [c1_5] = some (xs_a1[5]'(by rw [xl_a1]; decide)) := (hf_a1 5 _ rfl).trans (List.getElem?_eq_getElem _)
  obtain ⟨a1_Constrained, e_a1_Constrained, _⟩ := DataW.trod_bool Try.underlying4 q_a1_Constrained
  obtain rfl : c1_5 = Value.bool a1_Constrained := by injection e_a1_Constrained
  have q_a1_Deblock : DataW.trod enc Try.prog W 0 (fun _ => true) true n_a1 4 [c1_6] = some (xs_a1[6]'(by rw [xl_a1]; decide)) := (hf_a1 6 _ rfl).trans (List.getElem?_eq_getElem _)
  obtain ⟨a1_Deblock, e_a1_Deblock, _⟩ := DataW.trod_bool Try.underlying4 q_a1_Deblock
  obtain rfl : c1_6 = Value.bool a1_Deblock := by injection e_a1_Deblock
  have q_a1_Active0 : DataW.trod enc Try.prog W 0 (fun _ => true) true n_a1 3 [c1_7] = some (xs_a1[7]'(by rw [xl_a1]; decide)) := (hf_a1 7 _ rfl).trans (List.getElem?_eq_getElem _)
  obtain ⟨a1_Active0, e_a1_Active0, _, w_a1_Active0⟩ := DataW.trod_int Try.underlying3 q_a1_Active0
  obtain rfl : c1_7 = Value.int .i64 a1_Active0 := by injection e_a1_Active0
  have q_a1_Active1 : DataW.trod enc Try.prog W 0 (fun _ => true) true n_a1 3 [c1_8] = some (xs_a1[8]'(by rw [xl_a1]; decide)) := (hf_a1 8 _ rfl).trans (List.getElem?_eq_getElem _)
  obtain ⟨a1_Active1, e_a1_Active1, _, w_a1_Active1⟩ := DataW.trod_int Try.underlying3 q_a1_Active1
  obtain rfl : c1_8 = Value.int .i64 a1_Active1 := by injection e_a1_Active1
  have k2 := h2
  have lt2 : ∀ x ∈ p2, x.block < W.heap.size := by obtain ⟨m, hm⟩ := k2; exact DataW.trod_lt m _ _ _ hm
  obtain ⟨a2, rfl, rfl, rfl, w_a2⟩ := open_int Try.underlying3 (hval 2 3 v2 rfl rfl) h2
  have k3 := h3
  have lt3 : ∀ x ∈ p3, x.block < W.heap.size := by obtain ⟨m, hm⟩ := k3; exact DataW.trod_lt m _ _ _ hm
  obtain ⟨a3, rfl, rfl, rfl, w_a3⟩ := open_int Try.underlying3 (hval 3 3 v3 rfl rfl) h3
  clear hA0 hval0
  refine (walk_ParamsTails a0_Wide a0_High a0_FrameBits a0_PocType a0_PocBits a0_NonRef a0_Cycle len_a0_Cycle cap_a0_Cycle z_a0_Cycle a0_Refs a0_Delay a1_Cabac a1_Weighted a1_BiPred a1_Qp a1_ChromaQp a1_Constrained a1_Deblock a1_Active0 a1_Active1 a2 a3 W w_a0_Wide w_a0_High w_a0_FrameBits w_a0_PocType w_a0_PocBits w_a0_NonRef w_a0_Cycle w_a0_Refs w_a0_Delay w_a1_BiPred w_a1_Qp w_a1_ChromaQp w_a1_Active0 w_a1_Active1 w_a2 w_a3).mono fun e W' ⟨he, bel⟩ => ?_
  subst he
  exact ⟨_, rfl, _, _, _, [], _, [], hW', trodAll_mk1 (shut_bool Try.underlying4 _), (trodAll_cons_mk (Below.trod laidOut (by kernel_rfl) (of_decide_eq_true (by kernel_rfl)) k0 bel lt0) (trodAll_cons_mk (Below.trod laidOut (by kernel_rfl) (of_decide_eq_true (by kernel_rfl)) k1 bel lt1) (trodAll_cons_mk (Below.trod laidOut (by kernel_rfl) (of_decide_eq_true (by kernel_rfl)) k2 bel lt2) (trodAll_cons_mk (Below.trod laidOut (by kernel_rfl) (of_decide_eq_true (by kernel_rfl)) k3 bel lt3) trodAll_mk0)))), rfl, bel.frame _, fun h => by cases h⟩

theorem over : Rows.paramsTailsRow.holds Try.pinned (OpenSpec.ofChange Rows.paramsTailsSpec) :=
  OpenClaim.holds_of_wide 9 Try.f9 rfl rfl rfl rfl rfl rfl rfl ⟨rfl, rfl, rfl, rfl, rfl⟩ rfl rfl rfl rfl rfl (by kernel_rfl) Try.func9 (by kernel_rfl)
    (of_decide_eq_true (by kernel_rfl)) (by unfold Func.isWrapper; first | (rw [if_pos (by decide +kernel)]; kernel_rfl) | (rw [if_neg (by decide +kernel)]; exact ⟨rfl, rfl⟩))
    (fun os started H enc _ => lifted os started H enc)

theorem proved : Rows.ParamsTailsSaid := over
#print axioms proved
end Go.Proofs.Ytegfglpaabddlaa.lawParamsTails
