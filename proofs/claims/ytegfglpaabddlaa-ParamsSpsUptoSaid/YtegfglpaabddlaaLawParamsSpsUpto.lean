/- The row's step of the statement ParamsSps: for every input the call returns true and nothing that was there is changed. Written by a program; the walk is YtegfglpaabddlaaLawGM's walk_ParamsSps. -/
import Derived.Test.YtegfglpaabddlaaLawGM
import Derived.ProofKit
import Derived.OpenShut
import Derived.ShutString
import Derived.ChangeOld
import Derived.Below
import Derived.JoinedCond
import Derived.Test.YtegfglpaabddlaaBulk
namespace Go.Proofs.Ytegfglpaabddlaa.lawParamsSps
open Go.ChangeShapes Go.WideShapes Go.ChangeAt Go.RowKit
open Go.ChangeMaps (open_string shut_string)
set_option linter.unusedVariables false
set_option linter.unusedSimpArgs false

theorem own : ownKnob Try.prog.godebug = none := by kernel_rfl
theorem laidOut : laidOutB Try.prog = true := by kernel_rfl
theorem cells24 : Try.prog.cellsOf 24 = 9 := by kernel_rfl
theorem cells_of_9 {α : Type} {cs : Array α} (h : cs.size = 9) : ∃ c0 c1 c2 c3 c4 c5 c6 c7 c8 : α, cs = #[c0, c1, c2, c3, c4, c5, c6, c7, c8] := by
  obtain ⟨l⟩ := cs
  match l, h with
  | [c0, c1, c2, c3, c4, c5, c6, c7, c8], _ => exact ⟨c0, c1, c2, c3, c4, c5, c6, c7, c8, rfl⟩

set_option maxRecDepth 100000 in
set_option maxHeartbeats 1000000 in
theorem lifted (os : Os) (started : os.Started) (H : Type) (enc : TypeId × Value → H) (F : Stop.Interp) :
    ReturnsInHanded {} Try.checked os 3 .any ((Rows.OpenSpec.upto Rows.paramsSpsSpec).pre6 enc Try.prog Try.f3 Rows.paramsSpsUptoRow.domain false) (((Rows.OpenSpec.upto Rows.paramsSpsSpec).at F).post enc Try.prog Try.f3 false true false false) := by
  refine returnsInHanded_of_cond (C := Try.checked) (s := Rows.OpenSpec.upto Rows.paramsSpsSpec) (k := Rows.uptoSmall) rfl own started (by kernel_rfl) Try.func3
    (OpenSpec.witness (enc := enc) (os := os) (f := 3) (fn := Try.f3) (conds := Rows.paramsSpsUptoRow.domain) (apart := false) (C := Try.checked) (s := Rows.OpenSpec.upto Rows.paramsSpsSpec) (k := Rows.uptoSmall) rfl false ⟨#[], #[.agg #[.int .i64 0, .int .i64 0, .int .i64 0, .int .i64 0, .int .i64 0, .int .i64 0, .slice none 0 0, .int .i64 0, .int .i64 0], .string ByteArray.empty], []⟩ 8 (by kernel_rfl) (by kernel_rfl) (by kernel_rfl)
      (x := ([.agg [.lit (.int .i64 0), .lit (.int .i64 0), .lit (.int .i64 0), .lit (.int .i64 0), .lit (.int .i64 0), .lit (.int .i64 0), .nil, .lit (.int .i64 0), .lit (.int .i64 0)], .lit (.string [])], [], [])) (by kernel_rfl) rfl (by kernel_rfl)) ?_
  intro W base args ds gs before hval0 hW hcnd hk _
  have hval : ∀ (j : Nat) t v, Try.f3.params[j]? = some t → args[j]? = some v → Value.okWide Try.prog W .any base t v := hval0
  have hW' := hW
  obtain ⟨p, q, hA0, hV, rfl, hfz, hnd⟩ := hW
  have hA : DataW.TrodAll enc Try.prog W 0 (fun _ => true) true Try.f3.params.toList args.toList ds p := hA0
  rw [Try.params3] at hA hval
  obtain ⟨v0, vs0, d0, ds0, p0, q0, hargs, rfl, rfl, h0, r0⟩ := trodAll_cons hA
  obtain ⟨v1, vs1, d1, ds1, p1, q1, rfl, rfl, rfl, h1, r1⟩ := trodAll_cons r0
  obtain ⟨rfl, rfl, rfl⟩ := trodAll_nil r1
  obtain rfl : args = #[v0, v1] := by cases args; simp_all
  obtain ⟨rfl, rfl⟩ := trodVars_none hV
  have k0 := h0
  have lt0 : ∀ x ∈ p0, x.block < W.heap.size := by obtain ⟨m, hm⟩ := k0; exact DataW.trod_lt m _ _ _ hm
  obtain ⟨cs0, rfl, sz0⟩ := okWide_struct Try.underlying24 (hval 0 24 v0 rfl rfl)
  rw [cells24] at sz0
  obtain ⟨c0_0, c0_1, c0_2, c0_3, c0_4, c0_5, c0_6, c0_7, c0_8, rfl⟩ := cells_of_9 sz0
  obtain ⟨fu0, q0⟩ := h0
  obtain ⟨xs_a0, n_a0, _, dx_a0, _, xl_a0, hf_a0⟩ := DataW.trod_struct Try.underlying24 q0
  have q_a0_Wide : DataW.trod enc Try.prog W 0 (fun _ => true) true n_a0 3 [c0_0] = some (xs_a0[0]'(by rw [xl_a0]; decide)) := (hf_a0 0 _ rfl).trans (List.getElem?_eq_getElem _)
  obtain ⟨a0_Wide, e_a0_Wide, _, w_a0_Wide⟩ := DataW.trod_int Try.underlying3 q_a0_Wide
  obtain rfl : c0_0 = Value.int .i64 a0_Wide := by injection e_a0_Wide
  have q_a0_High : DataW.trod enc Try.prog W 0 (fun _ => true) true n_a0 3 [c0_1] = some (xs_a0[1]'(by rw [xl_a0]; decide)) := (hf_a0 1 _ rfl).trans (List.getElem?_eq_getElem _)
  obtain ⟨a0_High, e_a0_High, _, w_a0_High⟩ := DataW.trod_int Try.underlying3 q_a0_High
  obtain rfl : c0_1 = Value.int .i64 a0_High := by injection e_a0_High
  have q_a0_FrameBits : DataW.trod enc Try.prog W 0 (fun _ => true) true n_a0 3 [c0_2] = some (xs_a0[2]'(by rw [xl_a0]; decide)) := (hf_a0 2 _ rfl).trans (List.getElem?_eq_getElem _)
  obtain ⟨a0_FrameBits, e_a0_FrameBits, _, w_a0_FrameBits⟩ := DataW.trod_int Try.underlying3 q_a0_FrameBits
  obtain rfl : c0_2 = Value.int .i64 a0_FrameBits := by injection e_a0_FrameBits
  have q_a0_PocType : DataW.trod enc Try.prog W 0 (fun _ => true) true n_a0 3 [c0_3] = some (xs_a0[3]'(by rw [xl_a0]; decide)) := (hf_a0 3 _ rfl).trans (List.getElem?_eq_getElem _)
  obtain ⟨a0_PocType, e_a0_PocType, _, w_a0_PocType⟩ := DataW.trod_int Try.underlying3 q_a0_PocType
  obtain rfl : c0_3 = Value.int .i64 a0_PocType := by injection e_a0_PocType
  have q_a0_PocBits : DataW.trod enc Try.prog W 0 (fun _ => true) true n_a0 3 [c0_4] = some (xs_a0[4]'(by rw [xl_a0]; decide)) := (hf_a0 4 _ rfl).trans (List.getElem?_eq_getElem _)
  obtain ⟨a0_PocBits, e_a0_PocBits, _, w_a0_PocBits⟩ := DataW.trod_int Try.underlying3 q_a0_PocBits
  obtain rfl : c0_4 = Value.int .i64 a0_PocBits := by injection e_a0_PocBits
  have q_a0_NonRef : DataW.trod enc Try.prog W 0 (fun _ => true) true n_a0 3 [c0_5] = some (xs_a0[5]'(by rw [xl_a0]; decide)) := (hf_a0 5 _ rfl).trans (List.getElem?_eq_getElem _)
  obtain ⟨a0_NonRef, e_a0_NonRef, _, w_a0_NonRef⟩ := DataW.trod_int Try.underlying3 q_a0_NonRef
  obtain rfl : c0_5 = Value.int .i64 a0_NonRef := by injection e_a0_NonRef
  have q_a0_Cycle : DataW.trod enc Try.prog W 0 (fun _ => true) true n_a0 22 [c0_6] = some (xs_a0[6]'(by rw [xl_a0]; decide)) := (hf_a0 6 _ rfl).trans (List.getElem?_eq_getElem _)
  obtain ⟨a0_Cycle, len_a0_Cycle, cap_a0_Cycle, z_a0_Cycle, e_a0_Cycle, g_a0_Cycle, n_a0_Cycle, l_a0_Cycle, f_a0_Cycle, D_a0_Cycle⟩ := open_row1 Try.underlying22 Try.underlying3 (by kernel_rfl) q_a0_Cycle
  obtain rfl : c0_6 = Value.slice a0_Cycle len_a0_Cycle cap_a0_Cycle := e_a0_Cycle
  have s_a0_Cycle : cap_a0_Cycle * 8 ≤ 140737488351232 := by
    rcases D_a0_Cycle with e | ⟨el, sp, hd, hl⟩
    · omega
    · have hd0 : d0 = .agg (xs_a0.map (·.1)) := congrArg Prod.fst dx_a0
      have hm : (xs_a0.map (·.1))[6]? = some (.slice el sp) := by
        rw [List.getElem?_map, List.getElem?_eq_getElem (by rw [xl_a0]; decide : 6 < xs_a0.length), Option.map_some]
        exact congrArg some hd
      have h : Rows.uptoBulkAll _ ≤ 1048576 := of_decide_eq_true hk
      have h2 := bulk_part (List.mem_of_getElem? hm)
      simp only [List.cons_append, List.nil_append, Rows.uptoBulkAll, hd0, Rows.uptoBulk] at h h2
      have h3 := bulk_len el
      have h4 := bulk_len sp
      omega
  have w_a0_Cycle : IntsArg W a0_Cycle len_a0_Cycle cap_a0_Cycle z_a0_Cycle := ⟨g_a0_Cycle, n_a0_Cycle, l_a0_Cycle, s_a0_Cycle, f_a0_Cycle⟩
  have q_a0_Refs : DataW.trod enc Try.prog W 0 (fun _ => true) true n_a0 3 [c0_7] = some (xs_a0[7]'(by rw [xl_a0]; decide)) := (hf_a0 7 _ rfl).trans (List.getElem?_eq_getElem _)
  obtain ⟨a0_Refs, e_a0_Refs, _, w_a0_Refs⟩ := DataW.trod_int Try.underlying3 q_a0_Refs
  obtain rfl : c0_7 = Value.int .i64 a0_Refs := by injection e_a0_Refs
  have q_a0_Delay : DataW.trod enc Try.prog W 0 (fun _ => true) true n_a0 3 [c0_8] = some (xs_a0[8]'(by rw [xl_a0]; decide)) := (hf_a0 8 _ rfl).trans (List.getElem?_eq_getElem _)
  obtain ⟨a0_Delay, e_a0_Delay, _, w_a0_Delay⟩ := DataW.trod_int Try.underlying3 q_a0_Delay
  obtain rfl : c0_8 = Value.int .i64 a0_Delay := by injection e_a0_Delay
  have k1 := h1
  have lt1 : ∀ x ∈ p1, x.block < W.heap.size := by obtain ⟨m, hm⟩ := k1; exact DataW.trod_lt m _ _ _ hm
  obtain ⟨a1, rfl, rfl, rfl, w_a1⟩ := open_string Try.underlying9 (hval 1 9 v1 rfl rfl) h1
  have s_a1 : a1.size ≤ 1048576 := by
    have h : Rows.uptoBulkAll _ ≤ 1048576 := of_decide_eq_true hk
    simp only [List.cons_append, List.nil_append, Rows.uptoBulkAll, Rows.uptoBulk] at h
    have e2 : a1.data.toList.length = a1.size := by rw [Array.length_toList]; rfl
    omega
  clear hA0 hval0
  refine (walk_ParamsSps a0_Wide a0_High a0_FrameBits a0_PocType a0_PocBits a0_NonRef a0_Cycle len_a0_Cycle cap_a0_Cycle z_a0_Cycle a0_Refs a0_Delay a1 W w_a0_Wide w_a0_High w_a0_FrameBits w_a0_PocType w_a0_PocBits w_a0_NonRef w_a0_Cycle w_a0_Refs w_a0_Delay s_a1).mono fun e W' ⟨he, bel⟩ => ?_
  subst he
  exact (show ∃ v, _ = Ending.returned v ∧ Rows.paramsSpsSpec.post enc Try.prog Try.f3 false true false false W _ v W' from ⟨_, rfl, _, _, _, [], _, [], hW', trodAll_mk1 (shut_bool Try.underlying4 _), (trodAll_cons_mk (Below.trod laidOut (by kernel_rfl) (of_decide_eq_true (by kernel_rfl)) k0 bel lt0) (trodAll_cons_mk (Below.trod laidOut (by kernel_rfl) (of_decide_eq_true (by kernel_rfl)) k1 bel lt1) trodAll_mk0)), rfl, bel.frame _, fun h => by cases h⟩)

theorem over : Rows.paramsSpsUptoRow.holds Try.pinned (Rows.OpenSpec.upto Rows.paramsSpsSpec) :=
  OpenClaim.holds_of_cond 3 Try.f3 rfl rfl rfl rfl rfl rfl rfl ⟨rfl, rfl, rfl, rfl, rfl⟩ rfl rfl rfl rfl rfl (by kernel_rfl) Try.func3 (by kernel_rfl)
    (of_decide_eq_true (by kernel_rfl)) (by unfold Func.isWrapper; first | (rw [if_pos (by decide +kernel)]; kernel_rfl) | (rw [if_neg (by decide +kernel)]; exact ⟨rfl, rfl⟩))
    (fun os started H enc _ F => lifted os started H enc F)

theorem proved : Rows.ParamsSpsUptoSaid := over
#print axioms proved
end Go.Proofs.Ytegfglpaabddlaa.lawParamsSps
