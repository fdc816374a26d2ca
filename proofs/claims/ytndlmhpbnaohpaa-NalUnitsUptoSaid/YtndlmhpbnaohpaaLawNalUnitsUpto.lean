/- The row's step of the statement NalUnits: for every input the call returns true and nothing that was there is changed. Written by a program; the walk is YtndlmhpbnaohpaaLawC's walk_NalUnits. -/
import Derived.Test.YtndlmhpbnaohpaaLawC
import Derived.ProofKit
import Derived.OpenShut
import Derived.ShutString
import Derived.ChangeOld
import Derived.Below
import Derived.Deep.DeepHandedRow
import Derived.HandedShaped
import Derived.JoinedCond
import Derived.Test.YtndlmhpbnaohpaaBulk
namespace Go.Proofs.Ytndlmhpbnaohpaa.lawNalUnits
open Go.ChangeShapes Go.WideShapes Go.ChangeAt Go.RowKit
open Go.ChangeMaps (open_string shut_string)
set_option linter.unusedVariables false
set_option linter.unusedSimpArgs false

theorem own : ownKnob Try.prog.godebug = none := by kernel_rfl
theorem laidOut : laidOutB Try.prog = true := by kernel_rfl
theorem cells32 : Try.prog.cellsOf 32 = 3 := by kernel_rfl
theorem cells_of_3 {α : Type} {cs : Array α} (h : cs.size = 3) : ∃ c0 c1 c2 : α, cs = #[c0, c1, c2] := by
  obtain ⟨l⟩ := cs
  match l, h with
  | [c0, c1, c2], _ => exact ⟨c0, c1, c2, rfl⟩

set_option maxRecDepth 100000 in
set_option maxHeartbeats 1000000 in
theorem lifted (os : Os) (started : os.Started) (H : Type) (enc : TypeId × Value → H) (F : Stop.Interp) :
    ReturnsInHanded {} Try.checked os 4 .any ((Rows.OpenSpec.upto Rows.nalUnitsSpec).preRow enc Try.prog Try.f4 Rows.nalUnitsUptoRow.domain false []) (((Rows.OpenSpec.upto Rows.nalUnitsSpec).at F).post enc Try.prog Try.f4 false true false false) := by
  refine returnsInHanded_of_row (C := Try.checked) (s := Rows.OpenSpec.upto Rows.nalUnitsSpec) (laid := []) own started (by kernel_rfl) Try.func4 (by
    obtain ⟨w, tape, i, h1, h2, h3, h4, h5, h6⟩ := OpenSpec.witness (enc := enc) (os := os) (f := 4) (fn := Try.f4) (conds := Rows.nalUnitsUptoRow.domain) (apart := false) (C := Try.checked) (s := Rows.OpenSpec.upto Rows.nalUnitsSpec) (k := Rows.uptoSmall) rfl false ⟨#[], #[.agg #[.int .i64 0, .int .i64 0, .string ByteArray.empty], .string ByteArray.empty], []⟩ 8 (by kernel_rfl) (by kernel_rfl) (by kernel_rfl)
      (x := ([.agg [.lit (.int .i64 0), .lit (.int .i64 0), .lit (.string [])], .lit (.string [])], [], [])) (by kernel_rfl) rfl (by kernel_rfl)
    exact ⟨w, tape, i, h1, h2, h3, h4, ⟨⟨h5.1, ⟨[], by simp [DataW.LaidVars], List.nodup_nil, fun _ _ h => by cases h⟩⟩, h5.2⟩, h6⟩) ?_
  intro W base args ds gs before hval0 hW hcnd hk0 _ _ hsh _
  have hk : Rows.uptoSmall H (ds ++ gs) = true := hk0 _ rfl
  have hval : ∀ (j : Nat) t v, Try.f4.params[j]? = some t → args[j]? = some v → Value.okWide Try.prog W .any base t v := hval0
  have hW' := hW
  obtain ⟨p, q, hA0, hV, rfl, hfz, hnd⟩ := hW
  have hA : DataW.TrodAll enc Try.prog W 0 (fun _ => true) true Try.f4.params.toList args.toList ds p := hA0
  rw [Try.params4] at hA hval
  obtain ⟨v0, vs0, d0, ds0, p0, q0, hargs, rfl, rfl, h0, r0⟩ := trodAll_cons hA
  obtain ⟨v1, vs1, d1, ds1, p1, q1, rfl, rfl, rfl, h1, r1⟩ := trodAll_cons r0
  obtain ⟨rfl, rfl, rfl⟩ := trodAll_nil r1
  obtain rfl : args = #[v0, v1] := by cases args; simp_all
  obtain ⟨rfl, rfl⟩ := trodVars_none hV
  have k0 := h0
  have lt0 : ∀ x ∈ p0, x.block < W.heap.size := by obtain ⟨m, hm⟩ := k0; exact DataW.trod_lt m _ _ _ hm
  obtain ⟨cs0, rfl, sz0⟩ := okWide_struct Try.underlying32 (hval 0 32 v0 rfl rfl)
  rw [cells32] at sz0
  obtain ⟨c0_0, c0_1, c0_2, rfl⟩ := cells_of_3 sz0
  obtain ⟨fu0, q0⟩ := h0
  obtain ⟨xs_a0, n_a0, _, dx_a0, _, xl_a0, hf_a0⟩ := DataW.trod_struct Try.underlying32 q0
  have q_a0_Ref : DataW.trod enc Try.prog W 0 (fun _ => true) true n_a0 3 [c0_0] = some (xs_a0[0]'(by rw [xl_a0]; decide)) := (hf_a0 0 _ rfl).trans (List.getElem?_eq_getElem _)
  obtain ⟨a0_Ref, e_a0_Ref, _, w_a0_Ref⟩ := DataW.trod_int Try.underlying3 q_a0_Ref
  obtain rfl : c0_0 = Value.int .i64 a0_Ref := by injection e_a0_Ref
  have q_a0_Type : DataW.trod enc Try.prog W 0 (fun _ => true) true n_a0 3 [c0_1] = some (xs_a0[1]'(by rw [xl_a0]; decide)) := (hf_a0 1 _ rfl).trans (List.getElem?_eq_getElem _)
  obtain ⟨a0_Type, e_a0_Type, _, w_a0_Type⟩ := DataW.trod_int Try.underlying3 q_a0_Type
  obtain rfl : c0_1 = Value.int .i64 a0_Type := by injection e_a0_Type
  have q_a0_Rbsp : DataW.trod enc Try.prog W 0 (fun _ => true) true n_a0 9 [c0_2] = some (xs_a0[2]'(by rw [xl_a0]; decide)) := (hf_a0 2 _ rfl).trans (List.getElem?_eq_getElem _)
  obtain ⟨a0_Rbsp, e_a0_Rbsp, dx_a0_Rbsp, w_a0_Rbsp⟩ := DataW.trod_string Try.underlying9 q_a0_Rbsp
  obtain rfl : c0_2 = Value.string a0_Rbsp := by injection e_a0_Rbsp
  have s_a0_Rbsp : a0_Rbsp.size ≤ 1048576 := by
    have h : Rows.uptoBulkAll _ ≤ 1048576 := of_decide_eq_true hk
    have hd : d0 = .agg (xs_a0.map (·.1)) := congrArg Prod.fst dx_a0
    have hm : (xs_a0[2]'(by rw [xl_a0]; decide)).1 ∈ xs_a0.map (·.1) := List.mem_map_of_mem (List.getElem_mem _)
    have h2 := bulk_part hm
    rw [dx_a0_Rbsp] at h2
    simp only [List.cons_append, List.nil_append, Rows.uptoBulkAll, hd, Rows.uptoBulk] at h
    simp only [Rows.uptoBulk] at h2
    have e2 : a0_Rbsp.data.toList.length = a0_Rbsp.size := by rw [Array.length_toList]; rfl
    omega
  have k1 := h1
  have lt1 : ∀ x ∈ p1, x.block < W.heap.size := by obtain ⟨m, hm⟩ := k1; exact DataW.trod_lt m _ _ _ hm
  obtain ⟨a1, rfl, rfl, rfl, w_a1⟩ := open_string Try.underlying9 (hval 1 9 v1 rfl rfl) h1
  have s_a1 : a1.size ≤ 1048576 := by
    have h : Rows.uptoBulkAll _ ≤ 1048576 := of_decide_eq_true hk
    simp only [List.cons_append, List.nil_append, Rows.uptoBulkAll, Rows.uptoBulk] at h
    have e2 : a1.data.toList.length = a1.size := by rw [Array.length_toList]; rfl
    omega
  clear hA0 hval0
  refine (walk_NalUnits a0_Ref a0_Type a0_Rbsp a1 W w_a0_Ref w_a0_Type s_a0_Rbsp s_a1 hsh).mono fun e W' ⟨he, bel⟩ => ?_
  subst he
  exact (show ∃ v, _ = Ending.returned v ∧ Rows.nalUnitsSpec.post enc Try.prog Try.f4 false true false false W _ v W' from ⟨_, rfl, _, _, _, [], _, [], hW', trodAll_mk1 (shut_bool Try.underlying4 _), (trodAll_cons_mk (Below.trod laidOut (by kernel_rfl) (of_decide_eq_true (by kernel_rfl)) k0 bel lt0) (trodAll_cons_mk (Below.trod laidOut (by kernel_rfl) (of_decide_eq_true (by kernel_rfl)) k1 bel lt1) trodAll_mk0)), rfl, bel.frame _, fun h => by cases h⟩)

theorem over : Rows.nalUnitsUptoRow.holds Try.pinned (Rows.OpenSpec.upto Rows.nalUnitsSpec) :=
  OpenClaim.holds_of_cond 4 Try.f4 rfl rfl rfl rfl rfl rfl rfl ⟨rfl, rfl, rfl, rfl, rfl⟩ rfl rfl rfl rfl rfl (by kernel_rfl) Try.func4 (by kernel_rfl)
    (of_decide_eq_true (by kernel_rfl)) (by unfold Func.isWrapper; first | (rw [if_pos (by decide +kernel)]; kernel_rfl) | (rw [if_neg (by decide +kernel)]; exact ⟨rfl, rfl⟩))
    (fun os started H enc _ F => by rw [OpenClaim.pre_eq_preRow]; exact lifted os started H enc F)

theorem proved : Rows.NalUnitsUptoSaid := over
#print axioms proved
end Go.Proofs.Ytndlmhpbnaohpaa.lawNalUnits
