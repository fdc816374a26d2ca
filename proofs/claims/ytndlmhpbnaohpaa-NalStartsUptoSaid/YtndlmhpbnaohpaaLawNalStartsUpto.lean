/- The row's step of the statement NalStarts: for every input the call returns true and nothing that was there is changed. Written by a program; the walk is YtndlmhpbnaohpaaLawE's walk_NalStarts. -/
import Derived.Test.YtndlmhpbnaohpaaLawE
import Derived.ProofKit
import Derived.OpenShut
import Derived.ShutString
import Derived.ChangeOld
import Derived.Below
import Derived.Deep.DeepHandedRow
import Derived.HandedShaped
import Derived.JoinedCond
import Derived.Test.YtndlmhpbnaohpaaBulk
namespace Go.Proofs.Ytndlmhpbnaohpaa.lawNalStarts
open Go.ChangeShapes Go.WideShapes Go.ChangeAt Go.RowKit
open Go.ChangeMaps (open_string shut_string)
set_option linter.unusedVariables false
set_option linter.unusedSimpArgs false

theorem own : ownKnob Try.prog.godebug = none := by kernel_rfl
theorem laidOut : laidOutB Try.prog = true := by kernel_rfl

set_option maxRecDepth 100000 in
set_option maxHeartbeats 1000000 in
theorem lifted (os : Os) (started : os.Started) (H : Type) (enc : TypeId × Value → H) (F : Stop.Interp) :
    ReturnsInHanded {} Try.checked os 10 .any ((Rows.OpenSpec.upto Rows.nalStartsSpec).preRow enc Try.prog Try.f10 Rows.nalStartsUptoRow.domain false []) (((Rows.OpenSpec.upto Rows.nalStartsSpec).at F).post enc Try.prog Try.f10 false true false false) := by
  refine returnsInHanded_of_row (C := Try.checked) (s := Rows.OpenSpec.upto Rows.nalStartsSpec) (laid := []) own started (by kernel_rfl) Try.func10 (by
    obtain ⟨w, tape, i, h1, h2, h3, h4, h5, h6⟩ := OpenSpec.witness (enc := enc) (os := os) (f := 10) (fn := Try.f10) (conds := Rows.nalStartsUptoRow.domain) (apart := false) (C := Try.checked) (s := Rows.OpenSpec.upto Rows.nalStartsSpec) (k := Rows.uptoSmall) rfl false ⟨#[], #[.string ByteArray.empty], []⟩ 8 (by kernel_rfl) (by kernel_rfl) (by kernel_rfl)
      (x := ([.lit (.string [])], [], [])) (by kernel_rfl) rfl (by kernel_rfl)
    exact ⟨w, tape, i, h1, h2, h3, h4, ⟨⟨h5.1, ⟨[], by simp [DataW.LaidVars], List.nodup_nil, fun _ _ h => by cases h⟩⟩, h5.2⟩, h6⟩) ?_
  intro W base args ds gs before hval0 hW hcnd hk0 _ _ hsh _
  have hk : Rows.uptoSmall H (ds ++ gs) = true := hk0 _ rfl
  have hval : ∀ (j : Nat) t v, Try.f10.params[j]? = some t → args[j]? = some v → Value.okWide Try.prog W .any base t v := hval0
  have hW' := hW
  obtain ⟨p, q, hA0, hV, rfl, hfz, hnd⟩ := hW
  have hA : DataW.TrodAll enc Try.prog W 0 (fun _ => true) true Try.f10.params.toList args.toList ds p := hA0
  rw [Try.params10] at hA hval
  obtain ⟨v0, vs0, d0, ds0, p0, q0, hargs, rfl, rfl, h0, r0⟩ := trodAll_cons hA
  obtain ⟨rfl, rfl, rfl⟩ := trodAll_nil r0
  obtain rfl : args = #[v0] := by cases args; simp_all
  obtain ⟨rfl, rfl⟩ := trodVars_none hV
  have k0 := h0
  have lt0 : ∀ x ∈ p0, x.block < W.heap.size := by obtain ⟨m, hm⟩ := k0; exact DataW.trod_lt m _ _ _ hm
  obtain ⟨a0, rfl, rfl, rfl, w_a0⟩ := open_string Try.underlying9 (hval 0 9 v0 rfl rfl) h0
  have s_a0 : a0.size ≤ 1048576 := by
    have h : Rows.uptoBulkAll _ ≤ 1048576 := of_decide_eq_true hk
    simp only [List.cons_append, List.nil_append, Rows.uptoBulkAll, Rows.uptoBulk] at h
    have e2 : a0.data.toList.length = a0.size := by rw [Array.length_toList]; rfl
    omega
  clear hA0 hval0
  refine (walk_NalStarts a0 W s_a0 hsh).mono fun e W' ⟨he, bel⟩ => ?_
  subst he
  exact (show ∃ v, _ = Ending.returned v ∧ Rows.nalStartsSpec.post enc Try.prog Try.f10 false true false false W _ v W' from ⟨_, rfl, _, _, _, [], _, [], hW', trodAll_mk1 (shut_bool Try.underlying4 _), (trodAll_cons_mk (Below.trod laidOut (by kernel_rfl) (of_decide_eq_true (by kernel_rfl)) k0 bel lt0) trodAll_mk0), rfl, bel.frame _, fun h => by cases h⟩)

theorem over : Rows.nalStartsUptoRow.holds Try.pinned (Rows.OpenSpec.upto Rows.nalStartsSpec) :=
  OpenClaim.holds_of_cond 10 Try.f10 rfl rfl rfl rfl rfl rfl rfl ⟨rfl, rfl, rfl, rfl, rfl⟩ rfl rfl rfl rfl rfl (by kernel_rfl) Try.func10 (by kernel_rfl)
    (of_decide_eq_true (by kernel_rfl)) (by unfold Func.isWrapper; first | (rw [if_pos (by decide +kernel)]; kernel_rfl) | (rw [if_neg (by decide +kernel)]; exact ⟨rfl, rfl⟩))
    (fun os started H enc _ F => by rw [OpenClaim.pre_eq_preRow]; exact lifted os started H enc F)

theorem proved : Rows.NalStartsUptoSaid := over
#print axioms proved
end Go.Proofs.Ytndlmhpbnaohpaa.lawNalStarts
