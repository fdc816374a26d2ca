/- The row's step of the statement LevelsBack: for every input the call returns true and nothing that was there is changed. Written by a program; the walk is YtocooplmfkeepaaLawF's walk_LevelsBack. -/
import Derived.Test.YtocooplmfkeepaaLawF
import Derived.ProofKit
import Derived.OpenShut
import Derived.ShutString
import Derived.ChangeOld
import Derived.Below
import Derived.JoinedCond
import Derived.Test.YtocooplmfkeepaaBulk
namespace Go.Proofs.Ytocooplmfkeepaa.lawLevelsBack
open Go.ChangeShapes Go.WideShapes Go.ChangeAt Go.RowKit
open Go.ChangeMaps (open_string shut_string)
set_option linter.unusedVariables false
set_option linter.unusedSimpArgs false

theorem own : ownKnob Try.prog.godebug = none := by kernel_rfl
theorem laidOut : laidOutB Try.prog = true := by kernel_rfl

set_option maxRecDepth 100000 in
set_option maxHeartbeats 1000000 in
theorem lifted (os : Os) (started : os.Started) (H : Type) (enc : TypeId × Value → H) (F : Stop.Interp) :
    ReturnsInHanded {} Try.checked os 8 .any ((Rows.OpenSpec.upto Rows.levelsBackSpec).pre6 enc Try.prog Try.f8 Rows.levelsBackUptoRow.domain false) (((Rows.OpenSpec.upto Rows.levelsBackSpec).at F).post enc Try.prog Try.f8 false true false false) := by
  refine returnsInHanded_of_cond (C := Try.checked) (s := Rows.OpenSpec.upto Rows.levelsBackSpec) (k := Rows.uptoSmall) rfl own started (by kernel_rfl) Try.func8
    (OpenSpec.witness (enc := enc) (os := os) (f := 8) (fn := Try.f8) (conds := Rows.levelsBackUptoRow.domain) (apart := false) (C := Try.checked) (s := Rows.OpenSpec.upto Rows.levelsBackSpec) (k := Rows.uptoSmall) rfl false ⟨#[], #[.slice none 0 0, .string ByteArray.empty, .int .i64 0], []⟩ 8 (by kernel_rfl) (by kernel_rfl) (by kernel_rfl)
      (x := ([.nil, .lit (.string []), .lit (.int .i64 0)], [], [])) (by kernel_rfl) rfl (by kernel_rfl)) ?_
  intro W base args ds gs before hval0 hW hcnd hk _
  have hval : ∀ (j : Nat) t v, Try.f8.params[j]? = some t → args[j]? = some v → Value.okWide Try.prog W .any base t v := hval0
  have hW' := hW
  obtain ⟨p, q, hA0, hV, rfl, hfz, hnd⟩ := hW
  have hA : DataW.TrodAll enc Try.prog W 0 (fun _ => true) true Try.f8.params.toList args.toList ds p := hA0
  rw [Try.params8] at hA hval
  obtain ⟨v0, vs0, d0, ds0, p0, q0, hargs, rfl, rfl, h0, r0⟩ := trodAll_cons hA
  obtain ⟨v1, vs1, d1, ds1, p1, q1, rfl, rfl, rfl, h1, r1⟩ := trodAll_cons r0
  obtain ⟨v2, vs2, d2, ds2, p2, q2, rfl, rfl, rfl, h2, r2⟩ := trodAll_cons r1
  obtain ⟨rfl, rfl, rfl⟩ := trodAll_nil r2
  obtain rfl : args = #[v0, v1, v2] := by cases args; simp_all
  obtain ⟨rfl, rfl⟩ := trodVars_none hV
  have k0 := h0
  have lt0 : ∀ x ∈ p0, x.block < W.heap.size := by obtain ⟨m, hm⟩ := k0; exact DataW.trod_lt m _ _ _ hm
  obtain ⟨a0, len_a0, cap_a0, rfl⟩ := okWide_slice Try.underlying22 (hval 0 22 v0 rfl rfl)
  obtain ⟨fu0, q0⟩ := h0
  have q0' : DataW.trod enc Try.prog W 0 (fun _ => true) true fu0 22 [.slice a0 len_a0 cap_a0] = some (d0, p0) := q0
  obtain ⟨z_a0, g_a0, n_a0, l_a0, f_a0, D_a0⟩ := open_row Try.underlying22 Try.underlying3 (by kernel_rfl) q0'
  have c_a0 : cap_a0 ≤ 1048576 := by
    rcases D_a0 with e | ⟨el, sp, hd, hl⟩
    · omega
    · have h : Rows.uptoBulkAll _ ≤ 1048576 := of_decide_eq_true hk
      simp only [List.cons_append, List.nil_append, Rows.uptoBulkAll, hd, Rows.uptoBulk] at h
      have h1 := bulk_len el
      have h2 := bulk_len sp
      omega
  have s_a0 : cap_a0 * 8 ≤ 140737488351232 := by omega
  have w_a0 : IntsArg W a0 len_a0 cap_a0 z_a0 := ⟨g_a0, n_a0, l_a0, s_a0, f_a0⟩
  have k1 := h1
  have lt1 : ∀ x ∈ p1, x.block < W.heap.size := by obtain ⟨m, hm⟩ := k1; exact DataW.trod_lt m _ _ _ hm
  obtain ⟨a1, rfl, rfl, rfl, w_a1⟩ := open_string Try.underlying9 (hval 1 9 v1 rfl rfl) h1
  have s_a1 : a1.size ≤ 1048576 := by
    have h : Rows.uptoBulkAll _ ≤ 1048576 := of_decide_eq_true hk
    simp only [List.cons_append, List.nil_append, Rows.uptoBulkAll, Rows.uptoBulk] at h
    have e2 : a1.data.toList.length = a1.size := by rw [Array.length_toList]; rfl
    omega
  have k2 := h2
  have lt2 : ∀ x ∈ p2, x.block < W.heap.size := by obtain ⟨m, hm⟩ := k2; exact DataW.trod_lt m _ _ _ hm
  obtain ⟨a2, rfl, rfl, rfl, w_a2⟩ := open_int Try.underlying3 (hval 2 3 v2 rfl rfl) h2
  clear hA0 hval0
  refine (walk_LevelsBack a0 len_a0 cap_a0 z_a0 a1 a2 W w_a0 s_a1 w_a2).mono fun e W' ⟨he, bel⟩ => ?_
  subst he
  exact (show ∃ v, _ = Ending.returned v ∧ Rows.levelsBackSpec.post enc Try.prog Try.f8 false true false false W _ v W' from ⟨_, rfl, _, _, _, [], _, [], hW', trodAll_mk1 (shut_bool Try.underlying4 _), (trodAll_cons_mk (Below.trod laidOut (by kernel_rfl) (of_decide_eq_true (by kernel_rfl)) k0 bel lt0) (trodAll_cons_mk (Below.trod laidOut (by kernel_rfl) (of_decide_eq_true (by kernel_rfl)) k1 bel lt1) (trodAll_cons_mk (Below.trod laidOut (by kernel_rfl) (of_decide_eq_true (by kernel_rfl)) k2 bel lt2) trodAll_mk0))), rfl, bel.frame _, fun h => by cases h⟩)

theorem over : Rows.levelsBackUptoRow.holds Try.pinned (Rows.OpenSpec.upto Rows.levelsBackSpec) :=
  OpenClaim.holds_of_cond 8 Try.f8 rfl rfl rfl rfl rfl rfl rfl ⟨rfl, rfl, rfl, rfl, rfl⟩ rfl rfl rfl rfl rfl (by kernel_rfl) Try.func8 (by kernel_rfl)
    (of_decide_eq_true (by kernel_rfl)) (by unfold Func.isWrapper; first | (rw [if_pos (by decide +kernel)]; kernel_rfl) | (rw [if_neg (by decide +kernel)]; exact ⟨rfl, rfl⟩))
    (fun os started H enc _ F => lifted os started H enc F)

theorem proved : Rows.LevelsBackUptoSaid := over
#print axioms proved
end Go.Proofs.Ytocooplmfkeepaa.lawLevelsBack
