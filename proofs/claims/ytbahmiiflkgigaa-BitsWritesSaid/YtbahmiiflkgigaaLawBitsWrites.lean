/- The row's step of the statement BitsWrites: for every input the call returns true and nothing that was there is changed. Written by a program; the walk is YtbahmiiflkgigaaLawH's walk_BitsWrites. -/
import Derived.Test.YtbahmiiflkgigaaLawH
import Derived.ProofKit
import Derived.OpenShut
import Derived.ShutString
import Derived.ChangeOld
import Derived.Below
import Derived.SizedLaws
namespace Go.Proofs.Ytbahmiiflkgigaa.lawBitsWrites
open Go.ChangeShapes Go.WideShapes Go.ChangeAt Go.RowKit
open Go.ChangeMaps (open_string shut_string)
set_option linter.unusedVariables false
set_option linter.unusedSimpArgs false

theorem own : ownKnob Try.prog.godebug = none := by kernel_rfl
theorem laidOut : laidOutB Try.prog = true := by kernel_rfl
theorem bytes27 : Try.prog.bytesOf 27 = 24 := by kernel_rfl
theorem cells3 : Try.prog.cellsOf 3 = 1 := by kernel_rfl
theorem cells27 : Try.prog.cellsOf 27 = 3 := by kernel_rfl

set_option maxRecDepth 100000 in
set_option maxHeartbeats 1000000 in
theorem lifted (os : Os) (started : os.Started) (H : Type) (enc : TypeId × Value → H) :
    ReturnsInHanded {} Try.checked os 3 .any (Rows.bitsWritesSpec.pre6 enc Try.prog Try.f3 Rows.bitsWritesRow.domain false) (Rows.bitsWritesSpec.post enc Try.prog Try.f3 false true false false) := by
  refine returnsInHanded_of_change_sized (C := Try.checked) own started (by kernel_rfl) Try.func3
    (ChangeSpec.witness6 (enc := enc) (C := Try.checked) false ⟨#[], #[.slice none 0 0], []⟩ 8 (by kernel_rfl) (by kernel_rfl) (by kernel_rfl) (by kernel_rfl)) ?_
  intro W base args ds gs before hval0 hW hcnd hsz0 _
  have hsz : (DataW.weightsEach Try.prog (Try.f3.params.toList ++ Rows.bitsWritesSpec.plain.varTypes Try.prog) (ds ++ gs)).all (· ≤ reachBytes) = true := hsz0
  have hval : ∀ (j : Nat) t v, Try.f3.params[j]? = some t → args[j]? = some v → Value.okWide Try.prog W .any base t v := hval0
  have hW' := hW
  obtain ⟨p, q, hA0, hV, rfl, hfz, hnd⟩ := hW
  have hA : DataW.TrodAll enc Try.prog W 0 (fun _ => true) true Try.f3.params.toList args.toList ds p := hA0
  rw [Try.params3] at hA hval hsz
  obtain ⟨v0, vs0, d0, ds0, p0, q0, hargs, rfl, rfl, h0, r0⟩ := trodAll_cons hA
  obtain ⟨rfl, rfl, rfl⟩ := trodAll_nil r0
  obtain rfl : args = #[v0] := by cases args; simp_all
  obtain ⟨rfl, rfl⟩ := trodVars_none hV
  have k0 := h0
  have lt0 : ∀ x ∈ p0, x.block < W.heap.size := by obtain ⟨m, hm⟩ := k0; exact DataW.trod_lt m _ _ _ hm
  obtain ⟨a0, len_a0, cap_a0, rfl⟩ := okWide_slice Try.underlying22 (hval 0 22 v0 rfl rfl)
  obtain ⟨fu0, q0⟩ := h0
  have q0' : DataW.trod enc Try.prog W 0 (fun _ => true) true fu0 22 [.slice a0 len_a0 cap_a0] = some (d0, p0) := q0
  obtain ⟨V_a0, r_a0, F_a0, D_a0⟩ := open_structs (C := 3) Try.underlying22 Try.underlying27 cells27 (by decide) q0'
  have y_a0_Kind : ∀ k, k < cap_a0 → ∃ x, V_a0 k 0 = .int .i64 x ∧ (Lit.int .i64 x).wf = true := fun k hk => by
    obtain ⟨fu', y, hy⟩ := F_a0 k hk 0 _ rfl
    change DataW.trod enc Try.prog W 0 (fun _ => true) true fu' 3 ((((List.range 3).map (V_a0 k)).drop 0).take (Try.prog.cellsOf 3)) = some y at hy
    rw [cells3] at hy
    obtain ⟨x, e, _, hw⟩ := DataW.trod_int Try.underlying3 hy
    have e2 : [V_a0 k 0] = [.int .i64 x] := e
    exact ⟨x, (List.cons.inj e2).1, hw⟩
  obtain ⟨z_a0_Kind, e_a0_Kind, w_a0_Kind⟩ := choose_ints (by decide) y_a0_Kind
  have y_a0_X : ∀ k, k < cap_a0 → ∃ x, V_a0 k 1 = .int .i64 x ∧ (Lit.int .i64 x).wf = true := fun k hk => by
    obtain ⟨fu', y, hy⟩ := F_a0 k hk 1 _ rfl
    change DataW.trod enc Try.prog W 0 (fun _ => true) true fu' 3 ((((List.range 3).map (V_a0 k)).drop 1).take (Try.prog.cellsOf 3)) = some y at hy
    rw [cells3] at hy
    obtain ⟨x, e, _, hw⟩ := DataW.trod_int Try.underlying3 hy
    have e2 : [V_a0 k 1] = [.int .i64 x] := e
    exact ⟨x, (List.cons.inj e2).1, hw⟩
  obtain ⟨z_a0_X, e_a0_X, w_a0_X⟩ := choose_ints (by decide) y_a0_X
  have y_a0_N : ∀ k, k < cap_a0 → ∃ x, V_a0 k 2 = .int .i64 x ∧ (Lit.int .i64 x).wf = true := fun k hk => by
    obtain ⟨fu', y, hy⟩ := F_a0 k hk 2 _ rfl
    change DataW.trod enc Try.prog W 0 (fun _ => true) true fu' 3 ((((List.range 3).map (V_a0 k)).drop 2).take (Try.prog.cellsOf 3)) = some y at hy
    rw [cells3] at hy
    obtain ⟨x, e, _, hw⟩ := DataW.trod_int Try.underlying3 hy
    have e2 : [V_a0 k 2] = [.int .i64 x] := e
    exact ⟨x, (List.cons.inj e2).1, hw⟩
  obtain ⟨z_a0_N, e_a0_N, w_a0_N⟩ := choose_ints (by decide) y_a0_N
  have s_a0 : cap_a0 * 24 ≤ 140737488351232 := by
    rcases D_a0 with e | ⟨el, sp, hd, hl⟩
    · omega
    · have e := sized_slice hsz (j := 0) (t := 22) (e := 27) (elems := el) (spare := sp) rfl (by rw [← hd]; rfl) Try.underlying22
      rw [bytes27, hl] at e
      exact e
  clear hA0 hval0
  refine (walk_BitsWrites a0 len_a0 cap_a0 V_a0 z_a0_Kind z_a0_X z_a0_N W r_a0 (fun k hk => e_a0_Kind k (Nat.lt_of_lt_of_le hk r_a0.2.2)) (fun k hk => e_a0_X k (Nat.lt_of_lt_of_le hk r_a0.2.2)) (fun k hk => e_a0_N k (Nat.lt_of_lt_of_le hk r_a0.2.2)) w_a0_Kind w_a0_X w_a0_N s_a0).mono fun e W' ⟨he, bel⟩ => ?_
  subst he
  exact ⟨_, rfl, _, _, _, [], _, [], hW', trodAll_mk1 (shut_bool Try.underlying4 _), (trodAll_cons_mk (Below.trod laidOut (by kernel_rfl) (of_decide_eq_true (by kernel_rfl)) k0 bel lt0) trodAll_mk0), rfl, bel.frame _, fun h => by cases h⟩

theorem over : Rows.bitsWritesRow.holds Try.pinned (OpenSpec.ofChange Rows.bitsWritesSpec) :=
  OpenClaim.holds_of_wide 3 Try.f3 rfl rfl rfl rfl rfl rfl rfl ⟨rfl, rfl, rfl, rfl, rfl⟩ rfl rfl rfl rfl rfl (by kernel_rfl) Try.func3 (by kernel_rfl)
    (of_decide_eq_true (by kernel_rfl)) (by unfold Func.isWrapper; first | (rw [if_pos (by decide +kernel)]; kernel_rfl) | (rw [if_neg (by decide +kernel)]; exact ⟨rfl, rfl⟩))
    (fun os started H enc _ => lifted os started H enc)

theorem proved : Rows.BitsWritesSaid := over
#print axioms proved
end Go.Proofs.Ytbahmiiflkgigaa.lawBitsWrites
