/- The row's step of the statement BitsReads: for every input the call returns true and nothing that was there is changed. Written by a program; the walk is YtbahmiiflkgigaaLawI's walk_BitsReads. -/
import Derived.Test.YtbahmiiflkgigaaLawI
import Derived.ProofKit
import Derived.OpenShut
import Derived.ShutString
import Derived.ChangeOld
import Derived.Below
import Derived.JoinedCond
import Derived.Test.YtbahmiiflkgigaaBulk
namespace Go.Proofs.Ytbahmiiflkgigaa.lawBitsReads
open Go.ChangeShapes Go.WideShapes Go.ChangeAt Go.RowKit
open Go.ChangeMaps (open_string shut_string)
set_option linter.unusedVariables false
set_option linter.unusedSimpArgs false

theorem own : ownKnob Try.prog.godebug = none := by kernel_rfl
theorem laidOut : laidOutB Try.prog = true := by kernel_rfl
theorem cells3 : Try.prog.cellsOf 3 = 1 := by kernel_rfl
theorem cells27 : Try.prog.cellsOf 27 = 3 := by kernel_rfl

set_option maxRecDepth 100000 in
set_option maxHeartbeats 1000000 in
theorem lifted (os : Os) (started : os.Started) (H : Type) (enc : TypeId × Value → H) (F : Stop.Interp) :
    ReturnsInHanded {} Try.checked os 8 .any ((Rows.OpenSpec.upto Rows.bitsReadsSpec).pre6 enc Try.prog Try.f8 Rows.bitsReadsUptoRow.domain false) (((Rows.OpenSpec.upto Rows.bitsReadsSpec).at F).post enc Try.prog Try.f8 false true false false) := by
  refine returnsInHanded_of_cond (C := Try.checked) (s := Rows.OpenSpec.upto Rows.bitsReadsSpec) (k := Rows.uptoSmall) rfl own started (by kernel_rfl) Try.func8
    (OpenSpec.witness (enc := enc) (C := Try.checked) (s := Rows.OpenSpec.upto Rows.bitsReadsSpec) (k := Rows.uptoSmall) rfl false ⟨#[], #[.string ByteArray.empty, .slice none 0 0], []⟩ 8 (by kernel_rfl) (by kernel_rfl) (by kernel_rfl)
      (x := ([.lit (.string []), .nil], [], [])) (by kernel_rfl) rfl (by kernel_rfl)) ?_
  intro W base args ds gs before hval0 hW hcnd hk _
  have hval : ∀ (j : Nat) t v, Try.f8.params[j]? = some t → args[j]? = some v → Value.okWide Try.prog W .any base t v := hval0
  have hW' := hW
  obtain ⟨p, q, hA0, hV, rfl, hfz, hnd⟩ := hW
  have hA : DataW.TrodAll enc Try.prog W 0 (fun _ => true) true Try.f8.params.toList args.toList ds p := hA0
  rw [Try.params8] at hA hval
  obtain ⟨v0, vs0, d0, ds0, p0, q0, hargs, rfl, rfl, h0, r0⟩ := trodAll_cons hA
  obtain ⟨v1, vs1, d1, ds1, p1, q1, rfl, rfl, rfl, h1, r1⟩ := trodAll_cons r0
  obtain ⟨rfl, rfl, rfl⟩ := trodAll_nil r1
  obtain rfl : args = #[v0, v1] := by cases args; simp_all
  obtain ⟨rfl, rfl⟩ := trodVars_none hV
  have k0 := h0
  have lt0 : ∀ x ∈ p0, x.block < W.heap.size := by obtain ⟨m, hm⟩ := k0; exact DataW.trod_lt m _ _ _ hm
  obtain ⟨a0, rfl, rfl, rfl, w_a0⟩ := open_string Try.underlying9 (hval 0 9 v0 rfl rfl) h0
  have s_a0 : a0.size ≤ 1048576 := by
    have h : Rows.uptoBulkAll _ ≤ 1048576 := of_decide_eq_true hk
    simp only [List.cons_append, List.nil_append, Rows.uptoBulkAll, Rows.uptoBulk] at h
    have e2 : a0.data.toList.length = a0.size := by rw [Array.length_toList]; rfl
    omega
  have k1 := h1
  have lt1 : ∀ x ∈ p1, x.block < W.heap.size := by obtain ⟨m, hm⟩ := k1; exact DataW.trod_lt m _ _ _ hm
  obtain ⟨a1, len_a1, cap_a1, rfl⟩ := okWide_slice Try.underlying22 (hval 1 22 v1 rfl rfl)
  obtain ⟨fu1, q1⟩ := h1
  have q1' : DataW.trod enc Try.prog W 0 (fun _ => true) true fu1 22 [.slice a1 len_a1 cap_a1] = some (d1, p1) := q1
  obtain ⟨V_a1, r_a1, F_a1, D_a1⟩ := open_structs (C := 3) Try.underlying22 Try.underlying27 cells27 (by decide) q1'
  have y_a1_Kind : ∀ k, k < cap_a1 → ∃ x, V_a1 k 0 = .int .i64 x ∧ (Lit.int .i64 x).wf = true := fun k hk => by
    obtain ⟨fu', y, hy⟩ := F_a1 k hk 0 _ rfl
    change DataW.trod enc Try.prog W 0 (fun _ => true) true fu' 3 ((((List.range 3).map (V_a1 k)).drop 0).take (Try.prog.cellsOf 3)) = some y at hy
    rw [cells3] at hy
    obtain ⟨x, e, _, hw⟩ := DataW.trod_int Try.underlying3 hy
    have e2 : [V_a1 k 0] = [.int .i64 x] := e
    exact ⟨x, (List.cons.inj e2).1, hw⟩
  obtain ⟨z_a1_Kind, e_a1_Kind, w_a1_Kind⟩ := choose_ints (by decide) y_a1_Kind
  have y_a1_X : ∀ k, k < cap_a1 → ∃ x, V_a1 k 1 = .int .i64 x ∧ (Lit.int .i64 x).wf = true := fun k hk => by
    obtain ⟨fu', y, hy⟩ := F_a1 k hk 1 _ rfl
    change DataW.trod enc Try.prog W 0 (fun _ => true) true fu' 3 ((((List.range 3).map (V_a1 k)).drop 1).take (Try.prog.cellsOf 3)) = some y at hy
    rw [cells3] at hy
    obtain ⟨x, e, _, hw⟩ := DataW.trod_int Try.underlying3 hy
    have e2 : [V_a1 k 1] = [.int .i64 x] := e
    exact ⟨x, (List.cons.inj e2).1, hw⟩
  obtain ⟨z_a1_X, e_a1_X, w_a1_X⟩ := choose_ints (by decide) y_a1_X
  have y_a1_N : ∀ k, k < cap_a1 → ∃ x, V_a1 k 2 = .int .i64 x ∧ (Lit.int .i64 x).wf = true := fun k hk => by
    obtain ⟨fu', y, hy⟩ := F_a1 k hk 2 _ rfl
    change DataW.trod enc Try.prog W 0 (fun _ => true) true fu' 3 ((((List.range 3).map (V_a1 k)).drop 2).take (Try.prog.cellsOf 3)) = some y at hy
    rw [cells3] at hy
    obtain ⟨x, e, _, hw⟩ := DataW.trod_int Try.underlying3 hy
    have e2 : [V_a1 k 2] = [.int .i64 x] := e
    exact ⟨x, (List.cons.inj e2).1, hw⟩
  obtain ⟨z_a1_N, e_a1_N, w_a1_N⟩ := choose_ints (by decide) y_a1_N
  have s_a1 : cap_a1 ≤ 1048576 := by
    rcases D_a1 with e | ⟨el, sp, hd, hl⟩
    · omega
    · have h : Rows.uptoBulkAll _ ≤ 1048576 := of_decide_eq_true hk
      simp only [List.cons_append, List.nil_append, Rows.uptoBulkAll, hd, Rows.uptoBulk] at h
      have h1 := bulk_len el
      have h2 := bulk_len sp
      omega
  clear hA0 hval0
  refine (walk_BitsReads a0 a1 len_a1 cap_a1 V_a1 z_a1_Kind z_a1_X z_a1_N W s_a0 r_a1 (fun k hk => e_a1_Kind k (Nat.lt_of_lt_of_le hk r_a1.2.2)) (fun k hk => e_a1_X k (Nat.lt_of_lt_of_le hk r_a1.2.2)) (fun k hk => e_a1_N k (Nat.lt_of_lt_of_le hk r_a1.2.2)) w_a1_Kind w_a1_X w_a1_N s_a1).mono fun e W' ⟨he, bel⟩ => ?_
  subst he
  exact (show ∃ v, _ = Ending.returned v ∧ Rows.bitsReadsSpec.post enc Try.prog Try.f8 false true false false W _ v W' from ⟨_, rfl, _, _, _, [], _, [], hW', trodAll_mk1 (shut_bool Try.underlying4 _), (trodAll_cons_mk (Below.trod laidOut (by kernel_rfl) (of_decide_eq_true (by kernel_rfl)) k0 bel lt0) (trodAll_cons_mk (Below.trod laidOut (by kernel_rfl) (of_decide_eq_true (by kernel_rfl)) k1 bel lt1) trodAll_mk0)), rfl, bel.frame _, fun h => by cases h⟩)

theorem over : Rows.bitsReadsUptoRow.holds Try.pinned (Rows.OpenSpec.upto Rows.bitsReadsSpec) :=
  OpenClaim.holds_of_cond 8 Try.f8 rfl rfl rfl rfl rfl rfl rfl ⟨rfl, rfl, rfl, rfl, rfl⟩ rfl rfl rfl rfl rfl (by kernel_rfl) Try.func8 (by kernel_rfl)
    (of_decide_eq_true (by kernel_rfl)) (by unfold Func.isWrapper; first | (rw [if_pos (by decide +kernel)]; kernel_rfl) | (rw [if_neg (by decide +kernel)]; exact ⟨rfl, rfl⟩))
    (fun os started H enc _ F => lifted os started H enc F)

theorem proved : Rows.BitsReadsUptoSaid := over
#print axioms proved
end Go.Proofs.Ytbahmiiflkgigaa.lawBitsReads
