/- The row's step of the statement MvpEdge: for every input the call returns true and nothing that was there is changed. Written by a program; the walk is YtgpoajhlmdmpkaaMvpH's walk_MvpEdge. -/
import Derived.Test.YtgpoajhlmdmpkaaMvpH
import Derived.ProofKit
import Derived.OpenShut
import Derived.ShutString
import Derived.ChangeOld
import Derived.Below
namespace Go.Proofs.Ytgpoajhlmdmpkaa.lawMvpEdge
open Go.ChangeShapes Go.WideShapes Go.ChangeAt Go.RowKit
open Go.ChangeMaps (open_string shut_string)
set_option linter.unusedVariables false
set_option linter.unusedSimpArgs false

theorem own : ownKnob Try.prog.godebug = none := by kernel_rfl
theorem laidOut : laidOutB Try.prog = true := by kernel_rfl
theorem cells24 : Try.prog.cellsOf 24 = 2 := by kernel_rfl
theorem cells25 : Try.prog.cellsOf 25 = 6 := by kernel_rfl
theorem okWide_arr {P : Program} {w : World} {r : Reach} {base : Nat} {t : TypeId} {v : Value} {m : Nat} {e : TypeId} (ht : P.underlying t = some (.array m e)) (h : Value.okWide P w r base t v) : ∃ cs, v = .agg cs ∧ cs.size = P.cellsOf t := by
  simp only [Value.okWide, ht] at h
  cases v <;> simp_all
theorem cells_of_6 {α : Type} {cs : Array α} (h : cs.size = 6) : ∃ c0 c1 c2 c3 c4 c5 : α, cs = #[c0, c1, c2, c3, c4, c5] := by
  obtain ⟨l⟩ := cs
  match l, h with
  | [c0, c1, c2, c3, c4, c5], _ => exact ⟨c0, c1, c2, c3, c4, c5, rfl⟩

set_option maxRecDepth 100000 in
set_option maxHeartbeats 1000000 in
theorem lifted (os : Os) (started : os.Started) (H : Type) (enc : TypeId × Value → H) :
    ReturnsInHanded {} Try.checked os 8 .any (Rows.mvpEdgeSpec.pre6 enc Try.prog Try.f8 Rows.mvpEdgeRow.domain false) (Rows.mvpEdgeSpec.post enc Try.prog Try.f8 false true false false) := by
  refine returnsInHanded_of_change (C := Try.checked) own started (by kernel_rfl) Try.func8
    (ChangeSpec.witness6 (enc := enc) (C := Try.checked) false ⟨#[], #[.agg #[.int .i64 0, .int .i64 0, .int .i64 0, .int .i64 0, .int .i64 0, .int .i64 0], .int .i64 0, .int .i64 0], []⟩ 8 (by kernel_rfl) (by kernel_rfl) (by kernel_rfl) (by kernel_rfl)) ?_
  intro W base args ds gs before hval0 hW hcnd _
  have hval : ∀ (j : Nat) t v, Try.f8.params[j]? = some t → args[j]? = some v → Value.okWide Try.prog W .any base t v := hval0
  have hW' := hW
  obtain ⟨p, q, hA0, hV, rfl, hfz, hnd⟩ := hW
  have hA : DataW.TrodAll enc Try.prog W 0 (fun _ => true) true Try.f8.params.toList args.toList ds p := hA0
  rw [Try.params8] at hA hval
  obtain ⟨v0, vs0, d0, ds0, p0, q0, hargs, rfl, rfl, h0, r0⟩ := trodAll_cons hA
  obtain ⟨v1, vs1, d1, ds1, p1, q1, rfl, rfl, rfl, h1, r1⟩ := trodAll_cons r0
  obtain ⟨v2, vs2, d2, ds2, p2, q2, rfl, rfl, rfl, h2, r2⟩ := trodAll_cons r1
  obtain ⟨rfl, rfl, rfl⟩ := trodAll_nil r2
  obtain rfl : args = #[v0, v1, v2] := by cases args; simp_all
  obtain ⟨rfl, rfl⟩ := trodVars_none hV
  have k0 := h0
  have lt0 : ∀ x ∈ p0, x.block < W.heap.size := by obtain ⟨m, hm⟩ := k0; exact DataW.trod_lt m _ _ _ hm
  obtain ⟨cs0, rfl, sz0⟩ := okWide_arr Try.underlying25 (hval 0 25 v0 rfl rfl)
  rw [cells25] at sz0
  obtain ⟨c0_0, c0_1, c0_2, c0_3, c0_4, c0_5, rfl⟩ := cells_of_6 sz0
  obtain ⟨fu0, q0⟩ := h0
  obtain ⟨xs_a0, n_a0, _, _, _, xl_a0, hf_a0⟩ := DataW.trod_array Try.underlying25 q0
  rw [cells24] at hf_a0
  have q_a0_0 : DataW.trod enc Try.prog W 0 (fun _ => true) true n_a0 24 [c0_0, c0_1] = some (xs_a0[0]'(by rw [xl_a0]; decide)) := (hf_a0 0 (by decide)).trans (List.getElem?_eq_getElem _)
  obtain ⟨xs_a0_0, n_a0_0, _, _, _, xl_a0_0, hf_a0_0⟩ := DataW.trod_struct Try.underlying24 q_a0_0
  have q_a0_0_X : DataW.trod enc Try.prog W 0 (fun _ => true) true n_a0_0 3 [c0_0] = some (xs_a0_0[0]'(by rw [xl_a0_0]; decide)) := (hf_a0_0 0 _ rfl).trans (List.getElem?_eq_getElem _)
  obtain ⟨a0_0_X, e_a0_0_X, _, w_a0_0_X⟩ := DataW.trod_int Try.underlying3 q_a0_0_X
  obtain rfl : c0_0 = Value.int .i64 a0_0_X := by injection e_a0_0_X
  have q_a0_0_Y : DataW.trod enc Try.prog W 0 (fun _ => true) true n_a0_0 3 [c0_1] = some (xs_a0_0[1]'(by rw [xl_a0_0]; decide)) := (hf_a0_0 1 _ rfl).trans (List.getElem?_eq_getElem _)
  obtain ⟨a0_0_Y, e_a0_0_Y, _, w_a0_0_Y⟩ := DataW.trod_int Try.underlying3 q_a0_0_Y
  obtain rfl : c0_1 = Value.int .i64 a0_0_Y := by injection e_a0_0_Y
  have q_a0_1 : DataW.trod enc Try.prog W 0 (fun _ => true) true n_a0 24 [c0_2, c0_3] = some (xs_a0[1]'(by rw [xl_a0]; decide)) := (hf_a0 1 (by decide)).trans (List.getElem?_eq_getElem _)
  obtain ⟨xs_a0_1, n_a0_1, _, _, _, xl_a0_1, hf_a0_1⟩ := DataW.trod_struct Try.underlying24 q_a0_1
  have q_a0_1_X : DataW.trod enc Try.prog W 0 (fun _ => true) true n_a0_1 3 [c0_2] = some (xs_a0_1[0]'(by rw [xl_a0_1]; decide)) := (hf_a0_1 0 _ rfl).trans (List.getElem?_eq_getElem _)
  obtain ⟨a0_1_X, e_a0_1_X, _, w_a0_1_X⟩ := DataW.trod_int Try.underlying3 q_a0_1_X
  obtain rfl : c0_2 = Value.int .i64 a0_1_X := by injection e_a0_1_X
  have q_a0_1_Y : DataW.trod enc Try.prog W 0 (fun _ => true) true n_a0_1 3 [c0_3] = some (xs_a0_1[1]'(by rw [xl_a0_1]; decide)) := (hf_a0_1 1 _ rfl).trans (List.getElem?_eq_getElem _)
  obtain ⟨a0_1_Y, e_a0_1_Y, _, w_a0_1_Y⟩ := DataW.trod_int Try.underlying3 q_a0_1_Y
  obtain rfl : c0_3 = Value.int .i64 a0_1_Y := by injection e_a0_1_Y
  have q_a0_2 : DataW.trod enc Try.prog W 0 (fun _ => true) true n_a0 24 [c0_4, c0_5] = some (xs_a0[2]'(by rw [xl_a0]; decide)) := (hf_a0 2 (by decide)).trans (List.getElem?_eq_getElem _)
  obtain ⟨xs_a0_2, n_a0_2, _, _, _, xl_a0_2, hf_a0_2⟩ := DataW.trod_struct Try.underlying24 q_a0_2
  have q_a0_2_X : DataW.trod enc Try.prog W 0 (fun _ => true) true n_a0_2 3 [c0_4] = some (xs_a0_2[0]'(by rw [xl_a0_2]; decide)) := (hf_a0_2 0 _ rfl).trans (List.getElem?_eq_getElem _)
  obtain ⟨a0_2_X, e_a0_2_X, _, w_a0_2_X⟩ := DataW.trod_int Try.underlying3 q_a0_2_X
  obtain rfl : c0_4 = Value.int .i64 a0_2_X := by injection e_a0_2_X
  have q_a0_2_Y : DataW.trod enc Try.prog W 0 (fun _ => true) true n_a0_2 3 [c0_5] = some (xs_a0_2[1]'(by rw [xl_a0_2]; decide)) := (hf_a0_2 1 _ rfl).trans (List.getElem?_eq_getElem _)
  obtain ⟨a0_2_Y, e_a0_2_Y, _, w_a0_2_Y⟩ := DataW.trod_int Try.underlying3 q_a0_2_Y
  obtain rfl : c0_5 = Value.int .i64 a0_2_Y := by injection e_a0_2_Y
  have k1 := h1
  have lt1 : ∀ x ∈ p1, x.block < W.heap.size := by obtain ⟨m, hm⟩ := k1; exact DataW.trod_lt m _ _ _ hm
  obtain ⟨a1, rfl, rfl, rfl, w_a1⟩ := open_int Try.underlying3 (hval 1 3 v1 rfl rfl) h1
  have k2 := h2
  have lt2 : ∀ x ∈ p2, x.block < W.heap.size := by obtain ⟨m, hm⟩ := k2; exact DataW.trod_lt m _ _ _ hm
  obtain ⟨a2, rfl, rfl, rfl, w_a2⟩ := open_int Try.underlying3 (hval 2 3 v2 rfl rfl) h2
  clear hA0 hval0
  refine (walk_MvpEdge a0_0_X a0_0_Y a0_1_X a0_1_Y a0_2_X a0_2_Y a1 a2 W w_a0_0_X w_a0_0_Y w_a0_1_X w_a0_1_Y w_a0_2_X w_a0_2_Y w_a1 w_a2).mono fun e W' ⟨he, bel⟩ => ?_
  subst he
  exact ⟨_, rfl, _, _, _, [], _, [], hW', trodAll_mk1 (shut_bool Try.underlying4 _), (trodAll_cons_mk (Below.trod laidOut (by kernel_rfl) (of_decide_eq_true (by kernel_rfl)) k0 bel lt0) (trodAll_cons_mk (Below.trod laidOut (by kernel_rfl) (of_decide_eq_true (by kernel_rfl)) k1 bel lt1) (trodAll_cons_mk (Below.trod laidOut (by kernel_rfl) (of_decide_eq_true (by kernel_rfl)) k2 bel lt2) trodAll_mk0))), rfl, bel.frame _, fun h => by cases h⟩

theorem over : Rows.mvpEdgeRow.holds Try.pinned (OpenSpec.ofChange Rows.mvpEdgeSpec) :=
  OpenClaim.holds_of_wide 8 Try.f8 rfl rfl rfl rfl rfl rfl rfl ⟨rfl, rfl, rfl, rfl, rfl⟩ rfl rfl rfl rfl rfl (by kernel_rfl) Try.func8 (by kernel_rfl)
    (of_decide_eq_true (by kernel_rfl)) (by unfold Func.isWrapper; first | (rw [if_pos (by decide +kernel)]; kernel_rfl) | (rw [if_neg (by decide +kernel)]; exact ⟨rfl, rfl⟩))
    (fun os started H enc _ => lifted os started H enc)

theorem proved : Rows.MvpEdgeSaid := over
#print axioms proved
end Go.Proofs.Ytgpoajhlmdmpkaa.lawMvpEdge
