/- The row's step of the statement Directs: for every input the call returns true and nothing that was there is changed. Written by a program; the walk is YtahnfecohdflnaaDirH's walk_Directs. -/
import Derived.Test.YtahnfecohdflnaaDirH
import Derived.ProofKit
import Derived.OpenShut
import Derived.ShutString
import Derived.ChangeOld
import Derived.Below
namespace Go.Proofs.Ytahnfecohdflnaa.lawDirects
open Go.ChangeShapes Go.WideShapes Go.ChangeAt Go.RowKit
open Go.ChangeMaps (open_string shut_string)
set_option linter.unusedVariables false
set_option linter.unusedSimpArgs false

theorem own : ownKnob Try.prog.godebug = none := by kernel_rfl
theorem laidOut : laidOutB Try.prog = true := by kernel_rfl
theorem cells3 : Try.prog.cellsOf 3 = 1 := by kernel_rfl
theorem cells23 : Try.prog.cellsOf 23 = 2 := by kernel_rfl
theorem cells24 : Try.prog.cellsOf 24 = 3 := by kernel_rfl
theorem okWide_arr {P : Program} {w : World} {r : Reach} {base : Nat} {t : TypeId} {v : Value} {m : Nat} {e : TypeId} (ht : P.underlying t = some (.array m e)) (h : Value.okWide P w r base t v) : ∃ cs, v = .agg cs ∧ cs.size = P.cellsOf t := by
  simp only [Value.okWide, ht] at h
  cases v <;> simp_all
theorem cells_of_2 {α : Type} {cs : Array α} (h : cs.size = 2) : ∃ c0 c1 : α, cs = #[c0, c1] := by
  obtain ⟨l⟩ := cs
  match l, h with
  | [c0, c1], _ => exact ⟨c0, c1, rfl⟩
theorem cells_of_3 {α : Type} {cs : Array α} (h : cs.size = 3) : ∃ c0 c1 c2 : α, cs = #[c0, c1, c2] := by
  obtain ⟨l⟩ := cs
  match l, h with
  | [c0, c1, c2], _ => exact ⟨c0, c1, c2, rfl⟩

set_option maxRecDepth 100000 in
set_option maxHeartbeats 1000000 in
theorem lifted (os : Os) (started : os.Started) (H : Type) (enc : TypeId × Value → H) :
    ReturnsInHanded {} Try.checked os 3 .any (Rows.directsSpec.pre6 enc Try.prog Try.f3 Rows.directsRow.domain false) (Rows.directsSpec.post enc Try.prog Try.f3 false true false false) := by
  refine returnsInHanded_of_change (C := Try.checked) own started (by kernel_rfl) Try.func3
    (ChangeSpec.witness6 (enc := enc) (C := Try.checked) false ⟨#[], #[.int .i64 0, .int .i64 0, .int .i64 0, .agg #[.int .i64 0, .int .i64 0], .int .i64 0, .bool false, .agg #[.int .i64 0, .int .i64 0, .int .i64 0]], []⟩ 8 (by kernel_rfl) (by kernel_rfl) (by kernel_rfl) (by kernel_rfl)) ?_
  intro W base args ds gs before hval0 hW hcnd _
  have hval : ∀ (j : Nat) t v, Try.f3.params[j]? = some t → args[j]? = some v → Value.okWide Try.prog W .any base t v := hval0
  have hW' := hW
  obtain ⟨p, q, hA0, hV, rfl, hfz, hnd⟩ := hW
  have hA : DataW.TrodAll enc Try.prog W 0 (fun _ => true) true Try.f3.params.toList args.toList ds p := hA0
  rw [Try.params3] at hA hval
  obtain ⟨v0, vs0, d0, ds0, p0, q0, hargs, rfl, rfl, h0, r0⟩ := trodAll_cons hA
  obtain ⟨v1, vs1, d1, ds1, p1, q1, rfl, rfl, rfl, h1, r1⟩ := trodAll_cons r0
  obtain ⟨v2, vs2, d2, ds2, p2, q2, rfl, rfl, rfl, h2, r2⟩ := trodAll_cons r1
  obtain ⟨v3, vs3, d3, ds3, p3, q3, rfl, rfl, rfl, h3, r3⟩ := trodAll_cons r2
  obtain ⟨v4, vs4, d4, ds4, p4, q4, rfl, rfl, rfl, h4, r4⟩ := trodAll_cons r3
  obtain ⟨v5, vs5, d5, ds5, p5, q5, rfl, rfl, rfl, h5, r5⟩ := trodAll_cons r4
  obtain ⟨v6, vs6, d6, ds6, p6, q6, rfl, rfl, rfl, h6, r6⟩ := trodAll_cons r5
  obtain ⟨rfl, rfl, rfl⟩ := trodAll_nil r6
  obtain rfl : args = #[v0, v1, v2, v3, v4, v5, v6] := by cases args; simp_all
  obtain ⟨rfl, rfl⟩ := trodVars_none hV
  have k0 := h0
  have lt0 : ∀ x ∈ p0, x.block < W.heap.size := by obtain ⟨m, hm⟩ := k0; exact DataW.trod_lt m _ _ _ hm
  obtain ⟨a0, rfl, rfl, rfl, w_a0⟩ := open_int Try.underlying3 (hval 0 3 v0 rfl rfl) h0
  have k1 := h1
  have lt1 : ∀ x ∈ p1, x.block < W.heap.size := by obtain ⟨m, hm⟩ := k1; exact DataW.trod_lt m _ _ _ hm
  obtain ⟨a1, rfl, rfl, rfl, w_a1⟩ := open_int Try.underlying3 (hval 1 3 v1 rfl rfl) h1
  have k2 := h2
  have lt2 : ∀ x ∈ p2, x.block < W.heap.size := by obtain ⟨m, hm⟩ := k2; exact DataW.trod_lt m _ _ _ hm
  obtain ⟨a2, rfl, rfl, rfl, w_a2⟩ := open_int Try.underlying3 (hval 2 3 v2 rfl rfl) h2
  have k3 := h3
  have lt3 : ∀ x ∈ p3, x.block < W.heap.size := by obtain ⟨m, hm⟩ := k3; exact DataW.trod_lt m _ _ _ hm
  obtain ⟨cs3, rfl, sz3⟩ := okWide_struct Try.underlying23 (hval 3 23 v3 rfl rfl)
  rw [cells23] at sz3
  obtain ⟨c3_0, c3_1, rfl⟩ := cells_of_2 sz3
  obtain ⟨fu3, q3⟩ := h3
  obtain ⟨xs_a3, n_a3, _, _, _, xl_a3, hf_a3⟩ := DataW.trod_struct Try.underlying23 q3
  have q_a3_X : DataW.trod enc Try.prog W 0 (fun _ => true) true n_a3 3 [c3_0] = some (xs_a3[0]'(by rw [xl_a3]; decide)) := (hf_a3 0 _ rfl).trans (List.getElem?_eq_getElem _)
  obtain ⟨a3_X, e_a3_X, _, w_a3_X⟩ := DataW.trod_int Try.underlying3 q_a3_X
  obtain rfl : c3_0 = Value.int .i64 a3_X := by injection e_a3_X
  have q_a3_Y : DataW.trod enc Try.prog W 0 (fun _ => true) true n_a3 3 [c3_1] = some (xs_a3[1]'(by rw [xl_a3]; decide)) := (hf_a3 1 _ rfl).trans (List.getElem?_eq_getElem _)
  obtain ⟨a3_Y, e_a3_Y, _, w_a3_Y⟩ := DataW.trod_int Try.underlying3 q_a3_Y
  obtain rfl : c3_1 = Value.int .i64 a3_Y := by injection e_a3_Y
  have k4 := h4
  have lt4 : ∀ x ∈ p4, x.block < W.heap.size := by obtain ⟨m, hm⟩ := k4; exact DataW.trod_lt m _ _ _ hm
  obtain ⟨a4, rfl, rfl, rfl, w_a4⟩ := open_int Try.underlying3 (hval 4 3 v4 rfl rfl) h4
  have k5 := h5
  have lt5 : ∀ x ∈ p5, x.block < W.heap.size := by obtain ⟨m, hm⟩ := k5; exact DataW.trod_lt m _ _ _ hm
  obtain ⟨a5, rfl, rfl, rfl⟩ := open_bool Try.underlying4 (hval 5 4 v5 rfl rfl) h5
  have k6 := h6
  have lt6 : ∀ x ∈ p6, x.block < W.heap.size := by obtain ⟨m, hm⟩ := k6; exact DataW.trod_lt m _ _ _ hm
  obtain ⟨cs6, rfl, sz6⟩ := okWide_arr Try.underlying24 (hval 6 24 v6 rfl rfl)
  rw [cells24] at sz6
  obtain ⟨c6_0, c6_1, c6_2, rfl⟩ := cells_of_3 sz6
  obtain ⟨fu6, q6⟩ := h6
  obtain ⟨xs_a6, n_a6, _, _, _, xl_a6, hf_a6⟩ := DataW.trod_array Try.underlying24 q6
  rw [cells3] at hf_a6
  have q_a6_0 : DataW.trod enc Try.prog W 0 (fun _ => true) true n_a6 3 [c6_0] = some (xs_a6[0]'(by rw [xl_a6]; decide)) := (hf_a6 0 (by decide)).trans (List.getElem?_eq_getElem _)
  obtain ⟨a6_0, e_a6_0, _, w_a6_0⟩ := DataW.trod_int Try.underlying3 q_a6_0
  obtain rfl : c6_0 = Value.int .i64 a6_0 := by injection e_a6_0
  have q_a6_1 : DataW.trod enc Try.prog W 0 (fun _ => true) true n_a6 3 [c6_1] = some (xs_a6[1]'(by rw [xl_a6]; decide)) := (hf_a6 1 (by decide)).trans (List.getElem?_eq_getElem _)
  obtain ⟨a6_1, e_a6_1, _, w_a6_1⟩ := DataW.trod_int Try.underlying3 q_a6_1
  obtain rfl : c6_1 = Value.int .i64 a6_1 := by injection e_a6_1
  have q_a6_2 : DataW.trod enc Try.prog W 0 (fun _ => true) true n_a6 3 [c6_2] = some (xs_a6[2]'(by rw [xl_a6]; decide)) := (hf_a6 2 (by decide)).trans (List.getElem?_eq_getElem _)
  obtain ⟨a6_2, e_a6_2, _, w_a6_2⟩ := DataW.trod_int Try.underlying3 q_a6_2
  obtain rfl : c6_2 = Value.int .i64 a6_2 := by injection e_a6_2
  clear hA0 hval0
  refine (walk_Directs a0 a1 a2 a3_X a3_Y a4 a5 a6_0 a6_1 a6_2 W w_a0 w_a1 w_a2 w_a3_X w_a3_Y w_a4 w_a6_0 w_a6_1 w_a6_2).mono fun e W' ⟨he, bel⟩ => ?_
  subst he
  exact ⟨_, rfl, _, _, _, [], _, [], hW', trodAll_mk1 (shut_bool Try.underlying4 _), (trodAll_cons_mk (Below.trod laidOut (by kernel_rfl) (of_decide_eq_true (by kernel_rfl)) k0 bel lt0) (trodAll_cons_mk (Below.trod laidOut (by kernel_rfl) (of_decide_eq_true (by kernel_rfl)) k1 bel lt1) (trodAll_cons_mk (Below.trod laidOut (by kernel_rfl) (of_decide_eq_true (by kernel_rfl)) k2 bel lt2) (trodAll_cons_mk (Below.trod laidOut (by kernel_rfl) (of_decide_eq_true (by kernel_rfl)) k3 bel lt3) (trodAll_cons_mk (Below.trod laidOut (by kernel_rfl) (of_decide_eq_true (by kernel_rfl)) k4 bel lt4) (trodAll_cons_mk (Below.trod laidOut (by kernel_rfl) (of_decide_eq_true (by kernel_rfl)) k5 bel lt5) (trodAll_cons_mk (Below.trod laidOut (by kernel_rfl) (of_decide_eq_true (by kernel_rfl)) k6 bel lt6) trodAll_mk0))))))), rfl, bel.frame _, fun h => by cases h⟩

theorem over : Rows.directsRow.holds Try.pinned (OpenSpec.ofChange Rows.directsSpec) :=
  OpenClaim.holds_of_wide 3 Try.f3 rfl rfl rfl rfl rfl rfl rfl ⟨rfl, rfl, rfl, rfl, rfl⟩ rfl rfl rfl rfl rfl (by kernel_rfl) Try.func3 (by kernel_rfl)
    (of_decide_eq_true (by kernel_rfl)) (by unfold Func.isWrapper; first | (rw [if_pos (by decide +kernel)]; kernel_rfl) | (rw [if_neg (by decide +kernel)]; exact ⟨rfl, rfl⟩))
    (fun os started H enc _ => lifted os started H enc)

theorem proved : Rows.DirectsSaid := over
#print axioms proved
end Go.Proofs.Ytahnfecohdflnaa.lawDirects
