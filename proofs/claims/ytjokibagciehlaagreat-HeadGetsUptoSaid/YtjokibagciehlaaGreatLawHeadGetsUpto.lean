/- How many values a reading holds: what the second form's bound gives. The row's step of the statement HeadGets: for every input the call returns true and nothing that was there is changed. Written by a program; the walk is YtjokibagciehlaaGreatLawY's walk_HeadGets. -/
import Derived.Test.YtjokibagciehlaaGreatRows
import Derived.Test.YtjokibagciehlaaGreatStructs
import Derived.Test.YtjokibagciehlaaGreatLawY
import Derived.ProofKit
import Derived.OpenShut
import Derived.ShutString
import Derived.ChangeOld
import Derived.Below
import Derived.JoinedCond
namespace Go.Proofs.YtjokibagciehlaaGreat

theorem bulk_one {H : Type} (d : DataW H) : 1 ≤ Rows.uptoBulk d := by
  cases d with
  | lit l => cases l <;> simp [Rows.uptoBulk]
  | _ => simp [Rows.uptoBulk]
theorem bulk_len {H : Type} (l : List (DataW H)) : l.length ≤ Rows.uptoBulkAll l := by
  induction l with
  | nil => simp [Rows.uptoBulkAll]
  | cons d l ih =>
    have := bulk_one d
    simp only [Rows.uptoBulkAll, List.length_cons]
    omega
theorem bulk_part {H : Type} {d : DataW H} {l : List (DataW H)} (h : d ∈ l) : Rows.uptoBulk d ≤ Rows.uptoBulkAll l := by
  induction l with
  | nil => cases h
  | cons x l ih =>
    simp only [Rows.uptoBulkAll]
    rcases List.mem_cons.1 h with rfl | h
    · omega
    · have := ih h
      omega
open Go.RowKit Go.ChangeShapes Go.WideShapes Go.Deep
end Go.Proofs.YtjokibagciehlaaGreat

namespace Go.Proofs.YtjokibagciehlaaGreat.lawHeadGets
open Go.ChangeShapes Go.WideShapes Go.ChangeAt Go.RowKit
open Go.ChangeMaps (open_string shut_string)
set_option linter.unusedVariables false
set_option linter.unusedSimpArgs false

theorem own : ownKnob Tryz.prog.godebug = none := by kernel_rfl
theorem laidOut : laidOutB Tryz.prog = true := by kernel_rfl
theorem cells29 : Tryz.prog.cellsOf 29 = 9 := by kernel_rfl
theorem cells31 : Tryz.prog.cellsOf 31 = 9 := by kernel_rfl
theorem cells_of_9 {α : Type} {cs : Array α} (h : cs.size = 9) : ∃ c0 c1 c2 c3 c4 c5 c6 c7 c8 : α, cs = #[c0, c1, c2, c3, c4, c5, c6, c7, c8] := by
  obtain ⟨l⟩ := cs
  match l, h with
  | [c0, c1, c2, c3, c4, c5, c6, c7, c8], _ => exact ⟨c0, c1, c2, c3, c4, c5, c6, c7, c8, rfl⟩

set_option maxRecDepth 100000 in
set_option maxHeartbeats 1000000 in
theorem lifted (os : Os) (started : os.Started) (H : Type) (enc : TypeId × Value → H) (F : Stop.Interp) :
    ReturnsInHanded {} Tryz.checked os 4 .any ((Rows.OpenSpec.upto Rows.headGetsSpec).pre6 enc Tryz.prog Tryz.f4 Rows.headGetsUptoRow.domain false) (((Rows.OpenSpec.upto Rows.headGetsSpec).at F).post enc Tryz.prog Tryz.f4 false true false false) := by
  refine returnsInHanded_of_cond (C := Tryz.checked) (s := Rows.OpenSpec.upto Rows.headGetsSpec) (k := Rows.uptoSmall) rfl own started (by kernel_rfl) Tryz.func4
    (OpenSpec.witness (enc := enc) (os := os) (f := 4) (fn := Tryz.f4) (conds := Rows.headGetsUptoRow.domain) (apart := false) (C := Tryz.checked) (s := Rows.OpenSpec.upto Rows.headGetsSpec) (k := Rows.uptoSmall) rfl false ⟨#[], #[.string ByteArray.empty, .int .i64 0, .agg #[.int .i64 0, .int .i64 0, .int .i64 0, .int .i64 0, .int .i64 0, .int .i64 0, .slice none 0 0, .int .i64 0, .int .i64 0], .agg #[.bool false, .bool false, .int .i64 0, .int .i64 0, .int .i64 0, .bool false, .bool false, .int .i64 0, .int .i64 0], .int .i64 0, .bool false], []⟩ 8 (by kernel_rfl) (by kernel_rfl) (by kernel_rfl)
      (x := ([.lit (.string []), .lit (.int .i64 0), .agg [.lit (.int .i64 0), .lit (.int .i64 0), .lit (.int .i64 0), .lit (.int .i64 0), .lit (.int .i64 0), .lit (.int .i64 0), .nil, .lit (.int .i64 0), .lit (.int .i64 0)], .agg [.lit (.bool false), .lit (.bool false), .lit (.int .i64 0), .lit (.int .i64 0), .lit (.int .i64 0), .lit (.bool false), .lit (.bool false), .lit (.int .i64 0), .lit (.int .i64 0)], .lit (.int .i64 0), .lit (.bool false)], [], [])) (by kernel_rfl) rfl (by kernel_rfl)) ?_
  intro W base args ds gs before hval0 hW hcnd hk _
  have hval : ∀ (j : Nat) t v, Tryz.f4.params[j]? = some t → args[j]? = some v → Value.okWide Tryz.prog W .any base t v := hval0
  have hW' := hW
  obtain ⟨p, q, hA0, hV, rfl, hfz, hnd⟩ := hW
  have hA : DataW.TrodAll enc Tryz.prog W 0 (fun _ => true) true Tryz.f4.params.toList args.toList ds p := hA0
  rw [Tryz.params4] at hA hval
  obtain ⟨v0, vs0, d0, ds0, p0, q0, hargs, rfl, rfl, h0, r0⟩ := trodAll_cons hA
  obtain ⟨v1, vs1, d1, ds1, p1, q1, rfl, rfl, rfl, h1, r1⟩ := trodAll_cons r0
  obtain ⟨v2, vs2, d2, ds2, p2, q2, rfl, rfl, rfl, h2, r2⟩ := trodAll_cons r1
  obtain ⟨v3, vs3, d3, ds3, p3, q3, rfl, rfl, rfl, h3, r3⟩ := trodAll_cons r2
  obtain ⟨v4, vs4, d4, ds4, p4, q4, rfl, rfl, rfl, h4, r4⟩ := trodAll_cons r3
  obtain ⟨v5, vs5, d5, ds5, p5, q5, rfl, rfl, rfl, h5, r5⟩ := trodAll_cons r4
  obtain ⟨rfl, rfl, rfl⟩ := trodAll_nil r5
  obtain rfl : args = #[v0, v1, v2, v3, v4, v5] := by cases args; simp_all
  obtain ⟨rfl, rfl⟩ := trodVars_none hV
  have k0 := h0
  have lt0 : ∀ x ∈ p0, x.block < W.heap.size := by obtain ⟨m, hm⟩ := k0; exact DataW.trod_lt m _ _ _ hm
  obtain ⟨a0, rfl, rfl, rfl, w_a0⟩ := open_string Tryz.underlying9 (hval 0 9 v0 rfl rfl) h0
  have s_a0 : a0.size ≤ 1048576 := by
    have h : Rows.uptoBulkAll _ ≤ 1048576 := of_decide_eq_true hk
    simp only [List.cons_append, List.nil_append, Rows.uptoBulkAll, Rows.uptoBulk] at h
    have e2 : a0.data.toList.length = a0.size := by rw [Array.length_toList]; rfl
    omega
  have k1 := h1
  have lt1 : ∀ x ∈ p1, x.block < W.heap.size := by obtain ⟨m, hm⟩ := k1; exact DataW.trod_lt m _ _ _ hm
  obtain ⟨a1, rfl, rfl, rfl, w_a1⟩ := open_int Tryz.underlying3 (hval 1 3 v1 rfl rfl) h1
  have k2 := h2
  have lt2 : ∀ x ∈ p2, x.block < W.heap.size := by obtain ⟨m, hm⟩ := k2; exact DataW.trod_lt m _ _ _ hm
  obtain ⟨cs2, rfl, sz2⟩ := okWide_struct Tryz.underlying29 (hval 2 29 v2 rfl rfl)
  rw [cells29] at sz2
  obtain ⟨c2_0, c2_1, c2_2, c2_3, c2_4, c2_5, c2_6, c2_7, c2_8, rfl⟩ := cells_of_9 sz2
  obtain ⟨fu2, q2⟩ := h2
  obtain ⟨xs_a2, n_a2, _, dx_a2, _, xl_a2, hf_a2⟩ := DataW.trod_struct Tryz.underlying29 q2
  have q_a2_Wide : DataW.trod enc Tryz.prog W 0 (fun _ => true) true n_a2 3 [c2_0] = some (xs_a2[0]'(by rw [xl_a2]; decide)) := (hf_a2 0 _ rfl).trans (List.getElem?_eq_getElem _)
  obtain ⟨a2_Wide, e_a2_Wide, _, w_a2_Wide⟩ := DataW.trod_int Tryz.underlying3 q_a2_Wide
  obtain rfl : c2_0 = Value.int .i64 a2_Wide := by injection e_a2_Wide
  have q_a2_High : DataW.trod enc Tryz.prog W 0 (fun _ => true) true n_a2 3 [c2_1] = some (xs_a2[1]'(by rw [xl_a2]; decide)) := (hf_a2 1 _ rfl).trans (List.getElem?_eq_getElem _)
  obtain ⟨a2_High, e_a2_High, _, w_a2_High⟩ := DataW.trod_int Tryz.underlying3 q_a2_High
  obtain rfl : c2_1 = Value.int .i64 a2_High := by injection e_a2_High
  have q_a2_FrameBits : DataW.trod enc Tryz.prog W 0 (fun _ => true) true n_a2 3 [c2_2] = some (xs_a2[2]'(by rw [xl_a2]; decide)) := (hf_a2 2 _ rfl).trans (List.getElem?_eq_getElem _)
  obtain ⟨a2_FrameBits, e_a2_FrameBits, _, w_a2_FrameBits⟩ := DataW.trod_int Tryz.underlying3 q_a2_FrameBits
  obtain rfl : c2_2 = Value.int .i64 a2_FrameBits := by injection e_a2_FrameBits
  have q_a2_PocType : DataW.trod enc Tryz.prog W 0 (fun _ => true) true n_a2 3 [c2_3] = some (xs_a2[3]'(by rw [xl_a2]; decide)) := (hf_a2 3 _ rfl).trans (List.getElem?_eq_getElem _)
  obtain ⟨a2_PocType, e_a2_PocType, _, w_a2_PocType⟩ := DataW.trod_int Tryz.underlying3 q_a2_PocType
  obtain rfl : c2_3 = Value.int .i64 a2_PocType := by injection e_a2_PocType
  have q_a2_PocBits : DataW.trod enc Tryz.prog W 0 (fun _ => true) true n_a2 3 [c2_4] = some (xs_a2[4]'(by rw [xl_a2]; decide)) := (hf_a2 4 _ rfl).trans (List.getElem?_eq_getElem _)
  obtain ⟨a2_PocBits, e_a2_PocBits, _, w_a2_PocBits⟩ := DataW.trod_int Tryz.underlying3 q_a2_PocBits
  obtain rfl : c2_4 = Value.int .i64 a2_PocBits := by injection e_a2_PocBits
  have q_a2_NonRef : DataW.trod enc Tryz.prog W 0 (fun _ => true) true n_a2 3 [c2_5] = some (xs_a2[5]'(by rw [xl_a2]; decide)) := (hf_a2 5 _ rfl).trans (List.getElem?_eq_getElem _)
  obtain ⟨a2_NonRef, e_a2_NonRef, _, w_a2_NonRef⟩ := DataW.trod_int Tryz.underlying3 q_a2_NonRef
  obtain rfl : c2_5 = Value.int .i64 a2_NonRef := by injection e_a2_NonRef
  have q_a2_Cycle : DataW.trod enc Tryz.prog W 0 (fun _ => true) true n_a2 27 [c2_6] = some (xs_a2[6]'(by rw [xl_a2]; decide)) := (hf_a2 6 _ rfl).trans (List.getElem?_eq_getElem _)
  obtain ⟨a2_Cycle, len_a2_Cycle, cap_a2_Cycle, z_a2_Cycle, e_a2_Cycle, g_a2_Cycle, n_a2_Cycle, l_a2_Cycle, f_a2_Cycle, D_a2_Cycle⟩ := open_row1 Tryz.underlying27 Tryz.underlying3 (by kernel_rfl) q_a2_Cycle
  obtain rfl : c2_6 = Value.slice a2_Cycle len_a2_Cycle cap_a2_Cycle := e_a2_Cycle
  have s_a2_Cycle : cap_a2_Cycle * 8 ≤ 140737488351232 := by
    rcases D_a2_Cycle with e | ⟨el, sp, hd, hl⟩
    · omega
    · have hd0 : d2 = .agg (xs_a2.map (·.1)) := congrArg Prod.fst dx_a2
      have hm : (xs_a2.map (·.1))[6]? = some (.slice el sp) := by
        rw [List.getElem?_map, List.getElem?_eq_getElem (by rw [xl_a2]; decide : 6 < xs_a2.length), Option.map_some]
        exact congrArg some hd
      have h : Rows.uptoBulkAll _ ≤ 1048576 := of_decide_eq_true hk
      have h2 := bulk_part (List.mem_of_getElem? hm)
      simp only [List.cons_append, List.nil_append, Rows.uptoBulkAll, hd0, Rows.uptoBulk] at h h2
      have h3 := bulk_len el
      have h4 := bulk_len sp
      omega
  have w_a2_Cycle : IntsArg W a2_Cycle len_a2_Cycle cap_a2_Cycle z_a2_Cycle := ⟨g_a2_Cycle, n_a2_Cycle, l_a2_Cycle, s_a2_Cycle, f_a2_Cycle⟩
  have q_a2_Refs : DataW.trod enc Tryz.prog W 0 (fun _ => true) true n_a2 3 [c2_7] = some (xs_a2[7]'(by rw [xl_a2]; decide)) := (hf_a2 7 _ rfl).trans (List.getElem?_eq_getElem _)
  obtain ⟨a2_Refs, e_a2_Refs, _, w_a2_Refs⟩ := DataW.trod_int Tryz.underlying3 q_a2_Refs
  obtain rfl : c2_7 = Value.int .i64 a2_Refs := by injection e_a2_Refs
  have q_a2_Delay : DataW.trod enc Tryz.prog W 0 (fun _ => true) true n_a2 3 [c2_8] = some (xs_a2[8]'(by rw [xl_a2]; decide)) := (hf_a2 8 _ rfl).trans (List.getElem?_eq_getElem _)
  obtain ⟨a2_Delay, e_a2_Delay, _, w_a2_Delay⟩ := DataW.trod_int Tryz.underlying3 q_a2_Delay
  obtain rfl : c2_8 = Value.int .i64 a2_Delay := by injection e_a2_Delay
  have k3 := h3
  have lt3 : ∀ x ∈ p3, x.block < W.heap.size := by obtain ⟨m, hm⟩ := k3; exact DataW.trod_lt m _ _ _ hm
  obtain ⟨cs3, rfl, sz3⟩ := okWide_struct Tryz.underlying31 (hval 3 31 v3 rfl rfl)
  rw [cells31] at sz3
  obtain ⟨c3_0, c3_1, c3_2, c3_3, c3_4, c3_5, c3_6, c3_7, c3_8, rfl⟩ := cells_of_9 sz3
  obtain ⟨fu3, q3⟩ := h3
  obtain ⟨xs_a3, n_a3, _, dx_a3, _, xl_a3, hf_a3⟩ := DataW.trod_struct Tryz.underlying31 q3
  have q_a3_Cabac : DataW.trod enc Tryz.prog W 0 (fun _ => true) true n_a3 4 [c3_0] = some (xs_a3[0]'(by rw [xl_a3]; decide)) := (hf_a3 0 _ rfl).trans (List.getElem?_eq_getElem _)
  obtain ⟨a3_Cabac, e_a3_Cabac, _⟩ := DataW.trod_bool Tryz.underlying4 q_a3_Cabac
  obtain rfl : c3_0 = Value.bool a3_Cabac := by injection e_a3_Cabac
  have q_a3_Weighted : DataW.trod enc Tryz.prog W 0 (fun _ => true) true n_a3 4 [c3_1] = some (xs_a3[1]'(by rw [xl_a3]; decide)) := (hf_a3 1 _ rfl).trans (List.getElem?_eq_getElem _)
  obtain ⟨a3_Weighted, e_a3_Weighted, _⟩ := DataW.trod_bool Tryz.underlying4 q_a3_Weighted
  obtain rfl : c3_1 = Value.bool a3_Weighted := by injection e_a3_Weighted
  have q_a3_BiPred : DataW.trod enc Tryz.prog W 0 (fun _ => true) true n_a3 3 [c3_2] = some (xs_a3[2]'(by rw [xl_a3]; decide)) := (hf_a3 2 _ rfl).trans (List.getElem?_eq_getElem _)
  obtain ⟨a3_BiPred, e_a3_BiPred, _, w_a3_BiPred⟩ := DataW.trod_int Tryz.underlying3 q_a3_BiPred
  obtain rfl : c3_2 = Value.int .i64 a3_BiPred := by injection e_a3_BiPred
  have q_a3_Qp : DataW.trod enc Tryz.prog W 0 (fun _ => true) true n_a3 3 [c3_3] = some (xs_a3[3]'(by rw [xl_a3]; decide)) := (hf_a3 3 _ rfl).trans (List.getElem?_eq_getElem _)
  obtain ⟨a3_Qp, e_a3_Qp, _, w_a3_Qp⟩ := DataW.trod_int Tryz.underlying3 q_a3_Qp
  obtain rfl : c3_3 = Value.int .i64 a3_Qp := by injection e_a3_Qp
  have q_a3_ChromaQp : DataW.trod enc Tryz.prog W 0 (fun _ => true) true n_a3 3 [c3_4] = some (xs_a3[4]'(by rw [xl_a3]; decide)) := (hf_a3 4 _ rfl).trans (List.getElem?_eq_getElem _)
  obtain ⟨a3_ChromaQp, e_a3_ChromaQp, _, w_a3_ChromaQp⟩ := DataW.trod_int Tryz.underlying3 q_a3_ChromaQp
  obtain rfl : c3_4 = Value.int .i64 a3_ChromaQp := by injection e_a3_ChromaQp
  have q_a3_Constrained : DataW.trod enc Tryz.prog W 0 (fun _ => true) true n_a3 4 [c3_5] = some (xs_a3[5]'(by rw [xl_a3]; decide)) := (hf_a3 5 _ rfl).trans (List.getElem?_eq_getElem _)
  obtain ⟨a3_Constrained, e_a3_Constrained, _⟩ := DataW.trod_bool Tryz.underlying4 q_a3_Constrained
  obtain rfl : c3_5 = Value.bool a3_Constrained := by injection e_a3_Constrained
  have q_a3_Deblock : DataW.trod enc Tryz.prog W 0 (fun _ => true) true n_a3 4 [c3_6] = some (xs_a3[6]'(by rw [xl_a3]; decide)) := (hf_a3 6 _ rfl).trans (List.getElem?_eq_getElem _)
  obtain ⟨a3_Deblock, e_a3_Deblock, _⟩ := DataW.trod_bool Tryz.underlying4 q_a3_Deblock
  obtain rfl : c3_6 = Value.bool a3_Deblock := by injection e_a3_Deblock
  have q_a3_Active0 : DataW.trod enc Tryz.prog W 0 (fun _ => true) true n_a3 3 [c3_7] = some (xs_a3[7]'(by rw [xl_a3]; decide)) := (hf_a3 7 _ rfl).trans (List.getElem?_eq_getElem _)
  obtain ⟨a3_Active0, e_a3_Active0, _, w_a3_Active0⟩ := DataW.trod_int Tryz.underlying3 q_a3_Active0
  obtain rfl : c3_7 = Value.int .i64 a3_Active0 := by injection e_a3_Active0
  have q_a3_Active1 : DataW.trod enc Tryz.prog W 0 (fun _ => true) true n_a3 3 [c3_8] = some (xs_a3[8]'(by rw [xl_a3]; decide)) := (hf_a3 8 _ rfl).trans (List.getElem?_eq_getElem _)
  obtain ⟨a3_Active1, e_a3_Active1, _, w_a3_Active1⟩ := DataW.trod_int Tryz.underlying3 q_a3_Active1
  obtain rfl : c3_8 = Value.int .i64 a3_Active1 := by injection e_a3_Active1
  have k4 := h4
  have lt4 : ∀ x ∈ p4, x.block < W.heap.size := by obtain ⟨m, hm⟩ := k4; exact DataW.trod_lt m _ _ _ hm
  obtain ⟨a4, rfl, rfl, rfl, w_a4⟩ := open_int Tryz.underlying3 (hval 4 3 v4 rfl rfl) h4
  have k5 := h5
  have lt5 : ∀ x ∈ p5, x.block < W.heap.size := by obtain ⟨m, hm⟩ := k5; exact DataW.trod_lt m _ _ _ hm
  obtain ⟨a5, rfl, rfl, rfl⟩ := open_bool Tryz.underlying4 (hval 5 4 v5 rfl rfl) h5
  clear hA0 hval0
  refine (walk_HeadGets a0 a1 a2_Wide a2_High a2_FrameBits a2_PocType a2_PocBits a2_NonRef a2_Cycle len_a2_Cycle cap_a2_Cycle z_a2_Cycle a2_Refs a2_Delay a3_Cabac a3_Weighted a3_BiPred a3_Qp a3_ChromaQp a3_Constrained a3_Deblock a3_Active0 a3_Active1 a4 a5 W s_a0 w_a1 w_a2_Wide w_a2_High w_a2_FrameBits w_a2_PocType w_a2_PocBits w_a2_NonRef w_a2_Cycle w_a2_Refs w_a2_Delay w_a3_BiPred w_a3_Qp w_a3_ChromaQp w_a3_Active0 w_a3_Active1 w_a4).mono fun e W' ⟨he, bel⟩ => ?_
  subst he
  exact (show ∃ v, _ = Ending.returned v ∧ Rows.headGetsSpec.post enc Tryz.prog Tryz.f4 false true false false W _ v W' from ⟨_, rfl, _, _, _, [], _, [], hW', trodAll_mk1 (shut_bool Tryz.underlying4 _), (trodAll_cons_mk (Below.trod laidOut (by kernel_rfl) (of_decide_eq_true (by kernel_rfl)) k0 bel lt0) (trodAll_cons_mk (Below.trod laidOut (by kernel_rfl) (of_decide_eq_true (by kernel_rfl)) k1 bel lt1) (trodAll_cons_mk (Below.trod laidOut (by kernel_rfl) (of_decide_eq_true (by kernel_rfl)) k2 bel lt2) (trodAll_cons_mk (Below.trod laidOut (by kernel_rfl) (of_decide_eq_true (by kernel_rfl)) k3 bel lt3) (trodAll_cons_mk (Below.trod laidOut (by kernel_rfl) (of_decide_eq_true (by kernel_rfl)) k4 bel lt4) (trodAll_cons_mk (Below.trod laidOut (by kernel_rfl) (of_decide_eq_true (by kernel_rfl)) k5 bel lt5) trodAll_mk0)))))), rfl, bel.frame _, fun h => by cases h⟩)

theorem over : Rows.headGetsUptoRow.holds Tryz.pinned (Rows.OpenSpec.upto Rows.headGetsSpec) :=
  OpenClaim.holds_of_cond 4 Tryz.f4 rfl rfl rfl rfl rfl rfl rfl ⟨rfl, rfl, rfl, rfl, rfl⟩ rfl rfl rfl rfl rfl (by kernel_rfl) Tryz.func4 (by kernel_rfl)
    (of_decide_eq_true (by kernel_rfl)) (by unfold Func.isWrapper; first | (rw [if_pos (by decide +kernel)]; kernel_rfl) | (rw [if_neg (by decide +kernel)]; exact ⟨rfl, rfl⟩))
    (fun os started H enc _ F => lifted os started H enc F)

theorem proved : Rows.HeadGetsUptoSaid := over
#print axioms proved
end Go.Proofs.YtjokibagciehlaaGreat.lawHeadGets
