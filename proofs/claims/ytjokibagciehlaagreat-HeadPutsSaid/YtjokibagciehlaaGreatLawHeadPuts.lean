/- The row's step of the statement HeadPuts: for every input the call returns true and nothing that was there is changed. Written by a program; the walk is YtjokibagciehlaaGreatLawY's walk_HeadPuts. -/
import Derived.Test.YtjokibagciehlaaGreatLawY
import Derived.ProofKit
import Derived.OpenShut
import Derived.ShutString
import Derived.ChangeOld
import Derived.Below
import Derived.SizedLaws
namespace Go.Proofs.YtjokibagciehlaaGreat.lawHeadPuts
open Go.ChangeShapes Go.WideShapes Go.ChangeAt Go.RowKit
open Go.ChangeMaps (open_string shut_string)
set_option linter.unusedVariables false
set_option linter.unusedSimpArgs false

theorem own : ownKnob Tryz.prog.godebug = none := by kernel_rfl
theorem laidOut : laidOutB Tryz.prog = true := by kernel_rfl
theorem bytes3 : Tryz.prog.bytesOf 3 = 8 := by kernel_rfl
theorem bytes113 : Tryz.prog.bytesOf 113 = 16 := by kernel_rfl
theorem bytes116 : Tryz.prog.bytesOf 116 = 48 := by kernel_rfl
theorem bytes118 : Tryz.prog.bytesOf 118 = 24 := by kernel_rfl
theorem ct26 : Tryz.prog.cellTypes Tryz.prog.depth 26 = some [3, 3, 3, 3, 3, 3, 4, 3, 3, 22, 22, 3, 3, 23, 23, 4, 24, 3, 4, 3, 3] := by kernel_rfl
theorem cells3 : Tryz.prog.cellsOf 3 = 1 := by kernel_rfl
theorem cells26 : Tryz.prog.cellsOf 26 = 21 := by kernel_rfl
theorem cells29 : Tryz.prog.cellsOf 29 = 9 := by kernel_rfl
theorem cells31 : Tryz.prog.cellsOf 31 = 9 := by kernel_rfl
theorem cells113 : Tryz.prog.cellsOf 113 = 2 := by kernel_rfl
theorem cells114 : Tryz.prog.cellsOf 114 = 3 := by kernel_rfl
theorem cells116 : Tryz.prog.cellsOf 116 = 6 := by kernel_rfl
theorem cells118 : Tryz.prog.cellsOf 118 = 3 := by kernel_rfl
theorem cells_of_9 {α : Type} {cs : Array α} (h : cs.size = 9) : ∃ c0 c1 c2 c3 c4 c5 c6 c7 c8 : α, cs = #[c0, c1, c2, c3, c4, c5, c6, c7, c8] := by
  obtain ⟨l⟩ := cs
  match l, h with
  | [c0, c1, c2, c3, c4, c5, c6, c7, c8], _ => exact ⟨c0, c1, c2, c3, c4, c5, c6, c7, c8, rfl⟩
theorem cells_of_21 {α : Type} {cs : Array α} (h : cs.size = 21) : ∃ c0 c1 c2 c3 c4 c5 c6 c7 c8 c9 c10 c11 c12 c13 c14 c15 c16 c17 c18 c19 c20 : α, cs = #[c0, c1, c2, c3, c4, c5, c6, c7, c8, c9, c10, c11, c12, c13, c14, c15, c16, c17, c18, c19, c20] := by
  obtain ⟨l⟩ := cs
  match l, h with
  | [c0, c1, c2, c3, c4, c5, c6, c7, c8, c9, c10, c11, c12, c13, c14, c15, c16, c17, c18, c19, c20], _ => exact ⟨c0, c1, c2, c3, c4, c5, c6, c7, c8, c9, c10, c11, c12, c13, c14, c15, c16, c17, c18, c19, c20, rfl⟩

set_option maxRecDepth 100000 in
set_option maxHeartbeats 1000000 in
theorem lifted (os : Os) (started : os.Started) (H : Type) (enc : TypeId × Value → H) :
    ReturnsInHanded {} Tryz.checked os 3 .any (Rows.headPutsSpec.pre6 enc Tryz.prog Tryz.f3 Rows.headPutsRow.domain false) (Rows.headPutsSpec.post enc Tryz.prog Tryz.f3 false true false false) := by
  refine returnsInHanded_of_change_sized (C := Tryz.checked) own started (by kernel_rfl) Tryz.func3
    (ChangeSpec.witness6 (enc := enc) (C := Tryz.checked) false ⟨#[], #[.agg #[.int .i64 0, .int .i64 0, .int .i64 0, .int .i64 0, .int .i64 0, .int .i64 0, .bool false, .int .i64 0, .int .i64 0, .slice none 0 0, .slice none 0 0, .int .i64 0, .int .i64 0, .slice none 0 0, .slice none 0 0, .bool false, .slice none 0 0, .int .i64 0, .bool false, .int .i64 0, .int .i64 0], .agg #[.int .i64 0, .int .i64 0, .int .i64 0, .int .i64 0, .int .i64 0, .int .i64 0, .slice none 0 0, .int .i64 0, .int .i64 0], .agg #[.bool false, .bool false, .int .i64 0, .int .i64 0, .int .i64 0, .bool false, .bool false, .int .i64 0, .int .i64 0], .int .i64 0, .bool false, .int .i64 0], []⟩ 8 (by kernel_rfl) (by kernel_rfl) (by kernel_rfl) (by kernel_rfl)) ?_
  intro W base args ds gs before hval0 hW hcnd hsz0 _
  have hsz : (DataW.weightsEach Tryz.prog (Tryz.f3.params.toList ++ Rows.headPutsSpec.plain.varTypes Tryz.prog) (ds ++ gs)).all (· ≤ reachBytes) = true := hsz0
  have hval : ∀ (j : Nat) t v, Tryz.f3.params[j]? = some t → args[j]? = some v → Value.okWide Tryz.prog W .any base t v := hval0
  have hW' := hW
  obtain ⟨p, q, hA0, hV, rfl, hfz, hnd⟩ := hW
  have hA : DataW.TrodAll enc Tryz.prog W 0 (fun _ => true) true Tryz.f3.params.toList args.toList ds p := hA0
  rw [Tryz.params3] at hA hval hsz
  obtain ⟨v0, vs0, d0, ds0, p0, q0, hargs, rfl, rfl, h0, r0⟩ := trodAll_cons hA
  obtain ⟨v1, vs1, d1, ds1, p1, q1, rfl, rfl, rfl, h1, r1⟩ := trodAll_cons r0
  obtain ⟨v2, vs2, d2, ds2, p2, q2, rfl, rfl, rfl, h2, r2⟩ := trodAll_cons r1
  obtain ⟨v3, vs3, d3, ds3, p3, q3, rfl, rfl, rfl, h3, r3⟩ := trodAll_cons r2
  obtain ⟨v4, vs4, d4, ds4, p4, q4, rfl, rfl, rfl, h4, r4⟩ := trodAll_cons r3
  obtain ⟨v5, vs5, d5, ds5, p5, q5, rfl, rfl, rfl, h5, r5⟩ := trodAll_cons r4
  obtain ⟨rfl, rfl, rfl⟩ := trodAll_nil r5
  obtain rfl : args = #[v0, v1, v2, v3, v4, v5] := by cases args; simp_all
  obtain ⟨rfl, rfl⟩ := trodVars_none hV
  have k0 := h0
  have lt0 : ∀ x ∈ p0, x.block < W.heap.size := by obtain ⟨m, hm⟩ := k0; exact DataW.trod_lt m _ _ _ hm
  obtain ⟨cs0, rfl, sz0⟩ := okWide_struct Tryz.underlying26 (hval 0 26 v0 rfl rfl)
  rw [cells26] at sz0
  obtain ⟨c0_0, c0_1, c0_2, c0_3, c0_4, c0_5, c0_6, c0_7, c0_8, c0_9, c0_10, c0_11, c0_12, c0_13, c0_14, c0_15, c0_16, c0_17, c0_18, c0_19, c0_20, rfl⟩ := cells_of_21 sz0
  obtain ⟨fu0, q0⟩ := h0
  obtain ⟨xs_a0, n_a0, _, dx_a0, _, xl_a0, hf_a0⟩ := DataW.trod_struct Tryz.underlying26 q0
  have q_a0_First : DataW.trod enc Tryz.prog W 0 (fun _ => true) true n_a0 3 [c0_0] = some (xs_a0[0]'(by rw [xl_a0]; decide)) := (hf_a0 0 _ rfl).trans (List.getElem?_eq_getElem _)
  obtain ⟨a0_First, e_a0_First, _, w_a0_First⟩ := DataW.trod_int Tryz.underlying3 q_a0_First
  obtain rfl : c0_0 = Value.int .i64 a0_First := by injection e_a0_First
  have q_a0_Count : DataW.trod enc Tryz.prog W 0 (fun _ => true) true n_a0 3 [c0_1] = some (xs_a0[1]'(by rw [xl_a0]; decide)) := (hf_a0 1 _ rfl).trans (List.getElem?_eq_getElem _)
  obtain ⟨a0_Count, e_a0_Count, _, w_a0_Count⟩ := DataW.trod_int Tryz.underlying3 q_a0_Count
  obtain rfl : c0_1 = Value.int .i64 a0_Count := by injection e_a0_Count
  have q_a0_Type : DataW.trod enc Tryz.prog W 0 (fun _ => true) true n_a0 3 [c0_2] = some (xs_a0[2]'(by rw [xl_a0]; decide)) := (hf_a0 2 _ rfl).trans (List.getElem?_eq_getElem _)
  obtain ⟨a0_Type, e_a0_Type, _, w_a0_Type⟩ := DataW.trod_int Tryz.underlying3 q_a0_Type
  obtain rfl : c0_2 = Value.int .i64 a0_Type := by injection e_a0_Type
  have q_a0_FrameNum : DataW.trod enc Tryz.prog W 0 (fun _ => true) true n_a0 3 [c0_3] = some (xs_a0[3]'(by rw [xl_a0]; decide)) := (hf_a0 3 _ rfl).trans (List.getElem?_eq_getElem _)
  obtain ⟨a0_FrameNum, e_a0_FrameNum, _, w_a0_FrameNum⟩ := DataW.trod_int Tryz.underlying3 q_a0_FrameNum
  obtain rfl : c0_3 = Value.int .i64 a0_FrameNum := by injection e_a0_FrameNum
  have q_a0_Id : DataW.trod enc Tryz.prog W 0 (fun _ => true) true n_a0 3 [c0_4] = some (xs_a0[4]'(by rw [xl_a0]; decide)) := (hf_a0 4 _ rfl).trans (List.getElem?_eq_getElem _)
  obtain ⟨a0_Id, e_a0_Id, _, w_a0_Id⟩ := DataW.trod_int Tryz.underlying3 q_a0_Id
  obtain rfl : c0_4 = Value.int .i64 a0_Id := by injection e_a0_Id
  have q_a0_Poc : DataW.trod enc Tryz.prog W 0 (fun _ => true) true n_a0 3 [c0_5] = some (xs_a0[5]'(by rw [xl_a0]; decide)) := (hf_a0 5 _ rfl).trans (List.getElem?_eq_getElem _)
  obtain ⟨a0_Poc, e_a0_Poc, _, w_a0_Poc⟩ := DataW.trod_int Tryz.underlying3 q_a0_Poc
  obtain rfl : c0_5 = Value.int .i64 a0_Poc := by injection e_a0_Poc
  have q_a0_Spatial : DataW.trod enc Tryz.prog W 0 (fun _ => true) true n_a0 4 [c0_6] = some (xs_a0[6]'(by rw [xl_a0]; decide)) := (hf_a0 6 _ rfl).trans (List.getElem?_eq_getElem _)
  obtain ⟨a0_Spatial, e_a0_Spatial, _⟩ := DataW.trod_bool Tryz.underlying4 q_a0_Spatial
  obtain rfl : c0_6 = Value.bool a0_Spatial := by injection e_a0_Spatial
  have q_a0_Active0 : DataW.trod enc Tryz.prog W 0 (fun _ => true) true n_a0 3 [c0_7] = some (xs_a0[7]'(by rw [xl_a0]; decide)) := (hf_a0 7 _ rfl).trans (List.getElem?_eq_getElem _)
  obtain ⟨a0_Active0, e_a0_Active0, _, w_a0_Active0⟩ := DataW.trod_int Tryz.underlying3 q_a0_Active0
  obtain rfl : c0_7 = Value.int .i64 a0_Active0 := by injection e_a0_Active0
  have q_a0_Active1 : DataW.trod enc Tryz.prog W 0 (fun _ => true) true n_a0 3 [c0_8] = some (xs_a0[8]'(by rw [xl_a0]; decide)) := (hf_a0 8 _ rfl).trans (List.getElem?_eq_getElem _)
  obtain ⟨a0_Active1, e_a0_Active1, _, w_a0_Active1⟩ := DataW.trod_int Tryz.underlying3 q_a0_Active1
  obtain rfl : c0_8 = Value.int .i64 a0_Active1 := by injection e_a0_Active1
  have q_a0_Mods0 : DataW.trod enc Tryz.prog W 0 (fun _ => true) true n_a0 22 [c0_9] = some (xs_a0[9]'(by rw [xl_a0]; decide)) := (hf_a0 9 _ rfl).trans (List.getElem?_eq_getElem _)
  obtain ⟨a0_Mods0, len_a0_Mods0, cap_a0_Mods0, V_a0_Mods0, e_a0_Mods0, r_a0_Mods0, F_a0_Mods0, D_a0_Mods0⟩ := open_structs1 (C := 2) Tryz.underlying22 Tryz.underlying113 cells113 (by decide) q_a0_Mods0
  obtain rfl : c0_9 = Value.slice a0_Mods0 len_a0_Mods0 cap_a0_Mods0 := e_a0_Mods0
  have lt_a0_Mods0 : ∀ ad, a0_Mods0 = some ad → ad.block < W.heap.size := fun ad e => by
    have ok := hval 0 26 _ rfl rfl
    rw [e] at ok
    exact slice_lt ok Tryz.underlying26 ct26 (i := 9) rfl rfl Tryz.underlying22
  have s_a0_Mods0 : cap_a0_Mods0 * 16 ≤ 140737488351232 := by
    rcases D_a0_Mods0 with e | ⟨el, sp, hd, hl⟩
    · omega
    · have hd0 : d0 = .agg (xs_a0.map (·.1)) := congrArg Prod.fst dx_a0
      have hm : (xs_a0.map (·.1))[9]? = some (.slice el sp) := by
        rw [List.getElem?_map, List.getElem?_eq_getElem (by rw [xl_a0]; decide : 9 < xs_a0.length), Option.map_some]
        exact congrArg some hd
      have hp := sized_part hsz (j := 0) (t := 26) rfl (by rw [hd0]; rfl) Tryz.underlying26
      have e := sized_slice hp (j := 9) (t := 22) (e := 113) (elems := el) (spare := sp) rfl hm Tryz.underlying22
      rw [bytes113, hl] at e
      exact e
  have y_a0_Mods0_Kind : ∀ k, k < cap_a0_Mods0 → ∃ x, V_a0_Mods0 k 0 = .int .i64 x ∧ (Lit.int .i64 x).wf = true := fun k hk => by
    obtain ⟨fu', y, hy⟩ := F_a0_Mods0 k hk 0 _ rfl
    change DataW.trod enc Tryz.prog W 0 (fun _ => true) true fu' 3 ((((List.range 2).map (V_a0_Mods0 k)).drop 0).take (Tryz.prog.cellsOf 3)) = some y at hy
    rw [cells3] at hy
    obtain ⟨x, e, dx, hw⟩ := DataW.trod_int Tryz.underlying3 hy
    have e2 : [V_a0_Mods0 k 0] = [.int .i64 x] := e
    exact ⟨x, (List.cons.inj e2).1, hw⟩
  obtain ⟨z_a0_Mods0_Kind, e_a0_Mods0_Kind, w_a0_Mods0_Kind⟩ := choose_ints (by decide) y_a0_Mods0_Kind
  have y_a0_Mods0_V : ∀ k, k < cap_a0_Mods0 → ∃ x, V_a0_Mods0 k 1 = .int .i64 x ∧ (Lit.int .i64 x).wf = true := fun k hk => by
    obtain ⟨fu', y, hy⟩ := F_a0_Mods0 k hk 1 _ rfl
    change DataW.trod enc Tryz.prog W 0 (fun _ => true) true fu' 3 ((((List.range 2).map (V_a0_Mods0 k)).drop 1).take (Tryz.prog.cellsOf 3)) = some y at hy
    rw [cells3] at hy
    obtain ⟨x, e, dx, hw⟩ := DataW.trod_int Tryz.underlying3 hy
    have e2 : [V_a0_Mods0 k 1] = [.int .i64 x] := e
    exact ⟨x, (List.cons.inj e2).1, hw⟩
  obtain ⟨z_a0_Mods0_V, e_a0_Mods0_V, w_a0_Mods0_V⟩ := choose_ints (by decide) y_a0_Mods0_V
  have q_a0_Mods1 : DataW.trod enc Tryz.prog W 0 (fun _ => true) true n_a0 22 [c0_10] = some (xs_a0[10]'(by rw [xl_a0]; decide)) := (hf_a0 10 _ rfl).trans (List.getElem?_eq_getElem _)
  obtain ⟨a0_Mods1, len_a0_Mods1, cap_a0_Mods1, V_a0_Mods1, e_a0_Mods1, r_a0_Mods1, F_a0_Mods1, D_a0_Mods1⟩ := open_structs1 (C := 2) Tryz.underlying22 Tryz.underlying113 cells113 (by decide) q_a0_Mods1
  obtain rfl : c0_10 = Value.slice a0_Mods1 len_a0_Mods1 cap_a0_Mods1 := e_a0_Mods1
  have lt_a0_Mods1 : ∀ ad, a0_Mods1 = some ad → ad.block < W.heap.size := fun ad e => by
    have ok := hval 0 26 _ rfl rfl
    rw [e] at ok
    exact slice_lt ok Tryz.underlying26 ct26 (i := 10) rfl rfl Tryz.underlying22
  have s_a0_Mods1 : cap_a0_Mods1 * 16 ≤ 140737488351232 := by
    rcases D_a0_Mods1 with e | ⟨el, sp, hd, hl⟩
    · omega
    · have hd0 : d0 = .agg (xs_a0.map (·.1)) := congrArg Prod.fst dx_a0
      have hm : (xs_a0.map (·.1))[10]? = some (.slice el sp) := by
        rw [List.getElem?_map, List.getElem?_eq_getElem (by rw [xl_a0]; decide : 10 < xs_a0.length), Option.map_some]
        exact congrArg some hd
      have hp := sized_part hsz (j := 0) (t := 26) rfl (by rw [hd0]; rfl) Tryz.underlying26
      have e := sized_slice hp (j := 10) (t := 22) (e := 113) (elems := el) (spare := sp) rfl hm Tryz.underlying22
      rw [bytes113, hl] at e
      exact e
  have y_a0_Mods1_Kind : ∀ k, k < cap_a0_Mods1 → ∃ x, V_a0_Mods1 k 0 = .int .i64 x ∧ (Lit.int .i64 x).wf = true := fun k hk => by
    obtain ⟨fu', y, hy⟩ := F_a0_Mods1 k hk 0 _ rfl
    change DataW.trod enc Tryz.prog W 0 (fun _ => true) true fu' 3 ((((List.range 2).map (V_a0_Mods1 k)).drop 0).take (Tryz.prog.cellsOf 3)) = some y at hy
    rw [cells3] at hy
    obtain ⟨x, e, dx, hw⟩ := DataW.trod_int Tryz.underlying3 hy
    have e2 : [V_a0_Mods1 k 0] = [.int .i64 x] := e
    exact ⟨x, (List.cons.inj e2).1, hw⟩
  obtain ⟨z_a0_Mods1_Kind, e_a0_Mods1_Kind, w_a0_Mods1_Kind⟩ := choose_ints (by decide) y_a0_Mods1_Kind
  have y_a0_Mods1_V : ∀ k, k < cap_a0_Mods1 → ∃ x, V_a0_Mods1 k 1 = .int .i64 x ∧ (Lit.int .i64 x).wf = true := fun k hk => by
    obtain ⟨fu', y, hy⟩ := F_a0_Mods1 k hk 1 _ rfl
    change DataW.trod enc Tryz.prog W 0 (fun _ => true) true fu' 3 ((((List.range 2).map (V_a0_Mods1 k)).drop 1).take (Tryz.prog.cellsOf 3)) = some y at hy
    rw [cells3] at hy
    obtain ⟨x, e, dx, hw⟩ := DataW.trod_int Tryz.underlying3 hy
    have e2 : [V_a0_Mods1 k 1] = [.int .i64 x] := e
    exact ⟨x, (List.cons.inj e2).1, hw⟩
  obtain ⟨z_a0_Mods1_V, e_a0_Mods1_V, w_a0_Mods1_V⟩ := choose_ints (by decide) y_a0_Mods1_V
  have q_a0_Log : DataW.trod enc Tryz.prog W 0 (fun _ => true) true n_a0 3 [c0_11] = some (xs_a0[11]'(by rw [xl_a0]; decide)) := (hf_a0 11 _ rfl).trans (List.getElem?_eq_getElem _)
  obtain ⟨a0_Log, e_a0_Log, _, w_a0_Log⟩ := DataW.trod_int Tryz.underlying3 q_a0_Log
  obtain rfl : c0_11 = Value.int .i64 a0_Log := by injection e_a0_Log
  have q_a0_LogC : DataW.trod enc Tryz.prog W 0 (fun _ => true) true n_a0 3 [c0_12] = some (xs_a0[12]'(by rw [xl_a0]; decide)) := (hf_a0 12 _ rfl).trans (List.getElem?_eq_getElem _)
  obtain ⟨a0_LogC, e_a0_LogC, _, w_a0_LogC⟩ := DataW.trod_int Tryz.underlying3 q_a0_LogC
  obtain rfl : c0_12 = Value.int .i64 a0_LogC := by injection e_a0_LogC
  have q_a0_Weights0 : DataW.trod enc Tryz.prog W 0 (fun _ => true) true n_a0 23 [c0_13] = some (xs_a0[13]'(by rw [xl_a0]; decide)) := (hf_a0 13 _ rfl).trans (List.getElem?_eq_getElem _)
  obtain ⟨a0_Weights0, len_a0_Weights0, cap_a0_Weights0, V_a0_Weights0, e_a0_Weights0, r_a0_Weights0, F_a0_Weights0, D_a0_Weights0⟩ := open_structs1 (C := 6) Tryz.underlying23 Tryz.underlying116 cells116 (by decide) q_a0_Weights0
  obtain rfl : c0_13 = Value.slice a0_Weights0 len_a0_Weights0 cap_a0_Weights0 := e_a0_Weights0
  have lt_a0_Weights0 : ∀ ad, a0_Weights0 = some ad → ad.block < W.heap.size := fun ad e => by
    have ok := hval 0 26 _ rfl rfl
    rw [e] at ok
    exact slice_lt ok Tryz.underlying26 ct26 (i := 13) rfl rfl Tryz.underlying23
  have s_a0_Weights0 : cap_a0_Weights0 * 48 ≤ 140737488351232 := by
    rcases D_a0_Weights0 with e | ⟨el, sp, hd, hl⟩
    · omega
    · have hd0 : d0 = .agg (xs_a0.map (·.1)) := congrArg Prod.fst dx_a0
      have hm : (xs_a0.map (·.1))[13]? = some (.slice el sp) := by
        rw [List.getElem?_map, List.getElem?_eq_getElem (by rw [xl_a0]; decide : 13 < xs_a0.length), Option.map_some]
        exact congrArg some hd
      have hp := sized_part hsz (j := 0) (t := 26) rfl (by rw [hd0]; rfl) Tryz.underlying26
      have e := sized_slice hp (j := 13) (t := 23) (e := 116) (elems := el) (spare := sp) rfl hm Tryz.underlying23
      rw [bytes116, hl] at e
      exact e
  have y_a0_Weights0_Scale_0 : ∀ k, k < cap_a0_Weights0 → ∃ x, V_a0_Weights0 k 0 = .int .i64 x ∧ (Lit.int .i64 x).wf = true := fun k hk => by
    obtain ⟨fu', y, hy⟩ := F_a0_Weights0 k hk 0 _ rfl
    change DataW.trod enc Tryz.prog W 0 (fun _ => true) true fu' 114 ((((List.range 6).map (V_a0_Weights0 k)).drop 0).take (Tryz.prog.cellsOf 114)) = some y at hy
    rw [cells114] at hy
    change DataW.trod enc Tryz.prog W 0 (fun _ => true) true fu' 114 [V_a0_Weights0 k 0, V_a0_Weights0 k 1, V_a0_Weights0 k 2] = some y at hy
    obtain ⟨y0, y1, y2, nn, _, hy0, hy1, hy2⟩ := trod_array3 Tryz.underlying114 cells3 hy
    obtain ⟨x, e, dx, hw⟩ := DataW.trod_int Tryz.underlying3 hy0
    have e2 : [V_a0_Weights0 k 0] = [.int .i64 x] := e
    exact ⟨x, (List.cons.inj e2).1, hw⟩
  obtain ⟨z_a0_Weights0_Scale_0, e_a0_Weights0_Scale_0, w_a0_Weights0_Scale_0⟩ := choose_ints (by decide) y_a0_Weights0_Scale_0
  have y_a0_Weights0_Scale_1 : ∀ k, k < cap_a0_Weights0 → ∃ x, V_a0_Weights0 k 1 = .int .i64 x ∧ (Lit.int .i64 x).wf = true := fun k hk => by
    obtain ⟨fu', y, hy⟩ := F_a0_Weights0 k hk 0 _ rfl
    change DataW.trod enc Tryz.prog W 0 (fun _ => true) true fu' 114 ((((List.range 6).map (V_a0_Weights0 k)).drop 0).take (Tryz.prog.cellsOf 114)) = some y at hy
    rw [cells114] at hy
    change DataW.trod enc Tryz.prog W 0 (fun _ => true) true fu' 114 [V_a0_Weights0 k 0, V_a0_Weights0 k 1, V_a0_Weights0 k 2] = some y at hy
    obtain ⟨y0, y1, y2, nn, _, hy0, hy1, hy2⟩ := trod_array3 Tryz.underlying114 cells3 hy
    obtain ⟨x, e, dx, hw⟩ := DataW.trod_int Tryz.underlying3 hy1
    have e2 : [V_a0_Weights0 k 1] = [.int .i64 x] := e
    exact ⟨x, (List.cons.inj e2).1, hw⟩
  obtain ⟨z_a0_Weights0_Scale_1, e_a0_Weights0_Scale_1, w_a0_Weights0_Scale_1⟩ := choose_ints (by decide) y_a0_Weights0_Scale_1
  have y_a0_Weights0_Scale_2 : ∀ k, k < cap_a0_Weights0 → ∃ x, V_a0_Weights0 k 2 = .int .i64 x ∧ (Lit.int .i64 x).wf = true := fun k hk => by
    obtain ⟨fu', y, hy⟩ := F_a0_Weights0 k hk 0 _ rfl
    change DataW.trod enc Tryz.prog W 0 (fun _ => true) true fu' 114 ((((List.range 6).map (V_a0_Weights0 k)).drop 0).take (Tryz.prog.cellsOf 114)) = some y at hy
    rw [cells114] at hy
    change DataW.trod enc Tryz.prog W 0 (fun _ => true) true fu' 114 [V_a0_Weights0 k 0, V_a0_Weights0 k 1, V_a0_Weights0 k 2] = some y at hy
    obtain ⟨y0, y1, y2, nn, _, hy0, hy1, hy2⟩ := trod_array3 Tryz.underlying114 cells3 hy
    obtain ⟨x, e, dx, hw⟩ := DataW.trod_int Tryz.underlying3 hy2
    have e2 : [V_a0_Weights0 k 2] = [.int .i64 x] := e
    exact ⟨x, (List.cons.inj e2).1, hw⟩
  obtain ⟨z_a0_Weights0_Scale_2, e_a0_Weights0_Scale_2, w_a0_Weights0_Scale_2⟩ := choose_ints (by decide) y_a0_Weights0_Scale_2
  have y_a0_Weights0_Offset_0 : ∀ k, k < cap_a0_Weights0 → ∃ x, V_a0_Weights0 k 3 = .int .i64 x ∧ (Lit.int .i64 x).wf = true := fun k hk => by
    obtain ⟨fu', y, hy⟩ := F_a0_Weights0 k hk 1 _ rfl
    change DataW.trod enc Tryz.prog W 0 (fun _ => true) true fu' 114 ((((List.range 6).map (V_a0_Weights0 k)).drop 3).take (Tryz.prog.cellsOf 114)) = some y at hy
    rw [cells114] at hy
    change DataW.trod enc Tryz.prog W 0 (fun _ => true) true fu' 114 [V_a0_Weights0 k 3, V_a0_Weights0 k 4, V_a0_Weights0 k 5] = some y at hy
    obtain ⟨y0, y1, y2, nn, _, hy0, hy1, hy2⟩ := trod_array3 Tryz.underlying114 cells3 hy
    obtain ⟨x, e, dx, hw⟩ := DataW.trod_int Tryz.underlying3 hy0
    have e2 : [V_a0_Weights0 k 3] = [.int .i64 x] := e
    exact ⟨x, (List.cons.inj e2).1, hw⟩
  obtain ⟨z_a0_Weights0_Offset_0, e_a0_Weights0_Offset_0, w_a0_Weights0_Offset_0⟩ := choose_ints (by decide) y_a0_Weights0_Offset_0
  have y_a0_Weights0_Offset_1 : ∀ k, k < cap_a0_Weights0 → ∃ x, V_a0_Weights0 k 4 = .int .i64 x ∧ (Lit.int .i64 x).wf = true := fun k hk => by
    obtain ⟨fu', y, hy⟩ := F_a0_Weights0 k hk 1 _ rfl
    change DataW.trod enc Tryz.prog W 0 (fun _ => true) true fu' 114 ((((List.range 6).map (V_a0_Weights0 k)).drop 3).take (Tryz.prog.cellsOf 114)) = some y at hy
    rw [cells114] at hy
    change DataW.trod enc Tryz.prog W 0 (fun _ => true) true fu' 114 [V_a0_Weights0 k 3, V_a0_Weights0 k 4, V_a0_Weights0 k 5] = some y at hy
    obtain ⟨y0, y1, y2, nn, _, hy0, hy1, hy2⟩ := trod_array3 Tryz.underlying114 cells3 hy
    obtain ⟨x, e, dx, hw⟩ := DataW.trod_int Tryz.underlying3 hy1
    have e2 : [V_a0_Weights0 k 4] = [.int .i64 x] := e
    exact ⟨x, (List.cons.inj e2).1, hw⟩
  obtain ⟨z_a0_Weights0_Offset_1, e_a0_Weights0_Offset_1, w_a0_Weights0_Offset_1⟩ := choose_ints (by decide) y_a0_Weights0_Offset_1
  have y_a0_Weights0_Offset_2 : ∀ k, k < cap_a0_Weights0 → ∃ x, V_a0_Weights0 k 5 = .int .i64 x ∧ (Lit.int .i64 x).wf = true := fun k hk => by
    obtain ⟨fu', y, hy⟩ := F_a0_Weights0 k hk 1 _ rfl
    change DataW.trod enc Tryz.prog W 0 (fun _ => true) true fu' 114 ((((List.range 6).map (V_a0_Weights0 k)).drop 3).take (Tryz.prog.cellsOf 114)) = some y at hy
    rw [cells114] at hy
    change DataW.trod enc Tryz.prog W 0 (fun _ => true) true fu' 114 [V_a0_Weights0 k 3, V_a0_Weights0 k 4, V_a0_Weights0 k 5] = some y at hy
    obtain ⟨y0, y1, y2, nn, _, hy0, hy1, hy2⟩ := trod_array3 Tryz.underlying114 cells3 hy
    obtain ⟨x, e, dx, hw⟩ := DataW.trod_int Tryz.underlying3 hy2
    have e2 : [V_a0_Weights0 k 5] = [.int .i64 x] := e
    exact ⟨x, (List.cons.inj e2).1, hw⟩
  obtain ⟨z_a0_Weights0_Offset_2, e_a0_Weights0_Offset_2, w_a0_Weights0_Offset_2⟩ := choose_ints (by decide) y_a0_Weights0_Offset_2
  have q_a0_Weights1 : DataW.trod enc Tryz.prog W 0 (fun _ => true) true n_a0 23 [c0_14] = some (xs_a0[14]'(by rw [xl_a0]; decide)) := (hf_a0 14 _ rfl).trans (List.getElem?_eq_getElem _)
  obtain ⟨a0_Weights1, len_a0_Weights1, cap_a0_Weights1, V_a0_Weights1, e_a0_Weights1, r_a0_Weights1, F_a0_Weights1, D_a0_Weights1⟩ := open_structs1 (C := 6) Tryz.underlying23 Tryz.underlying116 cells116 (by decide) q_a0_Weights1
  obtain rfl : c0_14 = Value.slice a0_Weights1 len_a0_Weights1 cap_a0_Weights1 := e_a0_Weights1
  have lt_a0_Weights1 : ∀ ad, a0_Weights1 = some ad → ad.block < W.heap.size := fun ad e => by
    have ok := hval 0 26 _ rfl rfl
    rw [e] at ok
    exact slice_lt ok Tryz.underlying26 ct26 (i := 14) rfl rfl Tryz.underlying23
  have s_a0_Weights1 : cap_a0_Weights1 * 48 ≤ 140737488351232 := by
    rcases D_a0_Weights1 with e | ⟨el, sp, hd, hl⟩
    · omega
    · have hd0 : d0 = .agg (xs_a0.map (·.1)) := congrArg Prod.fst dx_a0
      have hm : (xs_a0.map (·.1))[14]? = some (.slice el sp) := by
        rw [List.getElem?_map, List.getElem?_eq_getElem (by rw [xl_a0]; decide : 14 < xs_a0.length), Option.map_some]
        exact congrArg some hd
      have hp := sized_part hsz (j := 0) (t := 26) rfl (by rw [hd0]; rfl) Tryz.underlying26
      have e := sized_slice hp (j := 14) (t := 23) (e := 116) (elems := el) (spare := sp) rfl hm Tryz.underlying23
      rw [bytes116, hl] at e
      exact e
  have y_a0_Weights1_Scale_0 : ∀ k, k < cap_a0_Weights1 → ∃ x, V_a0_Weights1 k 0 = .int .i64 x ∧ (Lit.int .i64 x).wf = true := fun k hk => by
    obtain ⟨fu', y, hy⟩ := F_a0_Weights1 k hk 0 _ rfl
    change DataW.trod enc Tryz.prog W 0 (fun _ => true) true fu' 114 ((((List.range 6).map (V_a0_Weights1 k)).drop 0).take (Tryz.prog.cellsOf 114)) = some y at hy
    rw [cells114] at hy
    change DataW.trod enc Tryz.prog W 0 (fun _ => true) true fu' 114 [V_a0_Weights1 k 0, V_a0_Weights1 k 1, V_a0_Weights1 k 2] = some y at hy
    obtain ⟨y0, y1, y2, nn, _, hy0, hy1, hy2⟩ := trod_array3 Tryz.underlying114 cells3 hy
    obtain ⟨x, e, dx, hw⟩ := DataW.trod_int Tryz.underlying3 hy0
    have e2 : [V_a0_Weights1 k 0] = [.int .i64 x] := e
    exact ⟨x, (List.cons.inj e2).1, hw⟩
  obtain ⟨z_a0_Weights1_Scale_0, e_a0_Weights1_Scale_0, w_a0_Weights1_Scale_0⟩ := choose_ints (by decide) y_a0_Weights1_Scale_0
  have y_a0_Weights1_Scale_1 : ∀ k, k < cap_a0_Weights1 → ∃ x, V_a0_Weights1 k 1 = .int .i64 x ∧ (Lit.int .i64 x).wf = true := fun k hk => by
    obtain ⟨fu', y, hy⟩ := F_a0_Weights1 k hk 0 _ rfl
    change DataW.trod enc Tryz.prog W 0 (fun _ => true) true fu' 114 ((((List.range 6).map (V_a0_Weights1 k)).drop 0).take (Tryz.prog.cellsOf 114)) = some y at hy
    rw [cells114] at hy
    change DataW.trod enc Tryz.prog W 0 (fun _ => true) true fu' 114 [V_a0_Weights1 k 0, V_a0_Weights1 k 1, V_a0_Weights1 k 2] = some y at hy
    obtain ⟨y0, y1, y2, nn, _, hy0, hy1, hy2⟩ := trod_array3 Tryz.underlying114 cells3 hy
    obtain ⟨x, e, dx, hw⟩ := DataW.trod_int Tryz.underlying3 hy1
    have e2 : [V_a0_Weights1 k 1] = [.int .i64 x] := e
    exact ⟨x, (List.cons.inj e2).1, hw⟩
  obtain ⟨z_a0_Weights1_Scale_1, e_a0_Weights1_Scale_1, w_a0_Weights1_Scale_1⟩ := choose_ints (by decide) y_a0_Weights1_Scale_1
  have y_a0_Weights1_Scale_2 : ∀ k, k < cap_a0_Weights1 → ∃ x, V_a0_Weights1 k 2 = .int .i64 x ∧ (Lit.int .i64 x).wf = true := fun k hk => by
    obtain ⟨fu', y, hy⟩ := F_a0_Weights1 k hk 0 _ rfl
    change DataW.trod enc Tryz.prog W 0 (fun _ => true) true fu' 114 ((((List.range 6).map (V_a0_Weights1 k)).drop 0).take (Tryz.prog.cellsOf 114)) = some y at hy
    rw [cells114] at hy
    change DataW.trod enc Tryz.prog W 0 (fun _ => true) true fu' 114 [V_a0_Weights1 k 0, V_a0_Weights1 k 1, V_a0_Weights1 k 2] = some y at hy
    obtain ⟨y0, y1, y2, nn, _, hy0, hy1, hy2⟩ := trod_array3 Tryz.underlying114 cells3 hy
    obtain ⟨x, e, dx, hw⟩ := DataW.trod_int Tryz.underlying3 hy2
    have e2 : [V_a0_Weights1 k 2] = [.int .i64 x] := e
    exact ⟨x, (List.cons.inj e2).1, hw⟩
  obtain ⟨z_a0_Weights1_Scale_2, e_a0_Weights1_Scale_2, w_a0_Weights1_Scale_2⟩ := choose_ints (by decide) y_a0_Weights1_Scale_2
  have y_a0_Weights1_Offset_0 : ∀ k, k < cap_a0_Weights1 → ∃ x, V_a0_Weights1 k 3 = .int .i64 x ∧ (Lit.int .i64 x).wf = true := fun k hk => by
    obtain ⟨fu', y, hy⟩ := F_a0_Weights1 k hk 1 _ rfl
    change DataW.trod enc Tryz.prog W 0 (fun _ => true) true fu' 114 ((((List.range 6).map (V_a0_Weights1 k)).drop 3).take (Tryz.prog.cellsOf 114)) = some y at hy
    rw [cells114] at hy
    change DataW.trod enc Tryz.prog W 0 (fun _ => true) true fu' 114 [V_a0_Weights1 k 3, V_a0_Weights1 k 4, V_a0_Weights1 k 5] = some y at hy
    obtain ⟨y0, y1, y2, nn, _, hy0, hy1, hy2⟩ := trod_array3 Tryz.underlying114 cells3 hy
    obtain ⟨x, e, dx, hw⟩ := DataW.trod_int Tryz.underlying3 hy0
    have e2 : [V_a0_Weights1 k 3] = [.int .i64 x] := e
    exact ⟨x, (List.cons.inj e2).1, hw⟩
  obtain ⟨z_a0_Weights1_Offset_0, e_a0_Weights1_Offset_0, w_a0_Weights1_Offset_0⟩ := choose_ints (by decide) y_a0_Weights1_Offset_0
  have y_a0_Weights1_Offset_1 : ∀ k, k < cap_a0_Weights1 → ∃ x, V_a0_Weights1 k 4 = .int .i64 x ∧ (Lit.int .i64 x).wf = true := fun k hk => by
    obtain ⟨fu', y, hy⟩ := F_a0_Weights1 k hk 1 _ rfl
    change DataW.trod enc Tryz.prog W 0 (fun _ => true) true fu' 114 ((((List.range 6).map (V_a0_Weights1 k)).drop 3).take (Tryz.prog.cellsOf 114)) = some y at hy
    rw [cells114] at hy
    change DataW.trod enc Tryz.prog W 0 (fun _ => true) true fu' 114 [V_a0_Weights1 k 3, V_a0_Weights1 k 4, V_a0_Weights1 k 5] = some y at hy
    obtain ⟨y0, y1, y2, nn, _, hy0, hy1, hy2⟩ := trod_array3 Tryz.underlying114 cells3 hy
    obtain ⟨x, e, dx, hw⟩ := DataW.trod_int Tryz.underlying3 hy1
    have e2 : [V_a0_Weights1 k 4] = [.int .i64 x] := e
    exact ⟨x, (List.cons.inj e2).1, hw⟩
  obtain ⟨z_a0_Weights1_Offset_1, e_a0_Weights1_Offset_1, w_a0_Weights1_Offset_1⟩ := choose_ints (by decide) y_a0_Weights1_Offset_1
  have y_a0_Weights1_Offset_2 : ∀ k, k < cap_a0_Weights1 → ∃ x, V_a0_Weights1 k 5 = .int .i64 x ∧ (Lit.int .i64 x).wf = true := fun k hk => by
    obtain ⟨fu', y, hy⟩ := F_a0_Weights1 k hk 1 _ rfl
    change DataW.trod enc Tryz.prog W 0 (fun _ => true) true fu' 114 ((((List.range 6).map (V_a0_Weights1 k)).drop 3).take (Tryz.prog.cellsOf 114)) = some y at hy
    rw [cells114] at hy
    change DataW.trod enc Tryz.prog W 0 (fun _ => true) true fu' 114 [V_a0_Weights1 k 3, V_a0_Weights1 k 4, V_a0_Weights1 k 5] = some y at hy
    obtain ⟨y0, y1, y2, nn, _, hy0, hy1, hy2⟩ := trod_array3 Tryz.underlying114 cells3 hy
    obtain ⟨x, e, dx, hw⟩ := DataW.trod_int Tryz.underlying3 hy2
    have e2 : [V_a0_Weights1 k 5] = [.int .i64 x] := e
    exact ⟨x, (List.cons.inj e2).1, hw⟩
  obtain ⟨z_a0_Weights1_Offset_2, e_a0_Weights1_Offset_2, w_a0_Weights1_Offset_2⟩ := choose_ints (by decide) y_a0_Weights1_Offset_2
  have q_a0_LongKey : DataW.trod enc Tryz.prog W 0 (fun _ => true) true n_a0 4 [c0_15] = some (xs_a0[15]'(by rw [xl_a0]; decide)) := (hf_a0 15 _ rfl).trans (List.getElem?_eq_getElem _)
  obtain ⟨a0_LongKey, e_a0_LongKey, _⟩ := DataW.trod_bool Tryz.underlying4 q_a0_LongKey
  obtain rfl : c0_15 = Value.bool a0_LongKey := by injection e_a0_LongKey
  have q_a0_Ops : DataW.trod enc Tryz.prog W 0 (fun _ => true) true n_a0 24 [c0_16] = some (xs_a0[16]'(by rw [xl_a0]; decide)) := (hf_a0 16 _ rfl).trans (List.getElem?_eq_getElem _)
  obtain ⟨a0_Ops, len_a0_Ops, cap_a0_Ops, V_a0_Ops, e_a0_Ops, r_a0_Ops, F_a0_Ops, D_a0_Ops⟩ := open_structs1 (C := 3) Tryz.underlying24 Tryz.underlying118 cells118 (by decide) q_a0_Ops
  obtain rfl : c0_16 = Value.slice a0_Ops len_a0_Ops cap_a0_Ops := e_a0_Ops
  have lt_a0_Ops : ∀ ad, a0_Ops = some ad → ad.block < W.heap.size := fun ad e => by
    have ok := hval 0 26 _ rfl rfl
    rw [e] at ok
    exact slice_lt ok Tryz.underlying26 ct26 (i := 16) rfl rfl Tryz.underlying24
  have s_a0_Ops : cap_a0_Ops * 24 ≤ 140737488351232 := by
    rcases D_a0_Ops with e | ⟨el, sp, hd, hl⟩
    · omega
    · have hd0 : d0 = .agg (xs_a0.map (·.1)) := congrArg Prod.fst dx_a0
      have hm : (xs_a0.map (·.1))[16]? = some (.slice el sp) := by
        rw [List.getElem?_map, List.getElem?_eq_getElem (by rw [xl_a0]; decide : 16 < xs_a0.length), Option.map_some]
        exact congrArg some hd
      have hp := sized_part hsz (j := 0) (t := 26) rfl (by rw [hd0]; rfl) Tryz.underlying26
      have e := sized_slice hp (j := 16) (t := 24) (e := 118) (elems := el) (spare := sp) rfl hm Tryz.underlying24
      rw [bytes118, hl] at e
      exact e
  have y_a0_Ops_Kind : ∀ k, k < cap_a0_Ops → ∃ x, V_a0_Ops k 0 = .int .i64 x ∧ (Lit.int .i64 x).wf = true := fun k hk => by
    obtain ⟨fu', y, hy⟩ := F_a0_Ops k hk 0 _ rfl
    change DataW.trod enc Tryz.prog W 0 (fun _ => true) true fu' 3 ((((List.range 3).map (V_a0_Ops k)).drop 0).take (Tryz.prog.cellsOf 3)) = some y at hy
    rw [cells3] at hy
    obtain ⟨x, e, dx, hw⟩ := DataW.trod_int Tryz.underlying3 hy
    have e2 : [V_a0_Ops k 0] = [.int .i64 x] := e
    exact ⟨x, (List.cons.inj e2).1, hw⟩
  obtain ⟨z_a0_Ops_Kind, e_a0_Ops_Kind, w_a0_Ops_Kind⟩ := choose_ints (by decide) y_a0_Ops_Kind
  have y_a0_Ops_A : ∀ k, k < cap_a0_Ops → ∃ x, V_a0_Ops k 1 = .int .i64 x ∧ (Lit.int .i64 x).wf = true := fun k hk => by
    obtain ⟨fu', y, hy⟩ := F_a0_Ops k hk 1 _ rfl
    change DataW.trod enc Tryz.prog W 0 (fun _ => true) true fu' 3 ((((List.range 3).map (V_a0_Ops k)).drop 1).take (Tryz.prog.cellsOf 3)) = some y at hy
    rw [cells3] at hy
    obtain ⟨x, e, dx, hw⟩ := DataW.trod_int Tryz.underlying3 hy
    have e2 : [V_a0_Ops k 1] = [.int .i64 x] := e
    exact ⟨x, (List.cons.inj e2).1, hw⟩
  obtain ⟨z_a0_Ops_A, e_a0_Ops_A, w_a0_Ops_A⟩ := choose_ints (by decide) y_a0_Ops_A
  have y_a0_Ops_B : ∀ k, k < cap_a0_Ops → ∃ x, V_a0_Ops k 2 = .int .i64 x ∧ (Lit.int .i64 x).wf = true := fun k hk => by
    obtain ⟨fu', y, hy⟩ := F_a0_Ops k hk 2 _ rfl
    change DataW.trod enc Tryz.prog W 0 (fun _ => true) true fu' 3 ((((List.range 3).map (V_a0_Ops k)).drop 2).take (Tryz.prog.cellsOf 3)) = some y at hy
    rw [cells3] at hy
    obtain ⟨x, e, dx, hw⟩ := DataW.trod_int Tryz.underlying3 hy
    have e2 : [V_a0_Ops k 2] = [.int .i64 x] := e
    exact ⟨x, (List.cons.inj e2).1, hw⟩
  obtain ⟨z_a0_Ops_B, e_a0_Ops_B, w_a0_Ops_B⟩ := choose_ints (by decide) y_a0_Ops_B
  have q_a0_Qp : DataW.trod enc Tryz.prog W 0 (fun _ => true) true n_a0 3 [c0_17] = some (xs_a0[17]'(by rw [xl_a0]; decide)) := (hf_a0 17 _ rfl).trans (List.getElem?_eq_getElem _)
  obtain ⟨a0_Qp, e_a0_Qp, _, w_a0_Qp⟩ := DataW.trod_int Tryz.underlying3 q_a0_Qp
  obtain rfl : c0_17 = Value.int .i64 a0_Qp := by injection e_a0_Qp
  have q_a0_Off : DataW.trod enc Tryz.prog W 0 (fun _ => true) true n_a0 4 [c0_18] = some (xs_a0[18]'(by rw [xl_a0]; decide)) := (hf_a0 18 _ rfl).trans (List.getElem?_eq_getElem _)
  obtain ⟨a0_Off, e_a0_Off, _⟩ := DataW.trod_bool Tryz.underlying4 q_a0_Off
  obtain rfl : c0_18 = Value.bool a0_Off := by injection e_a0_Off
  have q_a0_A : DataW.trod enc Tryz.prog W 0 (fun _ => true) true n_a0 3 [c0_19] = some (xs_a0[19]'(by rw [xl_a0]; decide)) := (hf_a0 19 _ rfl).trans (List.getElem?_eq_getElem _)
  obtain ⟨a0_A, e_a0_A, _, w_a0_A⟩ := DataW.trod_int Tryz.underlying3 q_a0_A
  obtain rfl : c0_19 = Value.int .i64 a0_A := by injection e_a0_A
  have q_a0_B : DataW.trod enc Tryz.prog W 0 (fun _ => true) true n_a0 3 [c0_20] = some (xs_a0[20]'(by rw [xl_a0]; decide)) := (hf_a0 20 _ rfl).trans (List.getElem?_eq_getElem _)
  obtain ⟨a0_B, e_a0_B, _, w_a0_B⟩ := DataW.trod_int Tryz.underlying3 q_a0_B
  obtain rfl : c0_20 = Value.int .i64 a0_B := by injection e_a0_B
  have k1 := h1
  have lt1 : ∀ x ∈ p1, x.block < W.heap.size := by obtain ⟨m, hm⟩ := k1; exact DataW.trod_lt m _ _ _ hm
  obtain ⟨cs1, rfl, sz1⟩ := okWide_struct Tryz.underlying29 (hval 1 29 v1 rfl rfl)
  rw [cells29] at sz1
  obtain ⟨c1_0, c1_1, c1_2, c1_3, c1_4, c1_5, c1_6, c1_7, c1_8, rfl⟩ := cells_of_9 sz1
  obtain ⟨fu1, q1⟩ := h1
  obtain ⟨xs_a1, n_a1, _, dx_a1, _, xl_a1, hf_a1⟩ := DataW.trod_struct Tryz.underlying29 q1
  have q_a1_Wide : DataW.trod enc Tryz.prog W 0 (fun _ => true) true n_a1 3 [c1_0] = some (xs_a1[0]'(by rw [xl_a1]; decide)) := (hf_a1 0 _ rfl).trans (List.getElem?_eq_getElem _)
  obtain ⟨a1_Wide, e_a1_Wide, _, w_a1_Wide⟩ := DataW.trod_int Tryz.underlying3 q_a1_Wide
  obtain rfl : c1_0 = Value.int .i64 a1_Wide := by injection e_a1_Wide
  have q_a1_High : DataW.trod enc Tryz.prog W 0 (fun _ => true) true n_a1 3 [c1_1] = some (xs_a1[1]'(by rw [xl_a1]; decide)) := (hf_a1 1 _ rfl).trans (List.getElem?_eq_getElem _)
  obtain ⟨a1_High, e_a1_High, _, w_a1_High⟩ := DataW.trod_int Tryz.underlying3 q_a1_High
  obtain rfl : c1_1 = Value.int .i64 a1_High := by injection e_a1_High
  have q_a1_FrameBits : DataW.trod enc Tryz.prog W 0 (fun _ => true) true n_a1 3 [c1_2] = some (xs_a1[2]'(by rw [xl_a1]; decide)) := (hf_a1 2 _ rfl).trans (List.getElem?_eq_getElem _)
  obtain ⟨a1_FrameBits, e_a1_FrameBits, _, w_a1_FrameBits⟩ := DataW.trod_int Tryz.underlying3 q_a1_FrameBits
  obtain rfl : c1_2 = Value.int .i64 a1_FrameBits := by injection e_a1_FrameBits
  have q_a1_PocType : DataW.trod enc Tryz.prog W 0 (fun _ => true) true n_a1 3 [c1_3] = some (xs_a1[3]'(by rw [xl_a1]; decide)) := (hf_a1 3 _ rfl).trans (List.getElem?_eq_getElem _)
  obtain ⟨a1_PocType, e_a1_PocType, _, w_a1_PocType⟩ := DataW.trod_int Tryz.underlying3 q_a1_PocType
  obtain rfl : c1_3 = Value.int .i64 a1_PocType := by injection e_a1_PocType
  have q_a1_PocBits : DataW.trod enc Tryz.prog W 0 (fun _ => true) true n_a1 3 [c1_4] = some (xs_a1[4]'(by rw [xl_a1]; decide)) := (hf_a1 4 _ rfl).trans (List.getElem?_eq_getElem _)
  obtain ⟨a1_PocBits, e_a1_PocBits, _, w_a1_PocBits⟩ := DataW.trod_int Tryz.underlying3 q_a1_PocBits
  obtain rfl : c1_4 = Value.int .i64 a1_PocBits := by injection e_a1_PocBits
  have q_a1_NonRef : DataW.trod enc Tryz.prog W 0 (fun _ => true) true n_a1 3 [c1_5] = some (xs_a1[5]'(by rw [xl_a1]; decide)) := (hf_a1 5 _ rfl).trans (List.getElem?_eq_getElem _)
  obtain ⟨a1_NonRef, e_a1_NonRef, _, w_a1_NonRef⟩ := DataW.trod_int Tryz.underlying3 q_a1_NonRef
  obtain rfl : c1_5 = Value.int .i64 a1_NonRef := by injection e_a1_NonRef
  have q_a1_Cycle : DataW.trod enc Tryz.prog W 0 (fun _ => true) true n_a1 27 [c1_6] = some (xs_a1[6]'(by rw [xl_a1]; decide)) := (hf_a1 6 _ rfl).trans (List.getElem?_eq_getElem _)
  obtain ⟨a1_Cycle, len_a1_Cycle, cap_a1_Cycle, z_a1_Cycle, e_a1_Cycle, g_a1_Cycle, n_a1_Cycle, l_a1_Cycle, f_a1_Cycle, D_a1_Cycle⟩ := open_row1 Tryz.underlying27 Tryz.underlying3 (by kernel_rfl) q_a1_Cycle
  obtain rfl : c1_6 = Value.slice a1_Cycle len_a1_Cycle cap_a1_Cycle := e_a1_Cycle
  have s_a1_Cycle : cap_a1_Cycle * 8 ≤ 140737488351232 := by
    rcases D_a1_Cycle with e | ⟨el, sp, hd, hl⟩
    · omega
    · have hd0 : d1 = .agg (xs_a1.map (·.1)) := congrArg Prod.fst dx_a1
      have hm : (xs_a1.map (·.1))[6]? = some (.slice el sp) := by
        rw [List.getElem?_map, List.getElem?_eq_getElem (by rw [xl_a1]; decide : 6 < xs_a1.length), Option.map_some]
        exact congrArg some hd
      have hp := sized_part hsz (j := 1) (t := 29) rfl (by rw [hd0]; rfl) Tryz.underlying29
      have e := sized_slice hp (j := 6) (t := 27) (e := 3) (elems := el) (spare := sp) rfl hm Tryz.underlying27
      rw [bytes3, hl] at e
      exact e
  have w_a1_Cycle : IntsArg W a1_Cycle len_a1_Cycle cap_a1_Cycle z_a1_Cycle := ⟨g_a1_Cycle, n_a1_Cycle, l_a1_Cycle, s_a1_Cycle, f_a1_Cycle⟩
  have q_a1_Refs : DataW.trod enc Tryz.prog W 0 (fun _ => true) true n_a1 3 [c1_7] = some (xs_a1[7]'(by rw [xl_a1]; decide)) := (hf_a1 7 _ rfl).trans (List.getElem?_eq_getElem _)
  obtain ⟨a1_Refs, e_a1_Refs, _, w_a1_Refs⟩ := DataW.trod_int Tryz.underlying3 q_a1_Refs
  obtain rfl : c1_7 = Value.int .i64 a1_Refs := by injection e_a1_Refs
  have q_a1_Delay : DataW.trod enc Tryz.prog W 0 (fun _ => true) true n_a1 3 [c1_8] = some (xs_a1[8]'(by rw [xl_a1]; decide)) := (hf_a1 8 _ rfl).trans (List.getElem?_eq_getElem _)
  obtain ⟨a1_Delay, e_a1_Delay, _, w_a1_Delay⟩ := DataW.trod_int Tryz.underlying3 q_a1_Delay
  obtain rfl : c1_8 = Value.int .i64 a1_Delay := by injection e_a1_Delay
  have k2 := h2
  have lt2 : ∀ x ∈ p2, x.block < W.heap.size := by obtain ⟨m, hm⟩ := k2; exact DataW.trod_lt m _ _ _ hm
  obtain ⟨cs2, rfl, sz2⟩ := okWide_struct Tryz.underlying31 (hval 2 31 v2 rfl rfl)
  rw [cells31] at sz2
  obtain ⟨c2_0, c2_1, c2_2, c2_3, c2_4, c2_5, c2_6, c2_7, c2_8, rfl⟩ := cells_of_9 sz2
  obtain ⟨fu2, q2⟩ := h2
  obtain ⟨xs_a2, n_a2, _, dx_a2, _, xl_a2, hf_a2⟩ := DataW.trod_struct Tryz.underlying31 q2
  have q_a2_Cabac : DataW.trod enc Tryz.prog W 0 (fun _ => true) true n_a2 4 [c2_0] = some (xs_a2[0]'(by rw [xl_a2]; decide)) := (hf_a2 0 _ rfl).trans (List.getElem?_eq_getElem _)
  obtain ⟨a2_Cabac, e_a2_Cabac, _⟩ := DataW.trod_bool Tryz.underlying4 q_a2_Cabac
  obtain rfl : c2_0 = Value.bool a2_Cabac := by injection e_a2_Cabac
  have q_a2_Weighted : DataW.trod enc Tryz.prog W 0 (fun _ => true) true n_a2 4 [c2_1] = some (xs_a2[1]'(by rw [xl_a2]; decide)) := (hf_a2 1 _ rfl).trans (List.getElem?_eq_getElem _)
  obtain ⟨a2_Weighted, e_a2_Weighted, _⟩ := DataW.trod_bool Tryz.underlying4 q_a2_Weighted
  obtain rfl : c2_1 = Value.bool a2_Weighted := by injection e_a2_Weighted
  have q_a2_BiPred : DataW.trod enc Tryz.prog W 0 (fun _ => true) true n_a2 3 [c2_2] = some (xs_a2[2]'(by rw [xl_a2]; decide)) := (hf_a2 2 _ rfl).trans (List.getElem?_eq_getElem _)
  obtain ⟨a2_BiPred, e_a2_BiPred, _, w_a2_BiPred⟩ := DataW.trod_int Tryz.underlying3 q_a2_BiPred
  obtain rfl : c2_2 = Value.int .i64 a2_BiPred := by injection e_a2_BiPred
  have q_a2_Qp : DataW.trod enc Tryz.prog W 0 (fun _ => true) true n_a2 3 [c2_3] = some (xs_a2[3]'(by rw [xl_a2]; decide)) := (hf_a2 3 _ rfl).trans (List.getElem?_eq_getElem _)
  obtain ⟨a2_Qp, e_a2_Qp, _, w_a2_Qp⟩ := DataW.trod_int Tryz.underlying3 q_a2_Qp
  obtain rfl : c2_3 = Value.int .i64 a2_Qp := by injection e_a2_Qp
  have q_a2_ChromaQp : DataW.trod enc Tryz.prog W 0 (fun _ => true) true n_a2 3 [c2_4] = some (xs_a2[4]'(by rw [xl_a2]; decide)) := (hf_a2 4 _ rfl).trans (List.getElem?_eq_getElem _)
  obtain ⟨a2_ChromaQp, e_a2_ChromaQp, _, w_a2_ChromaQp⟩ := DataW.trod_int Tryz.underlying3 q_a2_ChromaQp
  obtain rfl : c2_4 = Value.int .i64 a2_ChromaQp := by injection e_a2_ChromaQp
  have q_a2_Constrained : DataW.trod enc Tryz.prog W 0 (fun _ => true) true n_a2 4 [c2_5] = some (xs_a2[5]'(by rw [xl_a2]; decide)) := (hf_a2 5 _ rfl).trans (List.getElem?_eq_getElem _)
  obtain ⟨a2_Constrained, e_a2_Constrained, _⟩ := DataW.trod_bool Tryz.underlying4 q_a2_Constrained
  obtain rfl : c2_5 = Value.bool a2_Constrained := by injection e_a2_Constrained
  have q_a2_Deblock : DataW.trod enc Tryz.prog W 0 (fun _ => true) true n_a2 4 [c2_6] = some (xs_a2[6]'(by rw [xl_a2]; decide)) := (hf_a2 6 _ rfl).trans (List.getElem?_eq_getElem _)
  obtain ⟨a2_Deblock, e_a2_Deblock, _⟩ := DataW.trod_bool Tryz.underlying4 q_a2_Deblock
  obtain rfl : c2_6 = Value.bool a2_Deblock := by injection e_a2_Deblock
  have q_a2_Active0 : DataW.trod enc Tryz.prog W 0 (fun _ => true) true n_a2 3 [c2_7] = some (xs_a2[7]'(by rw [xl_a2]; decide)) := (hf_a2 7 _ rfl).trans (List.getElem?_eq_getElem _)
  obtain ⟨a2_Active0, e_a2_Active0, _, w_a2_Active0⟩ := DataW.trod_int Tryz.underlying3 q_a2_Active0
  obtain rfl : c2_7 = Value.int .i64 a2_Active0 := by injection e_a2_Active0
  have q_a2_Active1 : DataW.trod enc Tryz.prog W 0 (fun _ => true) true n_a2 3 [c2_8] = some (xs_a2[8]'(by rw [xl_a2]; decide)) := (hf_a2 8 _ rfl).trans (List.getElem?_eq_getElem _)
  obtain ⟨a2_Active1, e_a2_Active1, _, w_a2_Active1⟩ := DataW.trod_int Tryz.underlying3 q_a2_Active1
  obtain rfl : c2_8 = Value.int .i64 a2_Active1 := by injection e_a2_Active1
  have k3 := h3
  have lt3 : ∀ x ∈ p3, x.block < W.heap.size := by obtain ⟨m, hm⟩ := k3; exact DataW.trod_lt m _ _ _ hm
  obtain ⟨a3, rfl, rfl, rfl, w_a3⟩ := open_int Tryz.underlying3 (hval 3 3 v3 rfl rfl) h3
  have k4 := h4
  have lt4 : ∀ x ∈ p4, x.block < W.heap.size := by obtain ⟨m, hm⟩ := k4; exact DataW.trod_lt m _ _ _ hm
  obtain ⟨a4, rfl, rfl, rfl⟩ := open_bool Tryz.underlying4 (hval 4 4 v4 rfl rfl) h4
  have k5 := h5
  have lt5 : ∀ x ∈ p5, x.block < W.heap.size := by obtain ⟨m, hm⟩ := k5; exact DataW.trod_lt m _ _ _ hm
  obtain ⟨a5, rfl, rfl, rfl, w_a5⟩ := open_int Tryz.underlying3 (hval 5 3 v5 rfl rfl) h5
  clear hA0 hval0
  refine (walk_HeadPuts a0_First a0_Count a0_Type a0_FrameNum a0_Id a0_Poc a0_Spatial a0_Active0 a0_Active1 a0_Mods0 len_a0_Mods0 cap_a0_Mods0 V_a0_Mods0 z_a0_Mods0_Kind z_a0_Mods0_V a0_Mods1 len_a0_Mods1 cap_a0_Mods1 V_a0_Mods1 z_a0_Mods1_Kind z_a0_Mods1_V a0_Log a0_LogC a0_Weights0 len_a0_Weights0 cap_a0_Weights0 V_a0_Weights0 z_a0_Weights0_Scale_0 z_a0_Weights0_Scale_1 z_a0_Weights0_Scale_2 z_a0_Weights0_Offset_0 z_a0_Weights0_Offset_1 z_a0_Weights0_Offset_2 a0_Weights1 len_a0_Weights1 cap_a0_Weights1 V_a0_Weights1 z_a0_Weights1_Scale_0 z_a0_Weights1_Scale_1 z_a0_Weights1_Scale_2 z_a0_Weights1_Offset_0 z_a0_Weights1_Offset_1 z_a0_Weights1_Offset_2 a0_LongKey a0_Ops len_a0_Ops cap_a0_Ops V_a0_Ops z_a0_Ops_Kind z_a0_Ops_A z_a0_Ops_B a0_Qp a0_Off a0_A a0_B a1_Wide a1_High a1_FrameBits a1_PocType a1_PocBits a1_NonRef a1_Cycle len_a1_Cycle cap_a1_Cycle z_a1_Cycle a1_Refs a1_Delay a2_Cabac a2_Weighted a2_BiPred a2_Qp a2_ChromaQp a2_Constrained a2_Deblock a2_Active0 a2_Active1 a3 a4 a5 W w_a0_First w_a0_Count w_a0_Type w_a0_FrameNum w_a0_Id w_a0_Poc w_a0_Active0 w_a0_Active1 r_a0_Mods0 (fun k hk => e_a0_Mods0_Kind k (Nat.lt_of_lt_of_le hk r_a0_Mods0.2.2)) w_a0_Mods0_Kind (fun k hk => e_a0_Mods0_V k (Nat.lt_of_lt_of_le hk r_a0_Mods0.2.2)) w_a0_Mods0_V s_a0_Mods0 lt_a0_Mods0 r_a0_Mods1 (fun k hk => e_a0_Mods1_Kind k (Nat.lt_of_lt_of_le hk r_a0_Mods1.2.2)) w_a0_Mods1_Kind (fun k hk => e_a0_Mods1_V k (Nat.lt_of_lt_of_le hk r_a0_Mods1.2.2)) w_a0_Mods1_V s_a0_Mods1 lt_a0_Mods1 w_a0_Log w_a0_LogC r_a0_Weights0 (fun k hk => e_a0_Weights0_Scale_0 k (Nat.lt_of_lt_of_le hk r_a0_Weights0.2.2)) w_a0_Weights0_Scale_0 (fun k hk => e_a0_Weights0_Scale_1 k (Nat.lt_of_lt_of_le hk r_a0_Weights0.2.2)) w_a0_Weights0_Scale_1 (fun k hk => e_a0_Weights0_Scale_2 k (Nat.lt_of_lt_of_le hk r_a0_Weights0.2.2)) w_a0_Weights0_Scale_2 (fun k hk => e_a0_Weights0_Offset_0 k (Nat.lt_of_lt_of_le hk r_a0_Weights0.2.2)) w_a0_Weights0_Offset_0 (fun k hk => e_a0_Weights0_Offset_1 k (Nat.lt_of_lt_of_le hk r_a0_Weights0.2.2)) w_a0_Weights0_Offset_1 (fun k hk => e_a0_Weights0_Offset_2 k (Nat.lt_of_lt_of_le hk r_a0_Weights0.2.2)) w_a0_Weights0_Offset_2 s_a0_Weights0 lt_a0_Weights0 r_a0_Weights1 (fun k hk => e_a0_Weights1_Scale_0 k (Nat.lt_of_lt_of_le hk r_a0_Weights1.2.2)) w_a0_Weights1_Scale_0 (fun k hk => e_a0_Weights1_Scale_1 k (Nat.lt_of_lt_of_le hk r_a0_Weights1.2.2)) w_a0_Weights1_Scale_1 (fun k hk => e_a0_Weights1_Scale_2 k (Nat.lt_of_lt_of_le hk r_a0_Weights1.2.2)) w_a0_Weights1_Scale_2 (fun k hk => e_a0_Weights1_Offset_0 k (Nat.lt_of_lt_of_le hk r_a0_Weights1.2.2)) w_a0_Weights1_Offset_0 (fun k hk => e_a0_Weights1_Offset_1 k (Nat.lt_of_lt_of_le hk r_a0_Weights1.2.2)) w_a0_Weights1_Offset_1 (fun k hk => e_a0_Weights1_Offset_2 k (Nat.lt_of_lt_of_le hk r_a0_Weights1.2.2)) w_a0_Weights1_Offset_2 s_a0_Weights1 lt_a0_Weights1 r_a0_Ops (fun k hk => e_a0_Ops_Kind k (Nat.lt_of_lt_of_le hk r_a0_Ops.2.2)) w_a0_Ops_Kind (fun k hk => e_a0_Ops_A k (Nat.lt_of_lt_of_le hk r_a0_Ops.2.2)) w_a0_Ops_A (fun k hk => e_a0_Ops_B k (Nat.lt_of_lt_of_le hk r_a0_Ops.2.2)) w_a0_Ops_B s_a0_Ops lt_a0_Ops w_a0_Qp w_a0_A w_a0_B w_a1_Wide w_a1_High w_a1_FrameBits w_a1_PocType w_a1_PocBits w_a1_NonRef w_a1_Cycle w_a1_Refs w_a1_Delay w_a2_BiPred w_a2_Qp w_a2_ChromaQp w_a2_Active0 w_a2_Active1 w_a3 w_a5).mono fun e W' ⟨he, bel⟩ => ?_
  subst he
  exact ⟨_, rfl, _, _, _, [], _, [], hW', trodAll_mk1 (shut_bool Tryz.underlying4 _), (trodAll_cons_mk (Below.trod laidOut (by kernel_rfl) (of_decide_eq_true (by kernel_rfl)) k0 bel lt0) (trodAll_cons_mk (Below.trod laidOut (by kernel_rfl) (of_decide_eq_true (by kernel_rfl)) k1 bel lt1) (trodAll_cons_mk (Below.trod laidOut (by kernel_rfl) (of_decide_eq_true (by kernel_rfl)) k2 bel lt2) (trodAll_cons_mk (Below.trod laidOut (by kernel_rfl) (of_decide_eq_true (by kernel_rfl)) k3 bel lt3) (trodAll_cons_mk (Below.trod laidOut (by kernel_rfl) (of_decide_eq_true (by kernel_rfl)) k4 bel lt4) (trodAll_cons_mk (Below.trod laidOut (by kernel_rfl) (of_decide_eq_true (by kernel_rfl)) k5 bel lt5) trodAll_mk0)))))), rfl, bel.frame _, fun h => by cases h⟩

theorem over : Rows.headPutsRow.holds Tryz.pinned (OpenSpec.ofChange Rows.headPutsSpec) :=
  OpenClaim.holds_of_wide 3 Tryz.f3 rfl rfl rfl rfl rfl rfl rfl ⟨rfl, rfl, rfl, rfl, rfl⟩ rfl rfl rfl rfl rfl (by kernel_rfl) Tryz.func3 (by kernel_rfl)
    (of_decide_eq_true (by kernel_rfl)) (by unfold Func.isWrapper; first | (rw [if_pos (by decide +kernel)]; kernel_rfl) | (rw [if_neg (by decide +kernel)]; exact ⟨rfl, rfl⟩))
    (fun os started H enc _ => lifted os started H enc)

theorem proved : Rows.HeadPutsSaid := over
#print axioms proved
end Go.Proofs.YtjokibagciehlaaGreat.lawHeadPuts
