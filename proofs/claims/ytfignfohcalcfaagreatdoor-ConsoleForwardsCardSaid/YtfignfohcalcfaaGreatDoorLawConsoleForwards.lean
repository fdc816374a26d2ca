/- The row's step of the statement ConsoleForwards: for every input the call returns true and nothing that was there is changed. Written by a program; the walk is YtfignfohcalcfaaGreatDoorLawD's walk_ConsoleForwards. -/
import Derived.Test.YtfignfohcalcfaaGreatDoorLawD
import Derived.ProofKit
import Derived.OpenShut
import Derived.ShutString
import Derived.ChangeOld
import Derived.Below
import Derived.SizedLaws
import Derived.Deep.DeepHandedRow
import Derived.HandedShaped
import Derived.JoinedCond
import Derived.LaidMore
import Derived.Lay
import Derived.SevenTiedAt
import Derived.Stop.Joined
import Derived.Test.YtfignfohcalcfaaGreatDoorTabs
import Derived.Test.YtfignfohcalcfaaGreatDoorCards
import Derived.Test.YtfignfohcalcfaaGreatDoorTie
namespace Go.Proofs.YtfignfohcalcfaaGreatDoor.lawConsoleForwards
open Go.ChangeShapes Go.WideShapes Go.ChangeAt Go.RowKit
open Go.ChangeMaps (open_string shut_string)
set_option linter.unusedVariables false
set_option linter.unusedSimpArgs false

theorem own : ownKnob Tryz.prog.godebug = none := by kernel_rfl
theorem laidOut : laidOutB Tryz.prog = true := by kernel_rfl
theorem bytes3 : Tryz.prog.bytesOf 3 = 8 := by kernel_rfl

set_option maxRecDepth 100000 in
set_option maxHeartbeats 1000000 in
theorem lifted (os : Os) (started : os.Started) (H : Type) (enc : TypeId × Value → H) (F : Stop.Interp) :
    ReturnsInHanded {} Tryz.checked os 5 .any ((OpenSpec.ofChange Rows.consoleForwardsSpec).preRow enc Tryz.prog Tryz.f5 Rows.consoleForwardsRow.domain false Rows.consoleForwardsRow.laid) (((OpenSpec.ofChange Rows.consoleForwardsSpec).at F).post enc Tryz.prog Tryz.f5 false true false false) := by
  refine returnsInHanded_of_row (C := Tryz.checked) (s := OpenSpec.ofChange Rows.consoleForwardsSpec) (laid := Rows.consoleForwardsRow.laid) own started (by kernel_rfl) Tryz.func5 (by
    obtain ⟨w, tape, i, h1, h2, h3, h4, h5, h6⟩ := ChangeSpec.witness_shaped (enc := enc) (C := Tryz.checked) (os := os) (f := 5) (fn := Tryz.f5) (s := Rows.consoleForwardsSpec) (conds := Rows.consoleForwardsRow.domain) (apart := false) (X := fun w _ => laidMetH Tryz.prog Rows.consoleForwardsRow.laid w) false (World.laidAll Tryz.prog os Rows.consoleForwardsRow.laid) #[.slice none 0 0] 8 (World.laidAll_os _ _ _)
      (World.shaped_of_ZipB (by kernel_rfl) (by kernel_rfl)) (by kernel_rfl) (by kernel_rfl) (by kernel_rfl)
      (by rw [MakeChecks.laidMetH_plain _ _ _ (by kernel_rfl)]; exact laidMet_laidAll _ (by kernel_rfl) (by kernel_rfl))
    exact ⟨w, tape, i, h1, h2, h3, h4, ⟨⟨h5.1.1, h5.1.2⟩, h5.2⟩, h6⟩) ?_
  intro W base args ds gs before hval0 hW hcnd hk0 hsz0 hL hsh _
  have hTabs := tabs_of hL rfl hsh
  have hsz : (DataW.weightsEach Tryz.prog (Tryz.f5.params.toList ++ Rows.consoleForwardsSpec.plain.varTypes Tryz.prog) (ds ++ gs)).all (· ≤ reachBytes) = true := hsz0
  have hval : ∀ (j : Nat) t v, Tryz.f5.params[j]? = some t → args[j]? = some v → Value.okWide Tryz.prog W .any base t v := hval0
  have hW' := hW
  obtain ⟨p, q, hA0, hV, rfl, hfz, hnd⟩ := hW
  have hA : DataW.TrodAll enc Tryz.prog W 0 (fun _ => true) true Tryz.f5.params.toList args.toList ds p := hA0
  rw [Tryz.params5] at hA hval hsz
  obtain ⟨v0, vs0, d0, ds0, p0, q0, hargs, rfl, rfl, h0, r0⟩ := trodAll_cons hA
  obtain ⟨rfl, rfl, rfl⟩ := trodAll_nil r0
  obtain rfl : args = #[v0] := by cases args; simp_all
  obtain ⟨rfl, rfl⟩ := trodVars_none hV
  have k0 := h0
  have lt0 : ∀ x ∈ p0, x.block < W.heap.size := by obtain ⟨m, hm⟩ := k0; exact DataW.trod_lt m _ _ _ hm
  obtain ⟨a0, len_a0, cap_a0, rfl⟩ := okWide_slice Tryz.underlying37 (hval 0 37 v0 rfl rfl)
  obtain ⟨fu0, q0⟩ := h0
  have q0' : DataW.trod enc Tryz.prog W 0 (fun _ => true) true fu0 37 [.slice a0 len_a0 cap_a0] = some (d0, p0) := q0
  obtain ⟨z_a0, g_a0, n_a0, l_a0, f_a0, D_a0⟩ := open_row Tryz.underlying37 Tryz.underlying3 (by kernel_rfl) q0'
  have s_a0 : cap_a0 * 8 ≤ 140737488351232 := by
    rcases D_a0 with e | ⟨el, sp, hd, hl⟩
    · omega
    · have e := sized_slice hsz (j := 0) (t := 37) (e := 3) (elems := el) (spare := sp) rfl (by rw [← hd]; rfl) Tryz.underlying37
      rw [bytes3, hl] at e
      exact e
  have w_a0 : IntsArg W a0 len_a0 cap_a0 z_a0 := ⟨g_a0, n_a0, l_a0, s_a0, f_a0⟩
  clear hA0 hval0
  refine (walk_ConsoleForwards a0 len_a0 cap_a0 z_a0 W w_a0 hTabs).mono fun e W' ⟨he, bel⟩ => ?_
  subst he
  exact (show ∃ v, _ = Ending.returned v ∧ Rows.consoleForwardsSpec.post enc Tryz.prog Tryz.f5 false true false false W _ v W' from ⟨_, rfl, _, _, _, [], _, [], hW', trodAll_mk1 (shut_bool Tryz.underlying4 _), (trodAll_cons_mk (Below.trod laidOut (by kernel_rfl) (of_decide_eq_true (by kernel_rfl)) k0 bel lt0) trodAll_mk0), rfl, bel.frame _, fun h => by cases h⟩)

theorem over : Rows.consoleForwardsRow.holds Tryz.pinned (OpenSpec.ofChange Rows.consoleForwardsSpec) :=
  OpenClaim.holds_of_cond 5 Tryz.f5 rfl rfl rfl rfl rfl rfl rfl ⟨rfl, rfl, rfl, rfl, rfl⟩ rfl rfl rfl rfl rfl (by kernel_rfl) Tryz.func5 (by kernel_rfl)
    (of_decide_eq_true (by kernel_rfl)) (by unfold Func.isWrapper; first | (rw [if_pos (by decide +kernel)]; kernel_rfl) | (rw [if_neg (by decide +kernel)]; exact ⟨rfl, rfl⟩))
    (fun os started H enc _ F => by rw [OpenClaim.pre_eq_preRow]; exact lifted os started H enc F)

theorem proved : Rows.ConsoleForwardsCardSaid :=
  Claim7.holds_tied_plain_at .later [] [.data, .data, .data, .data, .sentinel, .sentinel, .pinned] true (true, "41aab6dd787a1bbcc86b00c11f72dbf3682c40efe18301f2c6dddb20c8108924") true over (fun _ h => by cases h) (by kernel_rfl) (fun _ h => by cases h) consoleForwards_row_tie rfl ⟨rfl, rfl⟩ (by kernel_rfl) rfl
    (fun f fn hf hfn => by
      obtain rfl : f = 5 := Option.some.inj ((show Tryz.prog.funcNamed "zoetrope/zoetropelaw27.ConsoleForwards" = some 5 by kernel_rfl).symm.trans hf) |>.symm
      obtain rfl : fn = Tryz.f5 := (Option.some.inj (Tryz.func5.symm.trans hfn)).symm
      exact ⟨by kernel_rfl, fun j t ht => by
        rw [Tryz.params5] at ht
        have hm : t ∈ [37] := by simpa using Array.mem_of_getElem? ht
        have hall : ([37].all fun u => !Tryz.prog.wantsStandIn u) = true := by kernel_rfl
        exact (show Tryz.prog.wantsStandIn t = false by simpa using List.all_eq_true.1 hall t hm)⟩)
    (by kernel_rfl)
#print axioms proved
end Go.Proofs.YtfignfohcalcfaaGreatDoor.lawConsoleForwards
