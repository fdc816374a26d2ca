/- The console's commands: median, qp, poc, bins. -/
import Derived.Test.YtfignfohcalcfaaGreatDoorConW
import Derived.Test.YtfignfohcalcfaaGreatDoorConV
import Derived.Test.YtfignfohcalcfaaGreatDoorConP
import Derived.Test.YtfignfohcalcfaaGreatDoorQuiet
import Derived.StillTailTactics
namespace Go.Proofs.YtfignfohcalcfaaGreatDoor
open Go.RowKit
set_option linter.unusedVariables false
set_option linter.unusedSimpArgs false

theorem ri_new (w : World) (l : List Int) (t : TypeId) : Ri (w.alloc (.cells (l.map (Value.int .i64)).toArray t)) (w.alloc (.cells (l.map (Value.int .i64)).toArray t)).heap.size (some ⟨w.heap.size, 0, none⟩) l.length (fun k => l.getD k 0) := fun _ =>
  ⟨⟨w.heap.size, 0, none⟩, rfl, by simp, fun k hk => by rw [add_new, World.cell?_alloc_at _ _ _ _ rfl]; simp [hk]⟩
def I64 (x : Int) : Prop := -9223372036854775808 ≤ x ∧ x ≤ 9223372036854775807
theorem new1 (x : Int) (w : World) (T : Tabs w) (hx : I64 x) : Calls Tryz.prog 57 #[.slice (some ⟨w.heap.size, 0, none⟩) 1 1] (w.alloc (.cells #[.int .i64 x] 3)) fun e w' => e = .returned (.string (rowF [x])) ∧ Below w.heap.size w w' :=
  (crow_any [x] _ 1 _ (ri_new w [x] 3) (by simp) (by simp) (fun y hy => by simp at hy; exact hy ▸ hx) (T.go ((Below.refl _ _).alloc (Nat.le_refl _) _))).mono fun e w' q => ⟨q.1, ((Below.refl _ w).alloc (Nat.le_refl _) _).trans (q.2.mono (by simp))⟩
set_option maxRecDepth 100000 in
set_option maxHeartbeats 3200000 in
theorem cmed_any (a b d : Int) (g c : Nat) (w : World) (h0 : w.cell? ⟨g, 0, none⟩ = some (.int .i64 a)) (h1 : w.cell? ⟨g, 1, none⟩ = some (.int .i64 b)) (h2 : w.cell? ⟨g, 2, none⟩ = some (.int .i64 d)) (ha : I64 a) (hb : I64 b) (hd : I64 d) (T : Tabs w) :
    Calls Tryz.prog 61 #[.slice (some ⟨g, 0, none⟩) 3 c] w fun e w' => e = .returned (.string (rowF [medF a b d])) ∧ Below w.heap.size w w' := by
  have hm : I64 (medF a b d) := by unfold medF I64 at *; omega
  obtain ⟨m, hmm⟩ : ∃ m, medF a b d = m := ⟨_, rfl⟩
  rw [hmm] at hm ⊢
  have HMD := Lib.hid (fun w => (hmm ▸ (med_any a b d w).mono fun e w' q => ⟨q.1, q.2.symm⟩ : Calls Tryz.prog 62 #[.int .i64 a, .int .i64 b, .int .i64 d] w fun e w' => e = .returned (.int .i64 m) ∧ w' = w))
  have HM := Lib.hid hm
  have HT := Lib.hid T
  have hg := cell_lt h0
  simp at hg
  have hB := Below.refl w.heap.size w
  clear T hm hmm ha hb hd
  go_enter Tryz.func61, Tryz.ntmps61
  go_upto_region 1 with fail
  refine wp_region_still_tail 10 (by kernel_rfl) (by kernel_rfl) ?_
  simp only [List.take_succ_cons, List.take_zero, List.drop_succ_cons, List.drop_zero]
  change wpStill _ _ (World.drew _) (fun a' => wpList _ _ _ _ a' (World.drew _)) _ _
  repeat still_step
  still_call (HMD.out _)
  repeat still_step
  refine wpStill_nil ?_
  change wpList _ _ _ _ _ (World.drew _)
  clear h0 h1 h2 hB
  go_wp2_with fail
  refine (new1 m _ (HT.out.go (Below.refl _ _).drew) HM.out).mono ?_
  rintro e w2 ⟨rfl, hb2⟩
  go_wp2_with fail
  go_ret
  exact ⟨rfl, (Below.refl _ _).drew.trans hb2⟩
theorem new2 (x y : Int) (w : World) (T : Tabs w) (hx : I64 x) (hy : I64 y) : Calls Tryz.prog 57 #[.slice (some ⟨w.heap.size, 0, none⟩) 2 2] (w.alloc (.cells #[.int .i64 x, .int .i64 y] 3)) fun e w' => e = .returned (.string (rowF [x, y])) ∧ Below w.heap.size w w' :=
  (crow_any [x, y] _ 2 _ (ri_new w [x, y] 3) (by simp) (by simp) (fun z hz => by simp at hz; rcases hz with rfl | rfl; exact hx; exact hy) (T.go ((Below.refl _ _).alloc (Nat.le_refl _) _))).mono fun e w' q => ⟨q.1, ((Below.refl _ w).alloc (Nat.le_refl _) _).trans (q.2.mono (by simp))⟩
theorem qpT_bd (a b : Int) : I64 (qpF a b) := by
  unfold qpF I64
  split
  · unfold qpX clipN; omega
  · have h1 : (qpX a b - 30).toNat < 22 := by unfold qpX clipN at *; omega
    exact (by decide : ∀ i : Fin 22, -9223372036854775808 ≤ qpT.getD i.val 0 ∧ qpT.getD i.val 0 ≤ 9223372036854775807) ⟨_, h1⟩
set_option maxRecDepth 100000 in
set_option maxHeartbeats 3200000 in
theorem cqp_any (a b : Int) (g c : Nat) (w : World) (h0 : w.cell? ⟨g, 0, none⟩ = some (.int .i64 a)) (h1 : w.cell? ⟨g, 1, none⟩ = some (.int .i64 b)) (T : Tabs w) :
    Calls Tryz.prog 58 #[.slice (some ⟨g, 0, none⟩) 2 c] w fun e w' => e = .returned (.string (rowF [qpF a b])) ∧ Below w.heap.size w w' := by
  have hm := qpT_bd a b
  have HQ := Lib.hid (fun w => qp_any a b w)
  obtain ⟨m, hmm⟩ : ∃ m, qpF a b = m := ⟨_, rfl⟩
  rw [hmm] at hm HQ ⊢
  have HM := Lib.hid hm
  have HT := Lib.hid T
  clear T hm hmm
  go_enter Tryz.func58, Tryz.ntmps58
  go_upto_region 1 with fail
  refine wp_region_still_tail 6 (by kernel_rfl) (by kernel_rfl) ?_
  simp only [List.take_succ_cons, List.take_zero, List.drop_succ_cons, List.drop_zero]
  change wpStill _ _ (World.drew _) (fun a' => wpList _ _ _ _ a' (World.drew _)) _ _
  repeat still_step
  refine wpStill_nil ?_
  change wpList _ _ _ _ _ (World.drew _)
  clear h0 h1
  go_wp2_with fail
  refine (HQ.out _).mono ?_
  rintro e w1 ⟨rfl, hb1⟩
  have HB := Lib.hid ((Below.refl w.heap.size w).drew.trans hb1)
  clear hb1
  go_wp2_with fail
  refine (new1 m _ (HT.out.go HB.out) HM.out).mono ?_
  rintro e w2 ⟨rfl, hb2⟩
  go_wp2_with fail
  go_ret
  exact ⟨rfl, HB.out.trans (hb2.mono HB.out.size)⟩
theorem poc_bd {msb lsb now bits : Int} {x : Int × Int} (h : pocF msb lsb now bits = some x) : I64 x.1 ∧ I64 x.2 := by
  unfold pocF at h
  split at h
  · cases h
  · rename_i hb
    have hm : ∃ m : Int, (2 : Int) ^ bits.toNat = m ∧ 0 ≤ m ∧ m ≤ 256 := by
      rcases (by omega : bits = 4 ∨ bits = 5 ∨ bits = 6 ∨ bits = 7 ∨ bits = 8) with rfl | rfl | rfl | rfl | rfl <;> exact ⟨_, rfl, by decide, by decide⟩
    obtain ⟨m, hm, h0, h1⟩ := hm
    simp only [hm] at h
    split at h
    · cases h
    · rename_i hq
      injection h with h
      subst h
      unfold I64
      dsimp only
      have hr : -268435456 ≤ msb ∧ msb ≤ 268435456 ∧ 0 ≤ now ∧ now < m := by omega
      split
      · omega
      · split <;> omega
set_option maxRecDepth 100000 in
set_option maxHeartbeats 3200000 in
theorem cpoc_any (a b d k : Int) (g c : Nat) (w : World) (h0 : w.cell? ⟨g, 0, none⟩ = some (.int .i64 a)) (h1 : w.cell? ⟨g, 1, none⟩ = some (.int .i64 b)) (h2 : w.cell? ⟨g, 2, none⟩ = some (.int .i64 d)) (h3 : w.cell? ⟨g, 3, none⟩ = some (.int .i64 k)) (T : Tabs w) :
    Calls Tryz.prog 60 #[.slice (some ⟨g, 0, none⟩) 4 c] w fun e w' => e = .returned (.string (match pocF a b d k with | none => faultF 1701 | some x => rowF [x.1, x.2])) ∧ Below w.heap.size w w' := by
  have HP := Lib.hid (fun w => (poc_any a b d k w).mono (R' := fun e w' => e = .returned (pocV (pocF a b d k)) ∧ w' = w) fun e w' q => ⟨q.1, q.2.symm⟩)
  have hbd := fun x h => poc_bd (msb := a) (lsb := b) (now := d) (bits := k) (x := x) h
  obtain ⟨P, hP⟩ : ∃ P, pocF a b d k = P := ⟨_, rfl⟩
  rw [hP] at HP hbd ⊢
  have HB := Lib.hid hbd
  have HT := Lib.hid T
  clear T hP hbd
  cases P with
  | none =>
    simp only [pocV] at HP
    have HF := Lib.hid (fun w T => fault_any 1701 w T (by decide) (by decide))
    go_enter Tryz.func60, Tryz.ntmps60
    go_upto_region 1 with fail
    have hg := cell_lt h0
    simp at hg
    refine wp_region_class (fun w' => Below w.heap.size w w') (by kernel_rfl) (by kernel_rfl) ((Below.refl _ _).drew) ?_
    repeat (first
      | go_big_quiet_skip
      | (go_big_quiet_want; first
          | (go_big_quiet_op; go_big_quiet_on)
          | (refine qv_val (v := ?_) ?_ ?_; rotate_left 1; (intro w' hw'; obtain ⟨hcc, hff⟩ := bcell hw'; clear hff hw'; go_simp; (try with_reducible rfl)); (try simp only [Act.put, List.setIfInBounds_toArray, List.set_cons_zero, List.set_cons_succ]); go_big_quiet_on)
          | (refine qv_call (v := ?_) (f := ?_) (args := ?_) ?_ ?_ ?_; rotate_left 3; (intro w' hw'; clear hw'; go_simp; (refine ⟨?_, ?_⟩ <;> rfl)); (first | (intro w' hw'; refine (HP.out _).mono ?_; rintro e w'' ⟨rfl, rfl⟩; refine ⟨?_, hw'⟩; skip; rfl)); (try simp only [Act.put, List.setIfInBounds_toArray, List.set_cons_zero, List.set_cons_succ]); go_big_quiet_on)))
    with_reducible refine wpQuiet_nil ?_
    intro w1 hw
    have HBW := Lib.hid hw
    clear hw h0 h1 h2 h3
    go_wp2_with fail
    refine (HF.out _ (HT.out.go HBW.out)).mono ?_
    rintro e w2 ⟨rfl, hb2⟩
    go_wp2_with fail
    go_ret
    exact ⟨rfl, HBW.out.trans (hb2.mono HBW.out.size)⟩
  | some x =>
    obtain ⟨p, q⟩ := x
    simp only [pocV] at HP
    obtain ⟨b1, b2⟩ := HB.out _ rfl
    have HN := Lib.hid (fun w T => new2 p q w T b1 b2)
    clear b1 b2
    go_enter Tryz.func60, Tryz.ntmps60
    go_upto_region 1 with fail
    have hg := cell_lt h0
    simp at hg
    refine wp_region_class (fun w' => Below w.heap.size w w') (by kernel_rfl) (by kernel_rfl) ((Below.refl _ _).drew) ?_
    repeat (first
      | go_big_quiet_skip
      | (go_big_quiet_want; first
          | (go_big_quiet_op; go_big_quiet_on)
          | (refine qv_val (v := ?_) ?_ ?_; rotate_left 1; (intro w' hw'; obtain ⟨hcc, hff⟩ := bcell hw'; clear hff hw'; go_simp; (try with_reducible rfl)); (try simp only [Act.put, List.setIfInBounds_toArray, List.set_cons_zero, List.set_cons_succ]); go_big_quiet_on)
          | (refine qv_call (v := ?_) (f := ?_) (args := ?_) ?_ ?_ ?_; rotate_left 3; (intro w' hw'; clear hw'; go_simp; (refine ⟨?_, ?_⟩ <;> rfl)); (first | (intro w' hw'; refine (HP.out _).mono ?_; rintro e w'' ⟨rfl, rfl⟩; refine ⟨?_, hw'⟩; skip; rfl)); (try simp only [Act.put, List.setIfInBounds_toArray, List.set_cons_zero, List.set_cons_succ]); go_big_quiet_on)))
    with_reducible refine wpQuiet_nil ?_
    intro w1 hw
    have HBW := Lib.hid hw
    clear hw h0 h1 h2 h3
    go_wp2_with fail
    refine (HN.out _ (HT.out.go HBW.out)).mono ?_
    rintro e w2 ⟨rfl, hb2⟩
    go_wp2_with fail
    go_ret
    exact ⟨rfl, HBW.out.trans (hb2.mono HBW.out.size)⟩
set_option maxRecDepth 100000 in
set_option maxHeartbeats 3200000 in
theorem cbin_any (a b d : Int) (g c : Nat) (w : World) (h0 : w.cell? ⟨g, 0, none⟩ = some (.int .i64 a)) (h1 : w.cell? ⟨g, 1, none⟩ = some (.int .i64 b)) (h2 : w.cell? ⟨g, 2, none⟩ = some (.int .i64 d)) (T : Tabs w) :
    Calls Tryz.prog 55 #[.slice (some ⟨g, 0, none⟩) 3 c] w fun e w' => e = .returned (.string (binF a b d)) ∧ Below w.heap.size w w' := by
  have HP := Lib.hid (fun w => bits_any a b d w)
  have HT := Lib.hid T
  have HF := Lib.hid (fun w T => fault_any 600 w T (by decide) (by decide))
  unfold binF
  unfold binV at HP
  obtain ⟨L, hL⟩ : ∃ L, binL (kindF a) b d = L := ⟨_, rfl⟩
  rw [hL] at HP ⊢
  cases hm : mayB (kindF a) b d
  · rw [hm] at HP
    simp only [Bool.false_eq_true, if_false] at HP ⊢
    clear T hL hm
    go_enter Tryz.func55, Tryz.ntmps55
    go_upto_region 1 with fail
    have hg := cell_lt h0
    simp at hg
    refine wp_region_class (fun w' => Below w.heap.size w w') (by kernel_rfl) (by kernel_rfl) ((Below.refl _ _).drew) ?_
    repeat (first
      | go_big_quiet_skip
      | (go_big_quiet_want; first
          | (go_big_quiet_op; go_big_quiet_on)
          | (refine qv_val (v := ?_) ?_ ?_; rotate_left 1; (intro w' hw'; obtain ⟨hcc, hff⟩ := bcell hw'; clear hff hw'; go_simp; (try with_reducible rfl)); (try simp only [Act.put, List.setIfInBounds_toArray, List.set_cons_zero, List.set_cons_succ]); go_big_quiet_on)
          | (refine qv_call (v := ?_) (f := ?_) (args := ?_) ?_ ?_ ?_; rotate_left 3; (intro w' hw'; clear hw'; go_simp; (refine ⟨?_, ?_⟩ <;> rfl)); (first | (intro w' hw'; refine (HP.out _).mono ?_; rintro e wh ⟨rfl, hbh⟩; refine ⟨?_, Below.trans hw' (hbh.mono hw'.size)⟩; skip; rfl)); (try simp only [Act.put, List.setIfInBounds_toArray, List.set_cons_zero, List.set_cons_succ]); go_big_quiet_on)))
    with_reducible refine wpQuiet_nil ?_
    intro w1 hw
    have HB := Lib.hid hw
    clear hw h0 h1 h2
    go_wp2_with fail
    refine (HF.out _ (HT.out.go HB.out)).mono ?_
    rintro e w2 ⟨rfl, hb2⟩
    go_wp2_with fail
    go_ret
    exact ⟨rfl, HB.out.trans (hb2.mono HB.out.size)⟩
  · rw [hm] at HP
    simp only [if_true] at HP ⊢
    clear T hL hm HF
    go_enter Tryz.func55, Tryz.ntmps55
    go_upto_region 1 with fail
    have hg := cell_lt h0
    simp at hg
    refine wp_region_class (fun w' => Below w.heap.size w w') (by kernel_rfl) (by kernel_rfl) ((Below.refl _ _).drew) ?_
    repeat (first
      | go_big_quiet_skip
      | (go_big_quiet_want; first
          | (go_big_quiet_op; go_big_quiet_on)
          | (refine qv_val (v := ?_) ?_ ?_; rotate_left 1; (intro w' hw'; obtain ⟨hcc, hff⟩ := bcell hw'; clear hff hw'; go_simp; (try with_reducible rfl)); (try simp only [Act.put, List.setIfInBounds_toArray, List.set_cons_zero, List.set_cons_succ]); go_big_quiet_on)
          | (refine qv_call (v := ?_) (f := ?_) (args := ?_) ?_ ?_ ?_; rotate_left 3; (intro w' hw'; clear hw'; go_simp; (refine ⟨?_, ?_⟩ <;> rfl)); (first | (intro w' hw'; refine (HP.out _).mono ?_; rintro e wh ⟨rfl, hbh⟩; refine ⟨?_, Below.trans hw' (hbh.mono hw'.size)⟩; skip; rfl)); (try simp only [Act.put, List.setIfInBounds_toArray, List.set_cons_zero, List.set_cons_succ]); go_big_quiet_on)))
    with_reducible refine wpQuiet_nil ?_
    intro w1 hw
    have HB := Lib.hid hw
    clear hw h0 h1 h2
    go_wp2_with fail
    go_ret
    exact ⟨rfl, HB.out⟩
end Go.Proofs.YtfignfohcalcfaaGreatDoor
