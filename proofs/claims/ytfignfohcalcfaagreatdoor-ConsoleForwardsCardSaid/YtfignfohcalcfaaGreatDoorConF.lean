/- xform: clipped, the step. -/
import Derived.Test.YtfignfohcalcfaaGreatDoorConX
import Derived.Test.YtfignfohcalcfaaGreatDoorQuiet
namespace Go.Proofs.YtfignfohcalcfaaGreatDoor
open Go.RowKit
set_option linter.unusedVariables false
set_option linter.unusedSimpArgs false

def iA (l : List Int) : Array Value := (l.map (Value.int .i64)).toArray
def Sm (M x : Int) : Prop := -M ≤ x ∧ x ≤ M
theorem bk_setRow {w : World} {g : Nat} {t : TypeId} {old cs : Array Value} (h : Bk w g t old) : Bk (w.setRow g cs) g t cs := setRow_heap w g old cs t (0, 0) h
theorem arr4_results (a : Act) (w : World) (B : Nat) (cs : Array Value) (h2 : a.tmps.getD 2 undef = .pointer (some ⟨B, 0, none⟩)) (hg : Bk w B 82 cs) (hs : cs.size = 4) :
    (results Tryz.f29 a.tmps).run Tryz.prog w = .ok (.agg cs) w := by
  have h2' : a.tmps[2]?.getD undef = .pointer (some ⟨B, 0, none⟩) := by simpa using h2
  have hl := run_loadVar_row (P := Tryz.prog) w B 82 82 cs (0, 0) _ hg Tryz.underlying82 rfl (by rw [hs]; kernel_rfl)
  simp [results, Tryz.results29, h2', asAddr, hl, Sem.run_bind]
set_option maxRecDepth 100000 in
set_option maxHeartbeats 3200000 in
theorem fstep_any (a b c d : Int) (w : World) (ha : Sm 20000000 a) (hb : Sm 20000000 b) (hc : Sm 20000000 c) (hd : Sm 20000000 d) :
    Calls Tryz.prog 29 #[.agg #[.int .i64 a, .int .i64 b, .int .i64 c, .int .i64 d]] w fun e w' => e = .returned (.agg (iA (fwd4 a b c d))) ∧ Below w.heap.size w w' := by
  obtain ⟨a0, a1⟩ := ha
  obtain ⟨b0, b1⟩ := hb
  obtain ⟨c0, c1⟩ := hc
  obtain ⟨d0, d1⟩ := hd
  obtain ⟨r, hr⟩ : ∃ r, w.heap.size = r := ⟨_, rfl⟩
  have k0 := Bk.new w 82 #[.int .i64 a, .int .i64 b, .int .i64 c, .int .i64 d]
  have kz := Bk.new (w.alloc (.cells #[.int .i64 a, .int .i64 b, .int .i64 c, .int .i64 d] 82)) 82 #[.int .i64 0, .int .i64 0, .int .i64 0, .int .i64 0]
  have k1 := k0.alloc (.cells #[.int .i64 0, .int .i64 0, .int .i64 0, .int .i64 0] 82)
  have hb0 : Below w.heap.size w ((w.alloc (.cells #[.int .i64 a, .int .i64 b, .int .i64 c, .int .i64 d] 82)).alloc (.cells #[.int .i64 0, .int .i64 0, .int .i64 0, .int .i64 0] 82)) := ((Below.refl _ _).alloc (Nat.le_refl _) _).alloc (by simp) _
  rw [World.size_alloc] at kz
  obtain ⟨w1, hw1⟩ : ∃ x, x = (w.alloc (.cells #[.int .i64 a, .int .i64 b, .int .i64 c, .int .i64 d] 82)).alloc (.cells #[.int .i64 0, .int .i64 0, .int .i64 0, .int .i64 0] 82) := ⟨_, rfl⟩
  rw [← hw1] at k1 kz hb0
  rw [hr] at k1 kz
  have HB := Lib.hid hb0
  have HZ := Lib.hid kz
  have HR := Lib.hid hr
  have q0 := k1.cell 0
  have q1 := k1.cell 1
  have q2 := k1.cell 2
  have q3 := k1.cell 3
  simp at q0 q1 q2 q3
  have hlt := k1.lt
  clear k0 k1 kz hb0
  go_enter Tryz.func29, Tryz.ntmps29
  go_upto_region 1 with fail
  rw [← hw1]
  clear hw1 hr
  refine wp_region_class (fun w' => Below w1.heap.size w1 w') (by kernel_rfl) (by kernel_rfl) ((Below.refl _ _).drew) ?_
  repeat (first
    | go_big_quiet_skip
    | (go_big_quiet_want; first
        | (go_big_quiet_op; go_big_quiet_on)
        | (refine qv_val (v := ?_) ?_ ?_; rotate_left 1; (intro w' hw'; obtain ⟨hcc, hff⟩ := bcell hw'; clear hff hw'; go_simp; (try with_reducible rfl)); (try simp only [Act.put, List.setIfInBounds_toArray, List.set_cons_zero, List.set_cons_succ]); go_big_quiet_on)
        | (refine qv_call (v := ?_) (f := ?_) (args := ?_) ?_ ?_ ?_; rotate_left 3; (intro w' hw'; clear hw'; go_simp; (refine ⟨?_, ?_⟩ <;> rfl)); (first | fail); (try simp only [Act.put, List.setIfInBounds_toArray, List.set_cons_zero, List.set_cons_succ]); go_big_quiet_on)))
  with_reducible refine wpQuiet_nil ?_
  intro w1 hw
  have HZ2 := Lib.hid (HZ.out.go hw)
  have HB2 := Lib.hid (HB.out.trans (hw.mono HB.out.size))
  clear hw q0 q1 q2 q3 hlt HZ HB
  have e1 : IntKind.i64.wrap (a + d) = a + d := by rw [IntKind.wrap_i64]; omega
  have e2 : IntKind.i64.wrap (b + c) = b + c := by rw [IntKind.wrap_i64]; omega
  have e3 : IntKind.i64.wrap (b - c) = b - c := by rw [IntKind.wrap_i64]; omega
  have e4 : IntKind.i64.wrap (a - d) = a - d := by rw [IntKind.wrap_i64]; omega
  rw [e1, e2, e3, e4]
  clear e1 e2 e3 e4
  obtain ⟨E, hE⟩ : ∃ E, a + d = E := ⟨_, rfl⟩
  obtain ⟨F, hF⟩ : ∃ F, b + c = F := ⟨_, rfl⟩
  obtain ⟨G, hG⟩ : ∃ G, b - c = G := ⟨_, rfl⟩
  obtain ⟨H, hH⟩ : ∃ H, a - d = H := ⟨_, rfl⟩
  rw [hE, hF, hG, hH]
  have g1 : -40000000 ≤ E ∧ E ≤ 40000000 := by omega
  have g2 : -40000000 ≤ F ∧ F ≤ 40000000 := by omega
  have g3 : -40000000 ≤ G ∧ G ≤ 40000000 := by omega
  have g4 : -40000000 ≤ H ∧ H ≤ 40000000 := by omega
  have HW : Hid (fwd4 a b c d = [E + F, 2 * H + G, E - F, H - 2 * G]) := Lib.hid (by unfold fwd4; rw [hE, hF, hG, hH])
  clear hE hF hG hH a0 a1 b0 b1 c0 c1 d0 d1
  obtain ⟨g1, g1'⟩ := g1
  obtain ⟨g2, g2'⟩ := g2
  obtain ⟨g3, g3'⟩ := g3
  obtain ⟨g4, g4'⟩ := g4
  go_wp2_with (refine wpList_store_row rfl _ _ _ rfl (r + 1) #[.int .i64 (E + F), .int .i64 (2 * H + G), .int .i64 (E - F), .int .i64 (H - 2 * G)] rfl rfl _ _ HZ2.out (by kernel_rfl) rfl (by simp [Value.oneCell']) ?_)
  have hF : Ending.returned (.agg #[.int .i64 (E + F), .int .i64 (2 * H + G), .int .i64 (E - F), .int .i64 (H - 2 * G)]) = .returned (.agg (iA (fwd4 a b c d))) ∧ Below w.heap.size w (w1.setRow (r + 1) #[.int .i64 (E + F), .int .i64 (2 * H + G), .int .i64 (E - F), .int .i64 (H - 2 * G)]) := by
    refine ⟨by rw [HW.out]; rfl, ?_⟩
    have hsz := HB2.out.size
    exact ⟨HB2.out.os, HB2.out.tape, HB2.out.output, by simp [World.setRow]; exact hsz, fun k hk => (setRow_other _ _ k _ (by have := HR.out; omega)).trans (HB2.out.block k hk)⟩
  exact bodyPost_ret (arr4_results _ _ (r + 1) #[.int .i64 (E + F), .int .i64 (2 * H + G), .int .i64 (E - F), .int .i64 (H - 2 * G)] rfl (bk_setRow HZ2.out) rfl) rfl hF
end Go.Proofs.YtfignfohcalcfaaGreatDoor
