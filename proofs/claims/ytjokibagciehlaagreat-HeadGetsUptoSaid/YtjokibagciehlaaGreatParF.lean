/- MaySps: the walk. -/
import Derived.Test.YtjokibagciehlaaGreatParE
import Derived.Test.YtjokibagciehlaaGreatQuiet
namespace Go.Proofs.YtjokibagciehlaaGreat
open Go.RowKit
set_option linter.unusedVariables false
set_option linter.unusedSimpArgs false

def spV (s : Sp) (A : Option Addr) (c : Nat) : Array Value := #[.int .i64 s.wide, .int .i64 s.high, .int .i64 s.fb, .int .i64 s.pt, .int .i64 s.pb, .int .i64 s.nr, .slice A s.cy.length c, .int .i64 s.refs, .int .i64 s.delay]
/-- where a sequence's cycle lies -/
def SpAt (w : World) (B : Nat) (s : Sp) (A : Option Addr) : Prop := Ri w B A s.cy.length (fun k => s.cy.getD k 0)

theorem far_cy (l : List Int) : farN (fun k => l.getD k 0) l.length = false ↔ cyOk l := by
  unfold farN cyOk
  rw [decide_eq_false_iff_not]
  constructor
  · intro h x hx
    obtain ⟨k, hk, rfl⟩ := List.getElem_of_mem hx
    by_cases q : -1000 ≤ l[k] ∧ l[k] ≤ 1000
    · exact q
    · exact absurd ⟨k, hk, by show inB (-1000) 1000 (l.getD k 0) = false; rw [List.getD_eq_getElem?_getD, List.getElem?_eq_getElem hk]; exact inB_no q⟩ h
  · rintro h ⟨k, hk, hb⟩
    have hb : inB (-1000) 1000 (l.getD k 0) = false := hb
    rw [List.getD_eq_getElem?_getD, List.getElem?_eq_getElem hk] at hb
    have := inB_yes (h l[k] (List.getElem_mem hk))
    rw [Option.getD_some] at hb
    rw [this] at hb
    cases hb
def mayF (b0 b1 b2 b3 b4 b5 b6 b7 d1 e1 e2 d0 e3 d2 e4 b8 e5 e6 : Bool) : Bool :=
  b0 && b1 && b2 && b3 && b4 && b5 && b6 && !b7 && !(d1 && (e1 || e2)) && !(d0 && e3) && !(d2 && e4) && b8 && e5 && e6
theorem maySp_f (s : Sp) : maySp s = mayF (inB 1 8 s.wide) (inB 1 8 s.high) (inB 4 8 s.fb) (inB 4 8 s.pb) (inB 0 2 s.pt) (inB (-1000) 1000 s.nr) (inB 0 4 s.cy.length) (farN (fun k => s.cy.getD k 0) s.cy.length)
    (s.pt != 1) (s.nr != 0) (decide (0 < (s.cy.length : Int))) (s.pt != 0) (s.pb != 4) (s.pt == 2) (s.delay != 0) (inB 1 8 s.refs) (decide (0 ≤ s.delay)) (decide (s.delay ≤ s.refs)) := by
  have hc := far_cy s.cy
  rw [Bool.eq_iff_iff, maySp_iff]
  unfold SpOk inB mayF
  generalize farN (fun k => s.cy.getD k 0) s.cy.length = b7 at hc ⊢
  generalize cyOk s.cy = q at hc ⊢
  simp only [Bool.and_eq_true, Bool.not_eq_true', decide_eq_true_eq, Bool.and_eq_false_iff, Bool.or_eq_false_iff, decide_eq_false_iff_not, bne_iff_ne, bne_eq_false_iff_eq, beq_eq_false_iff_ne, hc]
  constructor
  · rintro ⟨h1, h2, h3, h4, h5, h6, h7, h8, h9, h10, h11, h12, h13⟩
    refine ⟨⟨⟨⟨⟨⟨⟨⟨⟨⟨⟨⟨⟨?_, ?_⟩, ?_⟩, ?_⟩, ?_⟩, ?_⟩, ?_⟩, h8⟩, ?_⟩, ?_⟩, ?_⟩, ?_⟩, ?_⟩, ?_⟩ <;> omega
  · rintro ⟨⟨⟨⟨⟨⟨⟨⟨⟨⟨⟨⟨⟨h1, h2⟩, h3⟩, h4⟩, h5⟩, h6⟩, h7⟩, h8⟩, h9⟩, h10⟩, h11⟩, h12⟩, h13⟩, h14⟩
    refine ⟨?_, ?_, ?_, ?_, ?_, ?_, ?_, h8, ?_, ?_, ?_, ?_, ?_⟩ <;> omega

set_option maxRecDepth 100000 in
set_option maxHeartbeats 6400000 in
theorem maysp_any (s : Sp) (A : Option Addr) (c : Nat) (w : World) (hs : SpAt w w.heap.size s A) (hn : s.cy.length ≤ 1152921504606846976) :
    Calls Tryz.prog 40 #[.agg (spV s A c)] w fun e w' => e = .returned (.bool (maySp s)) ∧ Below w.heap.size w w' := by
  have hF := maySp_f s
  obtain ⟨R, hR⟩ : ∃ R, R = maySp s := ⟨_, rfl⟩
  rw [← hR] at hF ⊢
  clear hR
  obtain ⟨wide, high, fb, pt, pb, nr, cy, refs, delay⟩ := s
  unfold SpAt at hs
  simp only [spV] at *
  obtain ⟨n, hN⟩ : ∃ n, n = cy.length := ⟨_, rfl⟩
  obtain ⟨z, hz⟩ : ∃ z : Nat → Int, z = fun k => cy.getD k 0 := ⟨_, rfl⟩
  rw [← hN, ← hz] at hs hF
  rw [← hN] at hn ⊢
  clear hN hz
  obtain ⟨b0, h0⟩ : ∃ b, inB 1 8 wide = b := ⟨_, rfl⟩
  obtain ⟨b1, h1⟩ : ∃ b, inB 1 8 high = b := ⟨_, rfl⟩
  obtain ⟨b2, h2⟩ : ∃ b, inB 4 8 fb = b := ⟨_, rfl⟩
  obtain ⟨b3, h3⟩ : ∃ b, inB 4 8 pb = b := ⟨_, rfl⟩
  obtain ⟨b4, h4⟩ : ∃ b, inB 0 2 pt = b := ⟨_, rfl⟩
  obtain ⟨b5, h5⟩ : ∃ b, inB (-1000) 1000 nr = b := ⟨_, rfl⟩
  obtain ⟨b6, h6⟩ : ∃ b, inB 0 4 n = b := ⟨_, rfl⟩
  obtain ⟨b7, h7⟩ : ∃ b, farN z n = b := ⟨_, rfl⟩
  obtain ⟨d1, g1⟩ : ∃ b, (pt != 1) = b := ⟨_, rfl⟩
  obtain ⟨e1, k1⟩ : ∃ b, (nr != 0) = b := ⟨_, rfl⟩
  obtain ⟨e2, k2⟩ : ∃ b, decide (0 < (n : Int)) = b := ⟨_, rfl⟩
  obtain ⟨d0, g0⟩ : ∃ b, (pt != 0) = b := ⟨_, rfl⟩
  obtain ⟨e3, k3⟩ : ∃ b, (pb != 4) = b := ⟨_, rfl⟩
  obtain ⟨d2, g2⟩ : ∃ b, (pt == 2) = b := ⟨_, rfl⟩
  obtain ⟨e4, k4⟩ : ∃ b, (delay != 0) = b := ⟨_, rfl⟩
  obtain ⟨b8, h8⟩ : ∃ b, inB 1 8 refs = b := ⟨_, rfl⟩
  obtain ⟨e5, k5⟩ : ∃ b, decide (0 ≤ delay) = b := ⟨_, rfl⟩
  obtain ⟨e6, k6⟩ : ∃ b, decide (delay ≤ refs) = b := ⟨_, rfl⟩
  rw [h0, h1, h2, h3, h4, h5, h6, h7, g1, k1, k2, g0, k3, g2, k4, h8, k5, k6] at hF
  have HF := Lib.hid hF
  clear hF
  obtain ⟨wz, rfl⟩ : ∃ wz : World, wz = w := ⟨_, rfl⟩
  have hB0 := ((Below.refl wz.heap.size wz).alloc (Nat.le_refl _) (.cells #[.int .i64 wide, .int .i64 high, .int .i64 fb, .int .i64 pt, .int .i64 pb, .int .i64 nr, .slice A n c, .int .i64 refs, .int .i64 delay] 29)).alloc (by simp) (.cells (rg0 0 0) 145)
  have hP0 := (Bk.new wz 29 #[.int .i64 wide, .int .i64 high, .int .i64 fb, .int .i64 pt, .int .i64 pb, .int .i64 nr, .slice A n c, .int .i64 refs, .int .i64 delay]).alloc (.cells (rg0 0 0) 145)
  have hR0 := Bk.new (wz.alloc (.cells #[.int .i64 wide, .int .i64 high, .int .i64 fb, .int .i64 pt, .int .i64 pb, .int .i64 nr, .slice A n c, .int .i64 refs, .int .i64 delay] 29)) 145 (rg0 0 0)
  rw [World.size_alloc] at hR0
  have HB0 := Lib.hid hB0
  have HP0 := Lib.hid hP0
  have HR0 := Lib.hid hR0
  have HS := Lib.hid hs
  clear hB0 hP0 hR0 hs
  go_enter Tryz.func40, Tryz.ntmps40
  go_wp2_with fail
  refine (get_any (wz.heap.size + 1) _ HR0.out).mono ?_
  rintro e w0 ⟨rfl, hr, ht⟩
  have hp := HP0.out.touch ht (by omega)
  have hb := Below.touch HB0.out ht (fun i hi h => by omega) (Nat.le_refl _)
  have hb1 := hb.alloc hb.size (.cells #[.pointer (some ⟨wz.heap.size + 1, 0, none⟩)] 131)
  have hr1 := hr.alloc (.cells #[.pointer (some ⟨wz.heap.size + 1, 0, none⟩)] 131)
  have hp1 := hp.alloc (.cells #[.pointer (some ⟨wz.heap.size + 1, 0, none⟩)] 131)
  have hm1 := Bk.new w0 131 #[.pointer (some ⟨wz.heap.size + 1, 0, none⟩)]
  have hs1 := HS.out.below hb1 (Nat.le_refl _)
  obtain ⟨M, hM⟩ : ∃ M, M = w0.heap.size := ⟨_, rfl⟩
  rw [← hM] at hm1
  have HB := Lib.hid hb1
  have HR := Lib.hid hr1
  have HP := Lib.hid hp1
  have HMM := Lib.hid hm1
  have HS := Lib.hid hs1
  have HM := Lib.hid hM
  clear HR0 HP0 HB0 ht hr hp hb hb1 hr1 hp1 hm1 hs1 hM
  go_wp2_with fail
  rw [← HM.out]
  generalize w0.alloc (.cells #[.pointer (some ⟨wz.heap.size + 1, 0, none⟩)] 131) = w at HB HR HP HMM HS ⊢
  obtain ⟨N, hN⟩ : ∃ N, N = wz.heap.size := ⟨_, rfl⟩
  rw [← hN] at HR HP HMM HS ⊢
  have hN0 : N ≤ w.heap.size := by rw [hN]; exact HB.out.size
  have HN := Lib.hid hN
  clear hN HM
  have p0 := HP.out.cell 0
  have p1 := HP.out.cell 1
  have p2 := HP.out.cell 2
  have p3 := HP.out.cell 3
  have p4 := HP.out.cell 4
  have p5 := HP.out.cell 5
  have p6 := HP.out.cell 6
  have p7 := HP.out.cell 7
  have p8 := HP.out.cell 8
  have r3 := HR.out.cell 3
  have r4 := HR.out.cell 4
  have r5 := HR.out.cell 5
  have r6 := HR.out.cell 6
  have r7 := HR.out.cell 7
  have r8 := HR.out.cell 8
  have r9 := HR.out.cell 9
  have r10 := HR.out.cell 10
  have r11 := HR.out.cell 11
  have r12 := HR.out.cell 12
  have r19 := HR.out.cell 19
  have r20 := HR.out.cell 20
  have m0 := HMM.out.cell 0
  have hlp := HP.out.lt
  have hlr := HR.out.lt
  have hlm := HMM.out.lt
  simp [rgV] at p0 p1 p2 p3 p4 p5 p6 p7 p8 r3 r4 r5 r6 r7 r8 r9 r10 r11 r12 r19 r20 m0
  clear HP HR HMM
  have HCF : Hid (∀ w' : World, Below w.heap.size w w' → w'.cell? ⟨M, 0, none⟩ = some (.pointer (some ⟨N + 1, 0, none⟩)) → w'.cell? ⟨N + 1, 9, none⟩ = some (.int .i64 (-1000)) → w'.cell? ⟨N + 1, 10, none⟩ = some (.int .i64 1000) → Calls Tryz.prog 82 #[.slice A n c, .func (.func 83) #[] #[.pointer (some ⟨M, 0, none⟩)]] w' fun e w'' => e = .returned (.bool (farN z n)) ∧ Below w'.heap.size w' w'') := Lib.hid fun w' hb m r9 r10 => contains_any A n c z M (N + 1) w' ((HS.out.more hN0).below hb (Nat.le_refl _) |>.more hb.size) hn m r9 r10
  clear HS
  go_wp2_with fail
  have hh := And.intro h5 (And.intro h6 (And.intro h7 (And.intro g1 (And.intro k1 (And.intro k2 (And.intro g0 (And.intro k3 (And.intro g2 (And.intro k4 (And.intro h8 (And.intro k5 k6)))))))))))
  have HH := Lib.hid hh
  clear hh h5 h6 h7 g1 k1 k2 g0 k3 g2 k4 h8 k5 k6
  refine wp_region_class (fun w' => Below w.heap.size w w') (by kernel_rfl) (by kernel_rfl) ((Below.refl _ _).drew) ?_
  repeat (any_goals (first
    | go_big_quiet_skip
    | (go_big_quiet_want; first
        | (go_big_quiet_op; go_big_quiet_on)
        | (refine qv_val (v := ?_) ?_ ?_; rotate_left 1; (intro w' hw'; obtain ⟨hcc, hff⟩ := bcell hw'; clear hff hw'; go_simp; (try with_reducible rfl)); (try simp only [Act.put, List.setIfInBounds_toArray, List.set_cons_zero, List.set_cons_succ]); go_big_quiet_on)
        | (refine qv_call (v := ?_) (f := ?_) (args := ?_) ?_ ?_ ?_; rotate_left 3; (intro w' hw'; clear hw'; go_simp; (refine ⟨?_, ?_⟩ <;> rfl)); (first | (intro w' hw'; refine (has_in _ _ _ _).mono ?_; rintro e wh ⟨rfl, hbh⟩; refine ⟨?_, Below.trans hw' (hbh.mono hw'.size)⟩; simp only [h0, h1, h2, h3, h4]; rfl)); (try simp only [Act.put, List.setIfInBounds_toArray, List.set_cons_zero, List.set_cons_succ]); go_big_quiet_on))
    | (fail_if_success (with_reducible refine wpQuiet_nil ?_)); first | (cases b0 <;> (try simp only [Bool.not_true, Bool.not_false])) | (cases b1 <;> (try simp only [Bool.not_true, Bool.not_false])) | (cases b2 <;> (try simp only [Bool.not_true, Bool.not_false])) | (cases b3 <;> (try simp only [Bool.not_true, Bool.not_false])) | (cases b4 <;> (try simp only [Bool.not_true, Bool.not_false]))))
  all_goals (with_reducible refine wpQuiet_nil ?_)
  all_goals (intro w1 hw)
  all_goals (have HB1 := Lib.hid (HB.out.trans (hw.mono HB.out.size)))
  all_goals (cases b4 <;> (try simp only [Bool.not_true, Bool.not_false]))
  all_goals (go_wp2_with fail)
  all_goals (try (go_ret; exact ⟨(ret_bool HF.out).symm, HB1.out⟩))
  clear h0 h1 h2 h3 h4 HB1
  obtain ⟨h5, h6, h7, hh⟩ := HH.out
  have HH2 := Lib.hid hh
  clear hh HH
  refine wp_region_class (fun w' => Below w.heap.size w w') (by kernel_rfl) (by kernel_rfl) (hw.drew) ?_
  repeat (any_goals (first
    | go_big_quiet_skip
    | (go_big_quiet_want; first
        | (go_big_quiet_op; go_big_quiet_on)
        | (refine qv_val (v := ?_) ?_ ?_; rotate_left 1; (intro w' hw'; obtain ⟨hcc, hff⟩ := bcell hw'; clear hff hw'; go_simp; (try with_reducible rfl)); (try simp only [Act.put, List.setIfInBounds_toArray, List.set_cons_zero, List.set_cons_succ]); go_big_quiet_on)
        | (refine qv_call (v := ?_) (f := ?_) (args := ?_) ?_ ?_ ?_; rotate_left 3; (intro w' hw'; clear hw'; go_simp; (refine ⟨?_, ?_⟩ <;> rfl)); (first | (intro w' hw'; refine (has_in _ _ _ _).mono ?_; rintro e wh ⟨rfl, hbh⟩; refine ⟨?_, Below.trans hw' (hbh.mono hw'.size)⟩; simp only [h5, h6]; rfl) | (intro w' hw'; refine (HCF.out w' hw' (by have := (bcell hw').1 M 0 hlm; rw [this]; exact m0) (by have := (bcell hw').1 (N + 1) 9 hlr; rw [this]; exact r9) (by have := (bcell hw').1 (N + 1) 10 hlr; rw [this]; exact r10)).mono ?_; rintro e wh ⟨rfl, hbh⟩; refine ⟨?_, Below.trans hw' (hbh.mono hw'.size)⟩; simp only [h7]; rfl)); (try simp only [Act.put, List.setIfInBounds_toArray, List.set_cons_zero, List.set_cons_succ]); go_big_quiet_on))
    | (fail_if_success (with_reducible refine wpQuiet_nil ?_)); first | (cases b5 <;> (try simp only [Bool.not_true, Bool.not_false])) | (cases b6 <;> (try simp only [Bool.not_true, Bool.not_false])) | (cases b7 <;> (try simp only [Bool.not_true, Bool.not_false]))))
  all_goals (with_reducible refine wpQuiet_nil ?_)
  all_goals (intro w2 hw2)
  all_goals (have HB2 := Lib.hid (HB.out.trans (hw2.mono HB.out.size)))
  all_goals (cases b7 <;> (try simp only [Bool.not_true, Bool.not_false]))
  all_goals (try (go_wp2_with fail; go_ret; exact ⟨(ret_bool HF.out).symm, HB2.out⟩))
  clear h5 h6 h7 HB2 HCF r3 r4 r6 r7 r8 r9 r10 r19 r20 p0 p1 p2
  obtain ⟨g1, k1, k2, g0, k3, g2, k4, h8, k5, k6⟩ := HH2.out
  clear HH2
  have k2n : decide (0 < n) = e2 := by rw [← k2]; simp
  have hc7 : d0 = false ∨ (d0 = true ∧ e3 = true) ∨ (d0 = true ∧ e3 = false) := by cases d0 <;> cases e3 <;> simp
  have hc8 : d2 = false ∨ (d2 = true ∧ e4 = true) ∨ (d2 = true ∧ e4 = false) := by cases d2 <;> cases e4 <;> simp
  have hc : d1 = false ∨ (d1 = true ∧ e1 = true) ∨ (d1 = true ∧ e1 = false ∧ e2 = true) ∨ (d1 = true ∧ e1 = false ∧ e2 = false) := by cases d1 <;> cases e1 <;> cases e2 <;> simp
  rcases hc with rfl | ⟨rfl, rfl⟩ | ⟨rfl, rfl, rfl⟩ | ⟨rfl, rfl, rfl⟩
  all_goals (obtain ⟨hcc, hff⟩ := bcell hw2)
  all_goals (have HB2 := Lib.hid (HB.out.trans (hw2.mono HB.out.size)))
  all_goals (go_wp2_with fail)
  all_goals (try (go_ret; exact ⟨(ret_bool HF.out).symm, HB2.out⟩))
  all_goals (clear hcc hff HB2 g1 k1 k2 k2n)
  all_goals (rcases hc7 with rfl | ⟨rfl, rfl⟩ | ⟨rfl, rfl⟩)
  all_goals
    refine wp_region_class (fun w' => Below w.heap.size w w') (by kernel_rfl) (by kernel_rfl) (hw2.drew) ?_
    repeat (first
      | go_big_quiet_skip
      | (go_big_quiet_want; first
          | (go_big_quiet_op; go_big_quiet_on)
          | (refine qv_val (v := ?_) ?_ ?_; rotate_left 1; (intro w' hw'; obtain ⟨hcc, hff⟩ := bcell hw'; clear hff hw'; go_simp; (try with_reducible rfl)); (try simp only [Act.put, List.setIfInBounds_toArray, List.set_cons_zero, List.set_cons_succ]); go_big_quiet_on)
          | (refine qv_call (v := ?_) (f := ?_) (args := ?_) ?_ ?_ ?_; rotate_left 3; (intro w' hw'; clear hw'; go_simp; (refine ⟨?_, ?_⟩ <;> rfl)); (first | fail); (try simp only [Act.put, List.setIfInBounds_toArray, List.set_cons_zero, List.set_cons_succ]); go_big_quiet_on)))
    with_reducible refine wpQuiet_nil ?_
    intro w3 hw3
    obtain ⟨hcc, hff⟩ := bcell hw3
    have HB3 := Lib.hid (HB.out.trans (hw3.mono HB.out.size))
    go_upto_region 8 with (fail)
    all_goals (try (go_ret; exact ⟨(ret_bool HF.out).symm, HB3.out⟩))
  all_goals (rcases hc8 with rfl | ⟨rfl, rfl⟩ | ⟨rfl, rfl⟩)
  all_goals (go_wp2_with fail)
  all_goals (try (go_ret; exact ⟨(ret_bool HF.out).symm, HB3.out⟩))
  all_goals (clear hcc hff HB3 g2 k4)
  all_goals
    refine wp_region_class (fun w' => Below w.heap.size w w') (by kernel_rfl) (by kernel_rfl) (hw3.drew) ?_
    repeat (any_goals (first
      | go_big_quiet_skip
      | (go_big_quiet_want; first
          | (go_big_quiet_op; go_big_quiet_on)
          | (refine qv_val (v := ?_) ?_ ?_; rotate_left 1; (intro w' hw'; obtain ⟨hcc, hff⟩ := bcell hw'; clear hff hw'; go_simp; (try with_reducible rfl)); (try simp only [Act.put, List.setIfInBounds_toArray, List.set_cons_zero, List.set_cons_succ]); go_big_quiet_on)
          | (refine qv_call (v := ?_) (f := ?_) (args := ?_) ?_ ?_ ?_; rotate_left 3; (intro w' hw'; clear hw'; go_simp; (refine ⟨?_, ?_⟩ <;> rfl)); (first | (intro w' hw'; refine (has_in _ _ _ _).mono ?_; rintro e wh ⟨rfl, hbh⟩; refine ⟨?_, Below.trans hw' (hbh.mono hw'.size)⟩; simp only [h8]; rfl)); (try simp only [Act.put, List.setIfInBounds_toArray, List.set_cons_zero, List.set_cons_succ]); go_big_quiet_on))
      | (fail_if_success (with_reducible refine wpQuiet_nil ?_)); first | (cases b8 <;> (try simp only [Bool.not_true, Bool.not_false])) | (cases e5 <;> (try simp only [Bool.not_true, Bool.not_false])) | (cases e6 <;> (try simp only [Bool.not_true, Bool.not_false]))))
    all_goals (with_reducible refine wpQuiet_nil ?_)
    all_goals (intro w4 hw4)
    all_goals (have HB4 := Lib.hid (HB.out.trans (hw4.mono HB.out.size)))
    all_goals (cases e6)
    all_goals (go_wp2_with fail; go_ret; exact ⟨(ret_bool HF.out).symm, HB4.out⟩)
end Go.Proofs.YtjokibagciehlaaGreat
