/- mayLists. Printed by gen-hedl.py. -/
import Derived.Test.YtjokibagciehlaaGreatHedC
import Derived.Test.YtjokibagciehlaaGreatHedD
namespace Go.Proofs.YtjokibagciehlaaGreat
open Go.RowKit
set_option linter.unusedVariables false
set_option linter.unusedSimpArgs false

/-- where a header's rows lie -/
structure Ha where
  m0 : Option Addr
  cm0 : Nat
  m1 : Option Addr
  cm1 : Nat
  w0 : Option Addr
  cw0 : Nat
  w1 : Option Addr
  cw1 : Nat
  ops : Option Addr
  cops : Nat
def hdV (h : Hd) (q : Ha) : Array Value := #[.int .i64 h.first, .int .i64 h.count, .int .i64 h.type, .int .i64 h.fn, .int .i64 h.id, .int .i64 h.poc, .bool h.spatial, .int .i64 h.a0, .int .i64 h.a1, .slice q.m0 (h.m0).length q.cm0, .slice q.m1 (h.m1).length q.cm1, .int .i64 h.log, .int .i64 h.logC, .slice q.w0 (h.w0).length q.cw0, .slice q.w1 (h.w1).length q.cw1, .bool h.longKey, .slice q.ops (h.ops).length q.cops, .int .i64 h.qp, .bool h.off, .int .i64 h.a, .int .i64 h.b]
structure HdAt (w : World) (B : Nat) (h : Hd) (q : Ha) : Prop where
  m0 : RwAt w B q.m0 2 mdF h.m0
  m1 : RwAt w B q.m1 2 mdF h.m1
  w0 : RwAt w B q.w0 6 wtF h.w0
  w1 : RwAt w B q.w1 6 wtF h.w1
  ops : RwAt w B q.ops 3 moF h.ops
structure HdLen (h : Hd) : Prop where
  m0 : h.m0.length ≤ 281474976710656
  m1 : h.m1.length ≤ 281474976710656
  w0 : h.w0.length ≤ 281474976710656
  w1 : h.w1.length ≤ 281474976710656
  ops : h.ops.length ≤ 281474976710656
theorem HdAt.go {w w' : World} {h : Hd} {q : Ha} (H : HdAt w w.heap.size h q) (hb : Below w.heap.size w w') : HdAt w' w'.heap.size h q := ⟨H.m0.go hb, H.m1.go hb, H.w0.go hb, H.w1.go hb, H.ops.go hb⟩
theorem HdAt.past {w : World} {h : Hd} {q : Ha} (H : HdAt w w.heap.size h q) (o : Obj) : HdAt (w.alloc o) (w.alloc o).heap.size h q := H.go ((Below.refl _ _).alloc (Nat.le_refl _) o)

set_option maxRecDepth 100000 in
theorem act_any (x : Int) (is : Bool) (w : World) : Calls Tryz.prog 84 #[.int .i64 x, .bool is] w fun e w' => e = .returned (.bool (actB x is)) ∧ w = w' := by
  obtain ⟨b, hb⟩ : ∃ b, inR 1 8 x = b := ⟨_, rfl⟩
  obtain ⟨z, hz⟩ : ∃ b, (x == 0) = b := ⟨_, rfl⟩
  have HF := Lib.hid (show actB x is = (is && b || !is && z) by unfold actB; rw [hb, hz])
  have HI := Lib.hid (fun w => hb ▸ hin_any x 1 8 w)
  clear hb
  cases is
  · cases z
    all_goals
      go_enter Tryz.func84, Tryz.ntmps84
      go_wp2_with (go_at_call 42; refine (HI.out _).mono ?_; rintro e w' ⟨rfl, rfl⟩)
      go_ret
      refine ⟨?_, rfl⟩
      rw [HF.out]
      cases b <;> rfl
  · have hz := hz
    cases b
    · cases z
      all_goals
        go_enter Tryz.func84, Tryz.ntmps84
        go_wp2_with (go_at_call 42; refine (HI.out _).mono ?_; rintro e w' ⟨rfl, rfl⟩)
        go_ret
        exact ⟨by rw [HF.out]; rfl, rfl⟩
    · go_enter Tryz.func84, Tryz.ntmps84
      go_wp2_with (go_at_call 42; refine (HI.out _).mono ?_; rintro e w' ⟨rfl, rfl⟩)
      go_ret
      exact ⟨by rw [HF.out]; rfl, rfl⟩
set_option maxRecDepth 100000 in
set_option maxHeartbeats 12800000 in
theorem mayls_any (h : Hd) (q : Ha) (p : Pp) (w : World) (H : HdAt w w.heap.size h q) (L : HdLen h) :
    Calls Tryz.prog 43 #[.agg (hdV h q), .agg (ppV p)] w fun e w' => e = .returned (.bool (mayLs h p)) ∧ Below w.heap.size w w' := by
  have hF : mayLs h p = (actB h.a0 (h.type != 2) && actB h.a1 (h.type == 1) && mayMds h.m0 (h.type != 2) && mayMds h.m1 (h.type == 1) && (if wgt h.type p then inR 0 7 h.log && inR 0 7 h.logC && mayWts h.w0 h.a0 && mayWts h.w1 h.a1 else h.log == 0 && h.logC == 0 && decide (h.w0.length + h.w1.length = 0))) := rfl
  have C0 := fun w => act_any h.a0 (h.type != 2) w
  have C1 := fun w => act_any h.a1 (h.type == 1) w
  have C2 := fun w hl => maymds_any h.m0 (h.type != 2) q.m0 q.cm0 w hl (by have := L.m0; omega)
  have C3 := fun w hl => maymds_any h.m1 (h.type == 1) q.m1 q.cm1 w hl (by have := L.m1; omega)
  have C4 := fun w => wgt_any h.type p w
  have C5 := fun w => hin_any h.log 0 7 w
  have C6 := fun w => hin_any h.logC 0 7 w
  have C7 := fun w hl => maywts_any h.w0 h.a0 q.w0 q.cw0 w hl (by have := L.w0; omega)
  have C8 := fun w hl => maywts_any h.w1 h.a1 q.w1 q.cw1 w hl (by have := L.w1; omega)
  have hl0 := L.w0
  have hl1 := L.w1
  obtain ⟨v0, hv0⟩ : ∃ b, actB h.a0 (h.type != 2) = b := ⟨_, rfl⟩
  obtain ⟨v1, hv1⟩ : ∃ b, actB h.a1 (h.type == 1) = b := ⟨_, rfl⟩
  obtain ⟨v2, hv2⟩ : ∃ b, mayMds h.m0 (h.type != 2) = b := ⟨_, rfl⟩
  obtain ⟨v3, hv3⟩ : ∃ b, mayMds h.m1 (h.type == 1) = b := ⟨_, rfl⟩
  obtain ⟨wg, hwg⟩ : ∃ b, wgt h.type p = b := ⟨_, rfl⟩
  obtain ⟨i0, hi0⟩ : ∃ b, inR 0 7 h.log = b := ⟨_, rfl⟩
  obtain ⟨i1, hi1⟩ : ∃ b, inR 0 7 h.logC = b := ⟨_, rfl⟩
  obtain ⟨j0, hj0⟩ : ∃ b, mayWts h.w0 h.a0 = b := ⟨_, rfl⟩
  obtain ⟨j1, hj1⟩ : ∃ b, mayWts h.w1 h.a1 = b := ⟨_, rfl⟩
  obtain ⟨e0, he0⟩ : ∃ b, (h.log == 0) = b := ⟨_, rfl⟩
  obtain ⟨e1, he1⟩ : ∃ b, (h.logC == 0) = b := ⟨_, rfl⟩
  obtain ⟨t1, ht1⟩ : ∃ b, (h.type == 1) = b := ⟨_, rfl⟩
  obtain ⟨n2, hn2⟩ : ∃ b, (h.type != 2) = b := ⟨_, rfl⟩
  rw [hv0, hv1, hv2, hv3, hwg, hi0, hi1, hj0, hj1, he0, he1] at hF
  simp only [hv0, hv1, hv2, hv3, hwg, hi0, hi1, hj0, hj1] at C0 C1 C2 C3 C4 C5 C6 C7 C8
  simp only [ht1, hn2] at C0 C1 C2 C3
  have hb0 := ((Below.refl w.heap.size w).alloc (Nat.le_refl _) (.cells (hdV h q) 26)).alloc (by simp) (.cells (ppV p) 31)
  have k1 := (Bk.new w 26 (hdV h q)).alloc (.cells (ppV p) 31)
  have k2 := Bk.new (w.alloc (.cells (hdV h q) 26)) 31 (ppV p)
  rw [World.size_alloc] at k2
  have HH0 := (H.past (.cells (hdV h q) 26)).past (.cells (ppV p) 31)
  obtain ⟨first, count, type, fn, id, poc, spatial, a0, a1, m0, m1, log, logC, w0, w1, longKey, ops, qp, off, a, b⟩ := h
  obtain ⟨p0, p1, p2, p3, p4, p5, p6, p7, p8⟩ := p
  simp only [hdV, ppV] at *
  have HF := Lib.hid hF
  have HB := Lib.hid hb0
  have K1 := Lib.hid k1
  have K2 := Lib.hid k2
  have HH := Lib.hid HH0
  have D0 := Lib.hid C0
  have D1 := Lib.hid C1
  have D2 := Lib.hid C2
  have D3 := Lib.hid C3
  have D4 := Lib.hid C4
  have D5 := Lib.hid C5
  have D6 := Lib.hid C6
  have D7 := Lib.hid C7
  have D8 := Lib.hid C8
  have HE := Lib.hid (And.intro he0 he1)
  clear hF hb0 k1 k2 HH0 H L C0 C1 C2 C3 C4 C5 C6 C7 C8 hv0 hv1 hv2 hv3 hwg hi0 hi1 hj0 hj1 he0 he1
  go_enter Tryz.func43, Tryz.ntmps43
  go_wp2_with fail
  go_quiet (fail)
  obtain ⟨wz, hwz⟩ : ∃ wz, wz = ((w.alloc (.cells #[.int .i64 first, .int .i64 count, .int .i64 type, .int .i64 fn, .int .i64 id, .int .i64 poc, .bool spatial, .int .i64 a0, .int .i64 a1, .slice q.m0 (m0).length q.cm0, .slice q.m1 (m1).length q.cm1, .int .i64 log, .int .i64 logC, .slice q.w0 (w0).length q.cw0, .slice q.w1 (w1).length q.cw1, .bool longKey, .slice q.ops (ops).length q.cops, .int .i64 qp, .bool off, .int .i64 a, .int .i64 b] 26)).alloc (.cells #[.bool p0, .bool p1, .int .i64 p2, .int .i64 p3, .int .i64 p4, .bool p5, .bool p6, .int .i64 p7, .int .i64 p8] 31)).drewN nq := ⟨_, rfl⟩
  have hd : Below ((w.alloc (.cells #[.int .i64 first, .int .i64 count, .int .i64 type, .int .i64 fn, .int .i64 id, .int .i64 poc, .bool spatial, .int .i64 a0, .int .i64 a1, .slice q.m0 (m0).length q.cm0, .slice q.m1 (m1).length q.cm1, .int .i64 log, .int .i64 logC, .slice q.w0 (w0).length q.cw0, .slice q.w1 (w1).length q.cw1, .bool longKey, .slice q.ops (ops).length q.cops, .int .i64 qp, .bool off, .int .i64 a, .int .i64 b] 26)).alloc (.cells #[.bool p0, .bool p1, .int .i64 p2, .int .i64 p3, .int .i64 p4, .bool p5, .bool p6, .int .i64 p7, .int .i64 p8] 31)).heap.size ((w.alloc (.cells #[.int .i64 first, .int .i64 count, .int .i64 type, .int .i64 fn, .int .i64 id, .int .i64 poc, .bool spatial, .int .i64 a0, .int .i64 a1, .slice q.m0 (m0).length q.cm0, .slice q.m1 (m1).length q.cm1, .int .i64 log, .int .i64 logC, .slice q.w0 (w0).length q.cw0, .slice q.w1 (w1).length q.cw1, .bool longKey, .slice q.ops (ops).length q.cops, .int .i64 qp, .bool off, .int .i64 a, .int .i64 b] 26)).alloc (.cells #[.bool p0, .bool p1, .int .i64 p2, .int .i64 p3, .int .i64 p4, .bool p5, .bool p6, .int .i64 p7, .int .i64 p8] 31)) wz := by
    have hq := Below.refl ((w.alloc (.cells #[.int .i64 first, .int .i64 count, .int .i64 type, .int .i64 fn, .int .i64 id, .int .i64 poc, .bool spatial, .int .i64 a0, .int .i64 a1, .slice q.m0 (m0).length q.cm0, .slice q.m1 (m1).length q.cm1, .int .i64 log, .int .i64 logC, .slice q.w0 (w0).length q.cw0, .slice q.w1 (w1).length q.cw1, .bool longKey, .slice q.ops (ops).length q.cops, .int .i64 qp, .bool off, .int .i64 a, .int .i64 b] 26)).alloc (.cells #[.bool p0, .bool p1, .int .i64 p2, .int .i64 p3, .int .i64 p4, .bool p5, .bool p6, .int .i64 p7, .int .i64 p8] 31)).heap.size ((w.alloc (.cells #[.int .i64 first, .int .i64 count, .int .i64 type, .int .i64 fn, .int .i64 id, .int .i64 poc, .bool spatial, .int .i64 a0, .int .i64 a1, .slice q.m0 (m0).length q.cm0, .slice q.m1 (m1).length q.cm1, .int .i64 log, .int .i64 logC, .slice q.w0 (w0).length q.cw0, .slice q.w1 (w1).length q.cw1, .bool longKey, .slice q.ops (ops).length q.cops, .int .i64 qp, .bool off, .int .i64 a, .int .i64 b] 26)).alloc (.cells #[.bool p0, .bool p1, .int .i64 p2, .int .i64 p3, .int .i64 p4, .bool p5, .bool p6, .int .i64 p7, .int .i64 p8] 31))
    rw [hwz]
    exact ⟨hq.os, hq.tape, hq.output, hq.size, hq.block⟩
  rw [← hwz]
  clear hwz
  replace K1 := Lib.hid (K1.out.go hd)
  replace K2 := Lib.hid (K2.out.go hd)
  replace HH := Lib.hid (HH.out.go hd)
  replace HB := Lib.hid (HB.out.trans (hd.mono HB.out.size))
  clear hd
  have c7 := K1.out.cell 7
  have c8 := K1.out.cell 8
  have c9 := K1.out.cell 9
  simp at c7 c8 c9
  cases v0
  · skip
    go_wp2_with (go_at_call 84; first | (with_reducible refine (D0.out _).mono ?_; rintro e w' ⟨rfl, rfl⟩) | (with_reducible refine (D1.out _).mono ?_; rintro e w' ⟨rfl, rfl⟩))
    go_ret
    refine ⟨?_, HB.out⟩
    rw [HF.out]
    simp only [Bool.false_and, Bool.true_and, Bool.and_false, Bool.and_true, if_true, if_false, Bool.false_eq_true]
    first | rfl | (simp; done)
  · skip
    cases v1
    · skip
      go_wp2_with (go_at_call 84; first | (with_reducible refine (D0.out _).mono ?_; rintro e w' ⟨rfl, rfl⟩) | (with_reducible refine (D1.out _).mono ?_; rintro e w' ⟨rfl, rfl⟩))
      go_ret
      refine ⟨?_, HB.out⟩
      rw [HF.out]
      simp only [Bool.false_and, Bool.true_and, Bool.and_false, Bool.and_true, if_true, if_false, Bool.false_eq_true]
      first | rfl | (simp; done)
    · skip
      go_wp2_with (go_at_call 84; first | (with_reducible refine (D0.out _).mono ?_; rintro e w' ⟨rfl, rfl⟩) | (with_reducible refine (D1.out _).mono ?_; rintro e w' ⟨rfl, rfl⟩))
      clear c7 c8 c9
      refine (D2.out _ HH.out.m0).mono ?_
      rintro e wa ⟨rfl, hb⟩
      replace K1 := Lib.hid (K1.out.go hb)
      replace K2 := Lib.hid (K2.out.go hb)
      replace HH := Lib.hid (HH.out.go hb)
      replace HB := Lib.hid (HB.out.trans (hb.mono HB.out.size))
      clear hb
      have c10 := K1.out.cell 10
      simp at c10
      cases v2
      · skip
        go_wp2_with fail
        go_ret
        refine ⟨?_, HB.out⟩
        rw [HF.out]
        simp only [Bool.false_and, Bool.true_and, Bool.and_false, Bool.and_true, if_true, if_false, Bool.false_eq_true]
        first | rfl | (simp; done)
      · skip
        go_wp2_with fail
        clear c10
        refine (D3.out _ HH.out.m1).mono ?_
        rintro e wb ⟨rfl, hb⟩
        replace K1 := Lib.hid (K1.out.go hb)
        replace K2 := Lib.hid (K2.out.go hb)
        replace HH := Lib.hid (HH.out.go hb)
        replace HB := Lib.hid (HB.out.trans (hb.mono HB.out.size))
        clear hb
        have c2 := K1.out.cell 2
        simp at c2
        have g0 := K2.out.cell 0
        have g1 := K2.out.cell 1
        have g2 := K2.out.cell 2
        have g3 := K2.out.cell 3
        have g4 := K2.out.cell 4
        have g5 := K2.out.cell 5
        have g6 := K2.out.cell 6
        have g7 := K2.out.cell 7
        have g8 := K2.out.cell 8
        simp at g0 g1 g2 g3 g4 g5 g6 g7 g8
        cases v3
        · skip
          go_wp2_with fail
          go_ret
          refine ⟨?_, HB.out⟩
          rw [HF.out]
          simp only [Bool.false_and, Bool.true_and, Bool.and_false, Bool.and_true, if_true, if_false, Bool.false_eq_true]
          first | rfl | (simp; done)
        · skip
          go_wp2_with fail
          clear c2 g0 g1 g2 g3 g4 g5 g6 g7 g8
          refine (D4.out _).mono ?_
          rintro e wc ⟨rfl, hb⟩
          replace K1 := Lib.hid (K1.out.go hb)
          replace K2 := Lib.hid (K2.out.go hb)
          replace HH := Lib.hid (HH.out.go hb)
          replace HB := Lib.hid (HB.out.trans (hb.mono HB.out.size))
          clear hb
          cases wg
          · obtain ⟨he0, he1⟩ := HE.out
            have c11 := K1.out.cell 11
            have c12 := K1.out.cell 12
            have c13 := K1.out.cell 13
            have c14 := K1.out.cell 14
            simp at c11 c12 c13 c14
            have hl0' : (w0.length : Int) ≤ 281474976710656 := by omega
            have hl1' : (w1.length : Int) ≤ 281474976710656 := by omega
            have hp0 : (0 : Int) ≤ (w0.length : Int) := Int.natCast_nonneg _
            have hp1 : (0 : Int) ≤ (w1.length : Int) := Int.natCast_nonneg _
            cases e0
            · skip
              go_wp2_with fail
              go_ret
              refine ⟨?_, HB.out⟩
              rw [HF.out]
              simp only [Bool.false_and, Bool.true_and, Bool.and_false, Bool.and_true, if_true, if_false, Bool.false_eq_true]
              first | rfl | (simp; done)
            · skip
              cases e1
              · skip
                go_wp2_with fail
                go_ret
                refine ⟨?_, HB.out⟩
                rw [HF.out]
                simp only [Bool.false_and, Bool.true_and, Bool.and_false, Bool.and_true, if_true, if_false, Bool.false_eq_true]
                first | rfl | (simp; done)
              · skip
                obtain ⟨z, hz⟩ : ∃ z, ((w0.length : Int) + (w1.length : Int) == 0) = z := ⟨_, rfl⟩
                have hzz : decide (w0.length + w1.length = 0) = z := by
                  rw [← hz]
                  by_cases q : w0.length + w1.length = 0
                  · rw [decide_eq_true q]; symm; rw [beq_iff_eq]; omega
                  · rw [decide_eq_false q]; symm; rw [beq_eq_false_iff_ne]; omega
                have HZ := Lib.hid hzz
                clear hzz
                cases z
                all_goals
                  go_wp2_with fail
                  go_ret
                  refine ⟨?_, HB.out⟩
                  rw [HF.out, HZ.out]
                  rfl
          · skip
            have c11 := K1.out.cell 11
            have c12 := K1.out.cell 12
            have c13 := K1.out.cell 13
            have c7 := K1.out.cell 7
            simp at c11 c12 c13 c7
            cases i0
            · skip
              go_wp2_with (go_at_call 42; first | (with_reducible refine (D5.out _).mono ?_; rintro e w' ⟨rfl, rfl⟩) | (with_reducible refine (D6.out _).mono ?_; rintro e w' ⟨rfl, rfl⟩))
              go_ret
              refine ⟨?_, HB.out⟩
              rw [HF.out]
              simp only [Bool.false_and, Bool.true_and, Bool.and_false, Bool.and_true, if_true, if_false, Bool.false_eq_true]
              first | rfl | (simp; done)
            · skip
              cases i1
              · skip
                go_wp2_with (go_at_call 42; first | (with_reducible refine (D5.out _).mono ?_; rintro e w' ⟨rfl, rfl⟩) | (with_reducible refine (D6.out _).mono ?_; rintro e w' ⟨rfl, rfl⟩))
                go_ret
                refine ⟨?_, HB.out⟩
                rw [HF.out]
                simp only [Bool.false_and, Bool.true_and, Bool.and_false, Bool.and_true, if_true, if_false, Bool.false_eq_true]
                first | rfl | (simp; done)
              · skip
                go_wp2_with (go_at_call 42; first | (with_reducible refine (D5.out _).mono ?_; rintro e w' ⟨rfl, rfl⟩) | (with_reducible refine (D6.out _).mono ?_; rintro e w' ⟨rfl, rfl⟩))
                clear c11 c12 c13 c7
                refine (D7.out _ HH.out.w0).mono ?_
                rintro e wd ⟨rfl, hb⟩
                replace K1 := Lib.hid (K1.out.go hb)
                replace K2 := Lib.hid (K2.out.go hb)
                replace HH := Lib.hid (HH.out.go hb)
                replace HB := Lib.hid (HB.out.trans (hb.mono HB.out.size))
                clear hb
                have c14 := K1.out.cell 14
                have c8 := K1.out.cell 8
                simp at c14 c8
                cases j0
                · skip
                  go_wp2_with fail
                  go_ret
                  refine ⟨?_, HB.out⟩
                  rw [HF.out]
                  simp only [Bool.false_and, Bool.true_and, Bool.and_false, Bool.and_true, if_true, if_false, Bool.false_eq_true]
                  first | rfl | (simp; done)
                · skip
                  go_wp2_with fail
                  clear c14 c8
                  refine (D8.out _ HH.out.w1).mono ?_
                  rintro e we ⟨rfl, hb⟩
                  replace K1 := Lib.hid (K1.out.go hb)
                  replace K2 := Lib.hid (K2.out.go hb)
                  replace HH := Lib.hid (HH.out.go hb)
                  replace HB := Lib.hid (HB.out.trans (hb.mono HB.out.size))
                  clear hb
                  go_wp2_with fail
                  go_ret
                  refine ⟨?_, HB.out⟩
                  rw [HF.out]
                  simp
end Go.Proofs.YtjokibagciehlaaGreat
