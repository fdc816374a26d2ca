/- The document's May, way D. Printed by gen-dodb.py. -/
import Derived.Test.YtjokibagciehlaaGreatDodB
namespace Go.Proofs.YtjokibagciehlaaGreat
open Go.RowKit
set_option linter.unusedVariables false
set_option linter.unusedSimpArgs false

set_option maxRecDepth 100000 in
set_option maxHeartbeats 25600000 in
theorem may2_D (h : Hd) (q : Ha) (s : Sp) (A : Option Addr) (c : Nat) (p : Pp) (ref : Int) (key : Bool) (w : World) (H : HdAt w w.heap.size h q) (L : HdLen h) (hs : SpAt w w.heap.size s A) (hn : s.cy.length ≤ 1152921504606846976) (hm2a : m2a h s p ref = true) (hm2b : m2b h s key = true) (hm2c : m2c h s = true) (hm2d : m2d h = false) :
  Calls Tryz.prog 12 #[.agg (hdV h q), .agg (spV s A c), .agg (ppV p), .int .i64 ref, .bool key] w fun e w' => e = .returned (.bool (may2 h s p ref key)) ∧ Below w.heap.size w w' := by
 have HM := Lib.hid (MayAt.start (c := c) (p := p) H hs)
 obtain ⟨b0, hb0⟩ : ∃ b, maySp s = b := ⟨_, rfl⟩
 obtain ⟨b1, hb1⟩ : ∃ b, mayPp p = b := ⟨_, rfl⟩
 obtain ⟨b2, hb2⟩ : ∃ b, inR 0 3 ref = b := ⟨_, rfl⟩
 obtain ⟨b3, hb3⟩ : ∃ b, inR 0 (s.wide * s.high - 1) h.first = b := ⟨_, rfl⟩
 obtain ⟨b4, hb4⟩ : ∃ b, inR 1 (s.wide * s.high - h.first) h.count = b := ⟨_, rfl⟩
 obtain ⟨b5, hb5⟩ : ∃ b, inR 0 2 h.type = b := ⟨_, rfl⟩
 obtain ⟨b6, hb6⟩ : ∃ b, inR 0 (2 ^ s.fb.toNat - 1) h.fn = b := ⟨_, rfl⟩
 obtain ⟨b7, hb7⟩ : ∃ b, inR 0 255 h.id = b := ⟨_, rfl⟩
 obtain ⟨b8, hb8⟩ : ∃ b, inR 0 (2 ^ s.pb.toNat - 1) h.poc = b := ⟨_, rfl⟩
 obtain ⟨z1, hz1⟩ : ∃ b, (h.fn == 0) = b := ⟨_, rfl⟩
 obtain ⟨z2, hz2⟩ : ∃ b, (h.id == 0) = b := ⟨_, rfl⟩
 obtain ⟨z3, hz3⟩ : ∃ b, (s.pt == 0) = b := ⟨_, rfl⟩
 obtain ⟨z4, hz4⟩ : ∃ b, (h.poc == 0) = b := ⟨_, rfl⟩
 obtain ⟨t2, ht2⟩ : ∃ b, (h.type == 2) = b := ⟨_, rfl⟩
 obtain ⟨t1, ht1⟩ : ∃ b, (h.type == 1) = b := ⟨_, rfl⟩
 obtain ⟨n2, hn2⟩ : ∃ b, (h.type != 2) = b := ⟨_, rfl⟩
 obtain ⟨b13, hb13⟩ : ∃ b, inR 0 7 h.log = b := ⟨_, rfl⟩
 obtain ⟨b14, hb14⟩ : ∃ b, inR 0 7 h.logC = b := ⟨_, rfl⟩
 obtain ⟨z5, hz5⟩ : ∃ b, (h.log == 0) = b := ⟨_, rfl⟩
 obtain ⟨z6, hz6⟩ : ∃ b, (h.logC == 0) = b := ⟨_, rfl⟩
 obtain ⟨z7, hz7⟩ : ∃ b, ((h.w0.length : Int) == 0) = b := ⟨_, rfl⟩
 obtain ⟨z8, hz8⟩ : ∃ b, ((h.w1.length : Int) == 0) = b := ⟨_, rfl⟩
 obtain ⟨r0, hr0⟩ : ∃ b, decide (0 < ref) = b := ⟨_, rfl⟩
 obtain ⟨z9, hz9⟩ : ∃ b, ((h.ops.length : Int) == 0) = b := ⟨_, rfl⟩
 obtain ⟨b18, hb18⟩ : ∃ b, inR 0 51 h.qp = b := ⟨_, rfl⟩
 obtain ⟨b19, hb19⟩ : ∃ b, inR (-6) 6 h.a = b := ⟨_, rfl⟩
 obtain ⟨b20, hb20⟩ : ∃ b, inR (-6) 6 h.b = b := ⟨_, rfl⟩
 obtain ⟨z10, hz10⟩ : ∃ b, (h.a == 0) = b := ⟨_, rfl⟩
 obtain ⟨z11, hz11⟩ : ∃ b, (h.b == 0) = b := ⟨_, rfl⟩
 obtain ⟨wg, hwg⟩ : ∃ b, wgt h.type p = b := ⟨_, rfl⟩
 obtain ⟨b17, hb17⟩ : ∃ b, mayMos h.ops = b := ⟨_, rfl⟩
 obtain ⟨b15, hb15⟩ : ∃ b, mayWts h.w0 h.a0 = b := ⟨_, rfl⟩
 obtain ⟨b16, hb16⟩ : ∃ b, mayWts h.w1 h.a1 = b := ⟨_, rfl⟩
 obtain ⟨lk, hlk⟩ : ∃ b, h.longKey = b := ⟨_, rfl⟩
 obtain ⟨sl, hsl⟩ : ∃ b, h.spatial = b := ⟨_, rfl⟩
 obtain ⟨of, hof⟩ : ∃ b, h.off = b := ⟨_, rfl⟩
 obtain ⟨db, hdb⟩ : ∃ b, p.deb = b := ⟨_, rfl⟩
 obtain ⟨b9, hb9⟩ : ∃ b, actB h.a0 n2 = b := ⟨_, rfl⟩
 obtain ⟨b10, hb10⟩ : ∃ b, actB h.a1 t1 = b := ⟨_, rfl⟩
 obtain ⟨b11, hb11⟩ : ∃ b, mayMds h.m0 n2 = b := ⟨_, rfl⟩
 obtain ⟨b12, hb12⟩ : ∃ b, mayMds h.m1 t1 = b := ⟨_, rfl⟩
 have HF1 := Lib.hid (show true = (b0 && b1 && b2 && b3 && b4 && b5) from hm2a.symm.trans (by unfold m2a; rw [hb0, hb1, hb2, hb3, hb4, hb5]))
 have HR4 := Lib.hid (show true = ((!key || t2) && b6 && (!key || z1) && b7 && (key || z2)) from hm2b.symm.trans (by unfold m2b; rw [ht2, hb6, hz1, hb7, hz2]))
 have HR5 := Lib.hid (show true = (true && b8 && (z3 || z4) && (t1 || !sl) && b9 && b10) from hm2c.symm.trans (by unfold m2c; rw [hb8, hz3, hz4, ht1, hsl, hn2, hb9, hb10]; simp only [Bool.and_assoc, Bool.true_and]))
 have HF6 := Lib.hid (show false = (b11 && b12) from hm2d.symm.trans (by unfold m2d; rw [hn2, ht1, hb11, hb12]))
 have HF := Lib.hid (show may2 h s p ref key = false by unfold may2; rw [hm2d]; simp)
 clear hm2a hm2b hm2c hm2d
 have HSP := Lib.hid (fun e : b0 = true => (maySp_iff s).1 (hb0.trans e))
 have HB3 := Lib.hid (fun e : b3 = true => inR_iff.1 (hb3.trans e))
 have D0 : Hid (∀ w, SpAt w w.heap.size s A → Calls Tryz.prog 45 #[.agg (spV s A c)] w fun e w' => e = .returned (.bool b0) ∧ Below w.heap.size w w') := Lib.hid (fun w hs => hb0 ▸ maysp2_any s A c w hs hn)
 have D1 : Hid (∀ w, Calls Tryz.prog 46 #[.agg (ppV p)] w fun e w' => e = .returned (.bool b1) ∧ Below w.heap.size w w') := Lib.hid (fun w => hb1 ▸ maypp2_any p w)
 have D2 := Lib.hid (fun w => hb2 ▸ in2R_any ref 0 3 w)
 have D5 := Lib.hid (fun w => hb5 ▸ in2R_any h.type 0 2 w)
 have D9 := Lib.hid (fun w => hb9 ▸ act2_any h.a0 n2 w)
 have D10 := Lib.hid (fun w => hb10 ▸ act2_any h.a1 t1 w)
 have D11 := Lib.hid (fun (w3 : World) (hd : HdAt w3 w3.heap.size h q) => hb11 ▸ mds2_any h.m0 n2 q.m0 q.cm0 w3 hd.m0 (by have := L.m0; omega))
 have D12 := Lib.hid (fun (w3 : World) (hd : HdAt w3 w3.heap.size h q) => hb12 ▸ mds2_any h.m1 t1 q.m1 q.cm1 w3 hd.m1 (by have := L.m1; omega))
 have D13 := Lib.hid (fun w => hb13 ▸ in2R_any h.log 0 7 w)
 have D14 := Lib.hid (fun w => hb14 ▸ in2R_any h.logC 0 7 w)
 have D15 := Lib.hid (fun (w3 : World) (hd : HdAt w3 w3.heap.size h q) => hb15 ▸ wts2_any h.w0 h.a0 q.w0 q.cw0 w3 hd.w0 (by have := L.w0; omega))
 have D16 := Lib.hid (fun (w3 : World) (hd : HdAt w3 w3.heap.size h q) => hb16 ▸ wts2_any h.w1 h.a1 q.w1 q.cw1 w3 hd.w1 (by have := L.w1; omega))
 have D17 := Lib.hid (fun (w3 : World) (hd : HdAt w3 w3.heap.size h q) => hb17 ▸ mos2_any h.ops q.ops q.cops w3 hd.ops (by have := L.ops; omega))
 have D18 := Lib.hid (fun w => hb18 ▸ in2R_any h.qp 0 51 w)
 have D19 := Lib.hid (fun w => hb19 ▸ in2R_any h.a (-6) 6 w)
 have D20 := Lib.hid (fun w => hb20 ▸ in2R_any h.b (-6) 6 w)
 have DW := Lib.hid (fun w => hwg ▸ wgt2_any h.type p w)
 have HL7 := Lib.hid (show (h.w0.length ≤ 281474976710656 ∧ h.w1.length ≤ 281474976710656) ∧ h.ops.length ≤ 281474976710656 from ⟨⟨L.w0, L.w1⟩, L.ops⟩)
 have HB6 := Lib.hid hb6
 have HB7 := Lib.hid hb7
 have HB8 := Lib.hid hb8
 have HB9 := Lib.hid hb9
 have HB10 := Lib.hid hb10
 have HT := Lib.hid (And.intro ht2 (And.intro ht1 hn2))
 have HZA := Lib.hid (And.intro hz1 hz2)
 have HZB := Lib.hid (And.intro hz3 hz4)
 have HZC := Lib.hid (And.intro hz5 (And.intro hz6 (And.intro hz7 hz8)))
 have HZD := Lib.hid (And.intro hr0 hz9)
 have HZE := Lib.hid (And.intro hz10 hz11)
 have HLS := Lib.hid (And.intro hlk (And.intro hsl (And.intro hof hdb)))
 clear hb0 hb1 hb2 hb5 hb6 hb7 hb8 hz1 hz2 hz3 hz4 ht2 ht1 hn2 hb13 hb14 hz5 hz6 hz7 hz8 hr0 hz9 hb18 hb19 hb20 hz10 hz11 hwg hb17 hb15 hb16 hlk hsl hof hdb hb9 hb10 hb11 hb12 hs H L hn
 unfold hdV spV ppV at HM
 simp only [hdV, spV, ppV] at D0 D1 DW ⊢
 cases b0
 ·skip
  exact absurd HF1.out (by simp)
 ·skip
  cases b1
  ·skip
   exact absurd HF1.out (by simp)
  ·skip
   cases b2
   ·skip
    exact absurd HF1.out (by simp)
   ·skip
    cases b3
    ·skip
     exact absurd HF1.out (by simp)
    ·skip
     cases b4
     ·skip
      exact absurd HF1.out (by simp)
     ·skip
      cases b5
      ·skip
       exact absurd HF1.out (by simp)
      ·skip
       as_aux_lemma =>
        go_enter Tryz.func12, Tryz.ntmps12
        go_wp2_with fail
        refine (D0.out _ HM.out.sp).mono ?_
        rintro e wa ⟨rfl, hb⟩
        replace HM : Hid (MayAt w wa h q s A c p) := Lib.hid (HM.out.go hb)
        clear hb
        have g0 := HM.out.k3.cell 0
        have g1 := HM.out.k3.cell 1
        have g2 := HM.out.k3.cell 2
        have g3 := HM.out.k3.cell 3
        have g4 := HM.out.k3.cell 4
        have g5 := HM.out.k3.cell 5
        have g6 := HM.out.k3.cell 6
        have g7 := HM.out.k3.cell 7
        have g8 := HM.out.k3.cell 8
        simp [ppV] at g0 g1 g2 g3 g4 g5 g6 g7 g8
        go_wp2_with fail
        clear g0 g1 g2 g3 g4 g5 g6 g7 g8
        refine (D1.out _).mono ?_
        rintro e wb ⟨rfl, hb⟩
        replace HM : Hid (MayAt w wb h q s A c p) := Lib.hid (HM.out.go hb)
        clear hb
        have hall : 1 ≤ s.wide * s.high ∧ s.wide * s.high ≤ 64 := by
         obtain ⟨⟨q1, q2⟩, ⟨q3, q4⟩, _⟩ := HSP.out (by simp)
         have hw : s.wide = 1 ∨ s.wide = 2 ∨ s.wide = 3 ∨ s.wide = 4 ∨ s.wide = 5 ∨ s.wide = 6 ∨ s.wide = 7 ∨ s.wide = 8 := by omega
         rcases hw with e | e | e | e | e | e | e | e <;> rw [e] <;> omega
        obtain ⟨all, hAll⟩ : ∃ x, x = s.wide * s.high := ⟨_, rfl⟩
        have hwr : IntKind.i64.wrap (s.wide * s.high) = all := by rw [hAll]; exact IntWalk.i64_in _ (by omega)
        rw [← hAll] at hall hb3 hb4
        obtain ⟨hal1, hal2⟩ := hall
        have D3 := Lib.hid (fun w => hb3 ▸ in2R_any h.first 0 (all - 1) w)
        have D4 := Lib.hid (fun w => hb4 ▸ in2R_any h.count 1 (all - h.first) w)
        obtain ⟨hf1, hf2⟩ := HB3.out (by simp)
        rw [← hAll] at hf2
        clear hAll hb3 hb4
        have c0 := HM.out.k1.cell 0
        have c1 := HM.out.k1.cell 1
        have c2 := HM.out.k1.cell 2
        simp [hdV] at c0 c1 c2
        have d0 := HM.out.k2.cell 0
        have d1 := HM.out.k2.cell 1
        simp [spV] at d0 d1
        go_upto_region 3 with (go_at_call 47; first | (with_reducible refine (D2.out _).mono ?_; rintro e w' ⟨rfl, rfl⟩) | (with_reducible refine (D3.out _).mono ?_; rintro e w' ⟨rfl, rfl⟩) | (with_reducible refine (D4.out _).mono ?_; rintro e w' ⟨rfl, rfl⟩) | (with_reducible refine (D5.out _).mono ?_; rintro e w' ⟨rfl, rfl⟩))
        clear c0 c1 c2 d0 d1 hwr hal1 hal2 hf1 hf2
        have c2 := HM.out.k1.cell 2
        simp [hdV] at c2
        obtain ⟨ht2, ht1, hn2⟩ := HT.out
        go_quiet (fail)
        obtain ⟨wc, hq⟩ : ∃ v, wb.drewN nq = v := ⟨_, rfl⟩
        have hbq : Below wb.heap.size wb wc := ((hq ▸ (Touch.refl (fun _ => False) wb).drewN nq) : Touch (fun _ => False) wb wc).below (fun _ h => h.elim) (Nat.le_refl _)
        rw [hq]
        replace HM : Hid (MayAt w wc h q s A c p) := Lib.hid (HM.out.go hbq)
        clear hq hbq c2 ht2 ht1 hn2
        go_upto_region 4 with fail
        go_cut [13] (fun s_ wx => s_ = .bool true ∧ MayAt w wx h q s A c p)
        case first => as_aux_lemma =>
         have c2 := HM.out.k1.cell 2
         have c3 := HM.out.k1.cell 3
         have c4 := HM.out.k1.cell 4
         simp [hdV] at c2 c3 c4
         have d2 := HM.out.k2.cell 2
         simp [spV] at d2
         have hl1 := HM.out.k1.lt
         have hl2 := HM.out.k2.lt
         obtain ⟨ht2, ht1, hn2⟩ := HT.out
         clear ht1 hn2
         obtain ⟨hz1, hz2⟩ := HZA.out
         have hb7 := HB7.out
         have hfb : 4 ≤ s.fb ∧ s.fb ≤ 8 := by obtain ⟨_, _, ⟨a1, a2⟩, ⟨a3, a4⟩, _⟩ := HSP.out (by simp); omega
         obtain ⟨X, hX⟩ : ∃ X : Int, X = 2 ^ s.fb.toNat := ⟨_, rfl⟩
         have hsh1 := fun w => run_shl1 hfb w
         have hsh2 := fun w => run_shl2 hfb w
         have hXb := two_pow_bd hfb
         rw [← hX] at hsh1 hsh2 hXb
         have hpw : inR 0 (X - 1) h.fn = b6 := by rw [← HB6.out, hX]
         have e1 : IntKind.i64.wrap X = X := IntWalk.i64_in _ (by omega)
         have e2 : IntKind.i64.wrap (X - 1) = X - 1 := IntWalk.i64_in _ (by omega)
         clear hX hfb hXb
         cases key
         ·skip
          cases b6
          ·skip
           exact absurd HR4.out (by simp)
          ·skip
           cases b7
           ·skip
            exact absurd HR4.out (by simp)
           ·skip
            cases z2
            ·skip
             exact absurd HR4.out (by simp)
            ·skip
             as_aux_lemma =>
              refine wp_region_class (fun w' => Below wc.heap.size wc w') (by kernel_rfl) (by kernel_rfl) ((Below.refl _ _).drew) ?_
              repeat (first
                | go_big_quiet_skip
                | (go_big_quiet_want; first
                    | (go_big_quiet_op; go_big_quiet_on)
                    | (refine qv_val (v := ?_) ?_ ?_; rotate_left 1; (intro w' hw'; obtain ⟨hcc, hff⟩ := bcell hw'; clear hff hw'; go_simp; (try with_reducible rfl)); (try simp only [Act.put, List.setIfInBounds_toArray, List.set_cons_zero, List.set_cons_succ]); go_big_quiet_on)
                    | (refine qv_call (v := ?_) (f := ?_) (args := ?_) ?_ ?_ ?_; rotate_left 3; (intro w' hw'; clear hw'; go_simp; (refine ⟨?_, ?_⟩ <;> rfl)); (first | (intro w' hw'; refine (in2R_any _ _ _ _).mono ?_; rintro e w'' ⟨rfl, rfl⟩; refine ⟨?_, hw'⟩; simp only [hpw, hb7]; rfl)); (try simp only [Act.put, List.setIfInBounds_toArray, List.set_cons_zero, List.set_cons_succ]); go_big_quiet_on)))
              with_reducible refine wpQuiet_nil ?_
              intro w1 hw
              replace HM := Lib.hid (HM.out.go hw)
              clear hw
              go_wp2_with fail
              go_meet
              exact ⟨rfl, HM.out⟩
         ·skip
          cases t2
          ·skip
           exact absurd HR4.out (by simp)
          ·skip
           cases b6
           ·skip
            exact absurd HR4.out (by simp)
           ·skip
            cases z1
            ·skip
             exact absurd HR4.out (by simp)
            ·skip
             cases b7
             ·skip
              exact absurd HR4.out (by simp)
             ·skip
              as_aux_lemma =>
               refine wp_region_class (fun w' => Below wc.heap.size wc w') (by kernel_rfl) (by kernel_rfl) ((Below.refl _ _).drew) ?_
               repeat (first
                 | go_big_quiet_skip
                 | (go_big_quiet_want; first
                     | (go_big_quiet_op; go_big_quiet_on)
                     | (refine qv_val (v := ?_) ?_ ?_; rotate_left 1; (intro w' hw'; obtain ⟨hcc, hff⟩ := bcell hw'; clear hff hw'; go_simp; (try with_reducible rfl)); (try simp only [Act.put, List.setIfInBounds_toArray, List.set_cons_zero, List.set_cons_succ]); go_big_quiet_on)
                     | (refine qv_call (v := ?_) (f := ?_) (args := ?_) ?_ ?_ ?_; rotate_left 3; (intro w' hw'; clear hw'; go_simp; (refine ⟨?_, ?_⟩ <;> rfl)); (first | (intro w' hw'; refine (in2R_any _ _ _ _).mono ?_; rintro e w'' ⟨rfl, rfl⟩; refine ⟨?_, hw'⟩; simp only [hpw, hb7]; rfl)); (try simp only [Act.put, List.setIfInBounds_toArray, List.set_cons_zero, List.set_cons_succ]); go_big_quiet_on)))
               with_reducible refine wpQuiet_nil ?_
               intro w1 hw
               replace HM := Lib.hid (HM.out.go hw)
               clear hw
               go_wp2_with fail
               go_meet
               exact ⟨rfl, HM.out⟩
        case rest => as_aux_lemma =>
         obtain ⟨rfl, hm⟩ := hcut
         replace HM := Lib.hid hm
         clear hm
         go_upto_region 5 with fail
         go_cut [13] (fun s_ wx => s_ = .bool true ∧ MayAt w wx h q s A c p)
         case first => as_aux_lemma =>
          have c5 := HM.out.k1.cell 5
          have c6 := HM.out.k1.cell 6
          have c7 := HM.out.k1.cell 7
          have c8 := HM.out.k1.cell 8
          simp [hdV] at c5 c6 c7 c8
          have d3 := HM.out.k2.cell 3
          have d4 := HM.out.k2.cell 4
          simp [spV] at d3 d4
          have hl1 := HM.out.k1.lt
          have hl2 := HM.out.k2.lt
          obtain ⟨hz3, hz4⟩ := HZB.out
          obtain ⟨hlk, hsl, hof, hdb⟩ := HLS.out
          rw [hsl] at c6
          clear hlk hsl hof hdb
          have hb9 := HB9.out
          have hb10 := HB10.out
          have hfb : 4 ≤ s.pb ∧ s.pb ≤ 8 := by obtain ⟨_, _, ⟨a1, a2⟩, ⟨a3, a4⟩, _⟩ := HSP.out (by simp); omega
          obtain ⟨X, hX⟩ : ∃ X : Int, X = 2 ^ s.pb.toNat := ⟨_, rfl⟩
          have hsh1 := fun w => run_shl1 hfb w
          have hsh2 := fun w => run_shl2 hfb w
          have hXb := two_pow_bd hfb
          rw [← hX] at hsh1 hsh2 hXb
          have hpw : inR 0 (X - 1) h.poc = b8 := by rw [← HB8.out, hX]
          have e1 : IntKind.i64.wrap X = X := IntWalk.i64_in _ (by omega)
          have e2 : IntKind.i64.wrap (X - 1) = X - 1 := IntWalk.i64_in _ (by omega)
          clear hX hfb hXb
          cases b8
          ·skip
           exact absurd HR5.out (by simp)
          ·skip
           cases z3
           ·skip
            cases z4
            ·skip
             exact absurd HR5.out (by simp)
            ·skip
             cases t1
             ·skip
              cases sl
              ·skip
               cases b9
               ·skip
                exact absurd HR5.out (by simp)
               ·skip
                cases b10
                ·skip
                 exact absurd HR5.out (by simp)
                ·skip
                 as_aux_lemma =>
                  refine wp_region_class (fun w' => Below wc.heap.size wc w') (by kernel_rfl) (by kernel_rfl) ((Below.refl _ _).drew) ?_
                  repeat (first
                    | go_big_quiet_skip
                    | (go_big_quiet_want; first
                        | (go_big_quiet_op; go_big_quiet_on)
                        | (refine qv_val (v := ?_) ?_ ?_; rotate_left 1; (intro w' hw'; obtain ⟨hcc, hff⟩ := bcell hw'; clear hff hw'; go_simp; (try with_reducible rfl)); (try simp only [Act.put, List.setIfInBounds_toArray, List.set_cons_zero, List.set_cons_succ]); go_big_quiet_on)
                        | (refine qv_call (v := ?_) (f := ?_) (args := ?_) ?_ ?_ ?_; rotate_left 3; (intro w' hw'; clear hw'; go_simp; (refine ⟨?_, ?_⟩ <;> rfl)); (first | (intro w' hw'; refine (in2R_any _ _ _ _).mono ?_; rintro e w'' ⟨rfl, rfl⟩; refine ⟨?_, hw'⟩; simp only [hpw]; rfl) | (intro w' hw'; refine (act2_any _ _ _).mono ?_; rintro e w'' ⟨rfl, rfl⟩; refine ⟨?_, hw'⟩; simp only [hb9, hb10]; rfl)); (try simp only [Act.put, List.setIfInBounds_toArray, List.set_cons_zero, List.set_cons_succ]); go_big_quiet_on)))
                  with_reducible refine wpQuiet_nil ?_
                  intro w1 hw
                  replace HM := Lib.hid (HM.out.go hw)
                  clear hw
                  go_wp2_with fail
                  go_meet
                  exact ⟨rfl, HM.out⟩
              ·skip
               exact absurd HR5.out (by simp)
             ·skip
              cases b9
              ·skip
               exact absurd HR5.out (by simp)
              ·skip
               cases b10
               ·skip
                exact absurd HR5.out (by simp)
               ·skip
                as_aux_lemma =>
                 refine wp_region_class (fun w' => Below wc.heap.size wc w') (by kernel_rfl) (by kernel_rfl) ((Below.refl _ _).drew) ?_
                 repeat (first
                   | go_big_quiet_skip
                   | (go_big_quiet_want; first
                       | (go_big_quiet_op; go_big_quiet_on)
                       | (refine qv_val (v := ?_) ?_ ?_; rotate_left 1; (intro w' hw'; obtain ⟨hcc, hff⟩ := bcell hw'; clear hff hw'; go_simp; (try with_reducible rfl)); (try simp only [Act.put, List.setIfInBounds_toArray, List.set_cons_zero, List.set_cons_succ]); go_big_quiet_on)
                       | (refine qv_call (v := ?_) (f := ?_) (args := ?_) ?_ ?_ ?_; rotate_left 3; (intro w' hw'; clear hw'; go_simp; (refine ⟨?_, ?_⟩ <;> rfl)); (first | (intro w' hw'; refine (in2R_any _ _ _ _).mono ?_; rintro e w'' ⟨rfl, rfl⟩; refine ⟨?_, hw'⟩; simp only [hpw]; rfl) | (intro w' hw'; refine (act2_any _ _ _).mono ?_; rintro e w'' ⟨rfl, rfl⟩; refine ⟨?_, hw'⟩; simp only [hb9, hb10]; rfl)); (try simp only [Act.put, List.setIfInBounds_toArray, List.set_cons_zero, List.set_cons_succ]); go_big_quiet_on)))
                 with_reducible refine wpQuiet_nil ?_
                 intro w1 hw
                 replace HM := Lib.hid (HM.out.go hw)
                 clear hw
                 go_wp2_with fail
                 go_meet
                 exact ⟨rfl, HM.out⟩
           ·skip
            cases t1
            ·skip
             cases sl
             ·skip
              cases b9
              ·skip
               exact absurd HR5.out (by simp)
              ·skip
               cases b10
               ·skip
                exact absurd HR5.out (by simp)
               ·skip
                as_aux_lemma =>
                 refine wp_region_class (fun w' => Below wc.heap.size wc w') (by kernel_rfl) (by kernel_rfl) ((Below.refl _ _).drew) ?_
                 repeat (first
                   | go_big_quiet_skip
                   | (go_big_quiet_want; first
                       | (go_big_quiet_op; go_big_quiet_on)
                       | (refine qv_val (v := ?_) ?_ ?_; rotate_left 1; (intro w' hw'; obtain ⟨hcc, hff⟩ := bcell hw'; clear hff hw'; go_simp; (try with_reducible rfl)); (try simp only [Act.put, List.setIfInBounds_toArray, List.set_cons_zero, List.set_cons_succ]); go_big_quiet_on)
                       | (refine qv_call (v := ?_) (f := ?_) (args := ?_) ?_ ?_ ?_; rotate_left 3; (intro w' hw'; clear hw'; go_simp; (refine ⟨?_, ?_⟩ <;> rfl)); (first | (intro w' hw'; refine (in2R_any _ _ _ _).mono ?_; rintro e w'' ⟨rfl, rfl⟩; refine ⟨?_, hw'⟩; simp only [hpw]; rfl) | (intro w' hw'; refine (act2_any _ _ _).mono ?_; rintro e w'' ⟨rfl, rfl⟩; refine ⟨?_, hw'⟩; simp only [hb9, hb10]; rfl)); (try simp only [Act.put, List.setIfInBounds_toArray, List.set_cons_zero, List.set_cons_succ]); go_big_quiet_on)))
                 with_reducible refine wpQuiet_nil ?_
                 intro w1 hw
                 replace HM := Lib.hid (HM.out.go hw)
                 clear hw
                 go_wp2_with fail
                 go_meet
                 exact ⟨rfl, HM.out⟩
             ·skip
              exact absurd HR5.out (by simp)
            ·skip
             cases b9
             ·skip
              exact absurd HR5.out (by simp)
             ·skip
              cases b10
              ·skip
               exact absurd HR5.out (by simp)
              ·skip
               as_aux_lemma =>
                refine wp_region_class (fun w' => Below wc.heap.size wc w') (by kernel_rfl) (by kernel_rfl) ((Below.refl _ _).drew) ?_
                repeat (first
                  | go_big_quiet_skip
                  | (go_big_quiet_want; first
                      | (go_big_quiet_op; go_big_quiet_on)
                      | (refine qv_val (v := ?_) ?_ ?_; rotate_left 1; (intro w' hw'; obtain ⟨hcc, hff⟩ := bcell hw'; clear hff hw'; go_simp; (try with_reducible rfl)); (try simp only [Act.put, List.setIfInBounds_toArray, List.set_cons_zero, List.set_cons_succ]); go_big_quiet_on)
                      | (refine qv_call (v := ?_) (f := ?_) (args := ?_) ?_ ?_ ?_; rotate_left 3; (intro w' hw'; clear hw'; go_simp; (refine ⟨?_, ?_⟩ <;> rfl)); (first | (intro w' hw'; refine (in2R_any _ _ _ _).mono ?_; rintro e w'' ⟨rfl, rfl⟩; refine ⟨?_, hw'⟩; simp only [hpw]; rfl) | (intro w' hw'; refine (act2_any _ _ _).mono ?_; rintro e w'' ⟨rfl, rfl⟩; refine ⟨?_, hw'⟩; simp only [hb9, hb10]; rfl)); (try simp only [Act.put, List.setIfInBounds_toArray, List.set_cons_zero, List.set_cons_succ]); go_big_quiet_on)))
                with_reducible refine wpQuiet_nil ?_
                intro w1 hw
                replace HM := Lib.hid (HM.out.go hw)
                clear hw
                go_wp2_with fail
                go_meet
                exact ⟨rfl, HM.out⟩
         case rest => as_aux_lemma =>
          obtain ⟨rfl, hm⟩ := hcut
          replace HM := Lib.hid hm
          clear hm
          have c9 := HM.out.k1.cell 9
          have c10 := HM.out.k1.cell 10
          simp [hdV] at c9 c10
          cases b11
          ·skip
           as_aux_lemma =>
            go_wp2_with (go_at_call 49; first | (with_reducible refine (D11.out _ HM.out.hd).mono ?_; rintro e w' ⟨rfl, rfl⟩) | (with_reducible refine (D12.out _ HM.out.hd).mono ?_; rintro e w' ⟨rfl, rfl⟩))
            go_ret
            exact ⟨by rw [HF.out]; try rfl, HM.out.below⟩
          ·skip
           cases b12
           ·skip
            as_aux_lemma =>
             go_wp2_with (go_at_call 49; first | (with_reducible refine (D11.out _ HM.out.hd).mono ?_; rintro e w' ⟨rfl, rfl⟩) | (with_reducible refine (D12.out _ HM.out.hd).mono ?_; rintro e w' ⟨rfl, rfl⟩))
             go_ret
             exact ⟨by rw [HF.out]; try rfl, HM.out.below⟩
           ·skip
            exact absurd HF6.out (by simp)
end Go.Proofs.YtjokibagciehlaaGreat
