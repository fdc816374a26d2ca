/- The document's May, Get; HeadGets. -/
import Derived.Test.YtjokibagciehlaaGreatDodB
import Derived.Test.YtjokibagciehlaaGreatDodBB
import Derived.Test.YtjokibagciehlaaGreatDodBC
import Derived.Test.YtjokibagciehlaaGreatDodBD
import Derived.Test.YtjokibagciehlaaGreatDodBE
import Derived.Test.YtjokibagciehlaaGreatDodBF
import Derived.Test.YtjokibagciehlaaGreatDodBG
import Derived.Test.YtjokibagciehlaaGreatDodZ
import Derived.Great.BuildSlice
import Derived.Great.Ranges
import Derived.Test.YtjokibagciehlaaGreatSlice
import Derived.ProofKit
import Derived.SizedLaws
import Derived.Test.YtjokibagciehlaaGreatMask
import Derived.Test.YtjokibagciehlaaGreatBitZ
namespace Go.Proofs.YtjokibagciehlaaGreat
theorem p0 {α : Type} (a b : α) (l : List α) : (a :: l).set 0 b = b :: l := rfl
theorem p1 {α : Type} (a b : α) (l : List α) (n : Nat) : (a :: l).set (n + 1) b = a :: l.set n b := rfl
theorem p2 {α : Type} (l : List α) (i : Nat) (a : α) : l.toArray.setIfInBounds i a = (l.set i a).toArray := List.setIfInBounds_toArray l i a
open Go.RowKit
set_option linter.unusedVariables false
set_option linter.unusedSimpArgs false

set_option maxRecDepth 100000 in
set_option maxHeartbeats 25600000 in
theorem may2_A (h : Hd) (q : Ha) (s : Sp) (A : Option Addr) (c : Nat) (p : Pp) (ref : Int) (key : Bool) (w : World) (H : HdAt w w.heap.size h q) (L : HdLen h) (hs : SpAt w w.heap.size s A) (hn : s.cy.length ≤ 1152921504606846976) (hm2a : m2a h s p ref = false) :
  Calls Tryz.prog 12 #[.agg (hdV h q), .agg (spV s A c), .agg (ppV p), .int .i64 ref, .bool key] w fun e w' => e = .returned (.bool (may2 h s p ref key)) ∧ Below w.heap.size w w' := by
 have HM := Lib.hid (MayAt.start (c := c) (p := p) H hs)
 obtain ⟨b0, hb0⟩ : ∃ b, maySp s = b := ⟨_, rfl⟩
 obtain ⟨b1, hb1⟩ : ∃ b, mayPp p = b := ⟨_, rfl⟩
 obtain ⟨b2, hb2⟩ : ∃ b, inR 0 3 ref = b := ⟨_, rfl⟩
 obtain ⟨b3, hb3⟩ : ∃ b, inR 0 (s.wide * s.high - 1) h.first = b := ⟨_, rfl⟩
 obtain ⟨b4, hb4⟩ : ∃ b, inR 1 (s.wide * s.high - h.first) h.count = b := ⟨_, rfl⟩
 obtain ⟨b5, hb5⟩ : ∃ b, inR 0 2 h.type = b := ⟨_, rfl⟩
 obtain ⟨b6, hb6⟩ : ∃ b, inR 0 (2 ^ s.fb.toNat - 1) h.fn = b := ⟨_, rfl⟩
 obtain ⟨b7, hb7⟩ : ∃ b, inR 0 255 h.id = b := ⟨_, rfl⟩
 obtain ⟨b8, hb8⟩ : ∃ b, inR 0 (2 ^ s.pb.toNat - 1) h.poc = b := ⟨_, rfl⟩
 obtain ⟨z1, hz1⟩ : ∃ b, (h.fn == 0) = b := ⟨_, rfl⟩
 obtain ⟨z2, hz2⟩ : ∃ b, (h.id == 0) = b := ⟨_, rfl⟩
 obtain ⟨z3, hz3⟩ : ∃ b, (s.pt == 0) = b := ⟨_, rfl⟩
 obtain ⟨z4, hz4⟩ : ∃ b, (h.poc == 0) = b := ⟨_, rfl⟩
 obtain ⟨t2, ht2⟩ : ∃ b, (h.type == 2) = b := ⟨_, rfl⟩
 obtain ⟨t1, ht1⟩ : ∃ b, (h.type == 1) = b := ⟨_, rfl⟩
 obtain ⟨n2, hn2⟩ : ∃ b, (h.type != 2) = b := ⟨_, rfl⟩
 obtain ⟨b13, hb13⟩ : ∃ b, inR 0 7 h.log = b := ⟨_, rfl⟩
 obtain ⟨b14, hb14⟩ : ∃ b, inR 0 7 h.logC = b := ⟨_, rfl⟩
 obtain ⟨z5, hz5⟩ : ∃ b, (h.log == 0) = b := ⟨_, rfl⟩
 obtain ⟨z6, hz6⟩ : ∃ b, (h.logC == 0) = b := ⟨_, rfl⟩
 obtain ⟨z7, hz7⟩ : ∃ b, ((h.w0.length : Int) == 0) = b := ⟨_, rfl⟩
 obtain ⟨z8, hz8⟩ : ∃ b, ((h.w1.length : Int) == 0) = b := ⟨_, rfl⟩
 obtain ⟨r0, hr0⟩ : ∃ b, decide (0 < ref) = b := ⟨_, rfl⟩
 obtain ⟨z9, hz9⟩ : ∃ b, ((h.ops.length : Int) == 0) = b := ⟨_, rfl⟩
 obtain ⟨b18, hb18⟩ : ∃ b, inR 0 51 h.qp = b := ⟨_, rfl⟩
 obtain ⟨b19, hb19⟩ : ∃ b, inR (-6) 6 h.a = b := ⟨_, rfl⟩
 obtain ⟨b20, hb20⟩ : ∃ b, inR (-6) 6 h.b = b := ⟨_, rfl⟩
 obtain ⟨z10, hz10⟩ : ∃ b, (h.a == 0) = b := ⟨_, rfl⟩
 obtain ⟨z11, hz11⟩ : ∃ b, (h.b == 0) = b := ⟨_, rfl⟩
 obtain ⟨wg, hwg⟩ : ∃ b, wgt h.type p = b := ⟨_, rfl⟩
 obtain ⟨b17, hb17⟩ : ∃ b, mayMos h.ops = b := ⟨_, rfl⟩
 obtain ⟨b15, hb15⟩ : ∃ b, mayWts h.w0 h.a0 = b := ⟨_, rfl⟩
 obtain ⟨b16, hb16⟩ : ∃ b, mayWts h.w1 h.a1 = b := ⟨_, rfl⟩
 obtain ⟨lk, hlk⟩ : ∃ b, h.longKey = b := ⟨_, rfl⟩
 obtain ⟨sl, hsl⟩ : ∃ b, h.spatial = b := ⟨_, rfl⟩
 obtain ⟨of, hof⟩ : ∃ b, h.off = b := ⟨_, rfl⟩
 obtain ⟨db, hdb⟩ : ∃ b, p.deb = b := ⟨_, rfl⟩
 obtain ⟨b9, hb9⟩ : ∃ b, actB h.a0 n2 = b := ⟨_, rfl⟩
 obtain ⟨b10, hb10⟩ : ∃ b, actB h.a1 t1 = b := ⟨_, rfl⟩
 obtain ⟨b11, hb11⟩ : ∃ b, mayMds h.m0 n2 = b := ⟨_, rfl⟩
 obtain ⟨b12, hb12⟩ : ∃ b, mayMds h.m1 t1 = b := ⟨_, rfl⟩
 have HF1 := Lib.hid (show false = (b0 && b1 && b2 && b3 && b4 && b5) by rw [← hm2a]; unfold m2a; rw [hb0, hb1, hb2, hb3, hb4, hb5])
 have HF := Lib.hid (show may2 h s p ref key = false by unfold may2; rw [hm2a]; simp)
 clear hm2a
 have HSP := Lib.hid (fun e : b0 = true => (maySp_iff s).1 (hb0.trans e))
 have HB3 := Lib.hid (fun e : b3 = true => inR_iff.1 (hb3.trans e))
 have D0 : Hid (∀ w, SpAt w w.heap.size s A → Calls Tryz.prog 45 #[.agg (spV s A c)] w fun e w' => e = .returned (.bool b0) ∧ Below w.heap.size w w') := Lib.hid (fun w hs => hb0 ▸ maysp2_any s A c w hs hn)
 have D1 : Hid (∀ w, Calls Tryz.prog 46 #[.agg (ppV p)] w fun e w' => e = .returned (.bool b1) ∧ Below w.heap.size w w') := Lib.hid (fun w => hb1 ▸ maypp2_any p w)
 have D2 := Lib.hid (fun w => hb2 ▸ in2R_any ref 0 3 w)
 have D5 := Lib.hid (fun w => hb5 ▸ in2R_any h.type 0 2 w)
 have D9 := Lib.hid (fun w => hb9 ▸ act2_any h.a0 n2 w)
 have D10 := Lib.hid (fun w => hb10 ▸ act2_any h.a1 t1 w)
 have D11 := Lib.hid (fun (w3 : World) (hd : HdAt w3 w3.heap.size h q) => hb11 ▸ mds2_any h.m0 n2 q.m0 q.cm0 w3 hd.m0 (by have := L.m0; omega))
 have D12 := Lib.hid (fun (w3 : World) (hd : HdAt w3 w3.heap.size h q) => hb12 ▸ mds2_any h.m1 t1 q.m1 q.cm1 w3 hd.m1 (by have := L.m1; omega))
 have D13 := Lib.hid (fun w => hb13 ▸ in2R_any h.log 0 7 w)
 have D14 := Lib.hid (fun w => hb14 ▸ in2R_any h.logC 0 7 w)
 have D15 := Lib.hid (fun (w3 : World) (hd : HdAt w3 w3.heap.size h q) => hb15 ▸ wts2_any h.w0 h.a0 q.w0 q.cw0 w3 hd.w0 (by have := L.w0; omega))
 have D16 := Lib.hid (fun (w3 : World) (hd : HdAt w3 w3.heap.size h q) => hb16 ▸ wts2_any h.w1 h.a1 q.w1 q.cw1 w3 hd.w1 (by have := L.w1; omega))
 have D17 := Lib.hid (fun (w3 : World) (hd : HdAt w3 w3.heap.size h q) => hb17 ▸ mos2_any h.ops q.ops q.cops w3 hd.ops (by have := L.ops; omega))
 have D18 := Lib.hid (fun w => hb18 ▸ in2R_any h.qp 0 51 w)
 have D19 := Lib.hid (fun w => hb19 ▸ in2R_any h.a (-6) 6 w)
 have D20 := Lib.hid (fun w => hb20 ▸ in2R_any h.b (-6) 6 w)
 have DW := Lib.hid (fun w => hwg ▸ wgt2_any h.type p w)
 have HL7 := Lib.hid (show (h.w0.length ≤ 281474976710656 ∧ h.w1.length ≤ 281474976710656) ∧ h.ops.length ≤ 281474976710656 from ⟨⟨L.w0, L.w1⟩, L.ops⟩)
 have HB6 := Lib.hid hb6
 have HB7 := Lib.hid hb7
 have HB8 := Lib.hid hb8
 have HB9 := Lib.hid hb9
 have HB10 := Lib.hid hb10
 have HT := Lib.hid (And.intro ht2 (And.intro ht1 hn2))
 have HZA := Lib.hid (And.intro hz1 hz2)
 have HZB := Lib.hid (And.intro hz3 hz4)
 have HZC := Lib.hid (And.intro hz5 (And.intro hz6 (And.intro hz7 hz8)))
 have HZD := Lib.hid (And.intro hr0 hz9)
 have HZE := Lib.hid (And.intro hz10 hz11)
 have HLS := Lib.hid (And.intro hlk (And.intro hsl (And.intro hof hdb)))
 clear hb0 hb1 hb2 hb5 hb6 hb7 hb8 hz1 hz2 hz3 hz4 ht2 ht1 hn2 hb13 hb14 hz5 hz6 hz7 hz8 hr0 hz9 hb18 hb19 hb20 hz10 hz11 hwg hb17 hb15 hb16 hlk hsl hof hdb hb9 hb10 hb11 hb12 hs H L hn
 unfold hdV spV ppV at HM
 simp only [hdV, spV, ppV] at D0 D1 DW ⊢
 cases b0
 ·skip
  go_enter Tryz.func12, Tryz.ntmps12
  go_wp2_with fail
  refine (D0.out _ HM.out.sp).mono ?_
  rintro e wa ⟨rfl, hb⟩
  replace HM : Hid (MayAt w wa h q s A c p) := Lib.hid (HM.out.go hb)
  clear hb
  go_wp2_with fail
  go_ret
  exact ⟨by rw [HF.out]; try rfl, HM.out.below⟩
 ·skip
  cases b1
  ·skip
   go_enter Tryz.func12, Tryz.ntmps12
   go_wp2_with fail
   refine (D0.out _ HM.out.sp).mono ?_
   rintro e wa ⟨rfl, hb⟩
   replace HM : Hid (MayAt w wa h q s A c p) := Lib.hid (HM.out.go hb)
   clear hb
   have g0 := HM.out.k3.cell 0
   have g1 := HM.out.k3.cell 1
   have g2 := HM.out.k3.cell 2
   have g3 := HM.out.k3.cell 3
   have g4 := HM.out.k3.cell 4
   have g5 := HM.out.k3.cell 5
   have g6 := HM.out.k3.cell 6
   have g7 := HM.out.k3.cell 7
   have g8 := HM.out.k3.cell 8
   simp [ppV] at g0 g1 g2 g3 g4 g5 g6 g7 g8
   go_wp2_with fail
   clear g0 g1 g2 g3 g4 g5 g6 g7 g8
   refine (D1.out _).mono ?_
   rintro e wb ⟨rfl, hb⟩
   replace HM : Hid (MayAt w wb h q s A c p) := Lib.hid (HM.out.go hb)
   clear hb
   go_wp2_with fail
   go_ret
   exact ⟨by rw [HF.out]; try rfl, HM.out.below⟩
  ·skip
   cases b2
   ·skip
    go_enter Tryz.func12, Tryz.ntmps12
    go_wp2_with fail
    refine (D0.out _ HM.out.sp).mono ?_
    rintro e wa ⟨rfl, hb⟩
    replace HM : Hid (MayAt w wa h q s A c p) := Lib.hid (HM.out.go hb)
    clear hb
    have g0 := HM.out.k3.cell 0
    have g1 := HM.out.k3.cell 1
    have g2 := HM.out.k3.cell 2
    have g3 := HM.out.k3.cell 3
    have g4 := HM.out.k3.cell 4
    have g5 := HM.out.k3.cell 5
    have g6 := HM.out.k3.cell 6
    have g7 := HM.out.k3.cell 7
    have g8 := HM.out.k3.cell 8
    simp [ppV] at g0 g1 g2 g3 g4 g5 g6 g7 g8
    go_wp2_with fail
    clear g0 g1 g2 g3 g4 g5 g6 g7 g8
    refine (D1.out _).mono ?_
    rintro e wb ⟨rfl, hb⟩
    replace HM : Hid (MayAt w wb h q s A c p) := Lib.hid (HM.out.go hb)
    clear hb
    go_wp2_with (go_at_call 47; first | (with_reducible refine (D2.out _).mono ?_; rintro e w' ⟨rfl, rfl⟩))
    go_ret
    exact ⟨by rw [HF.out]; try rfl, HM.out.below⟩
   ·skip
    cases b3
    ·skip
     go_enter Tryz.func12, Tryz.ntmps12
     go_wp2_with fail
     refine (D0.out _ HM.out.sp).mono ?_
     rintro e wa ⟨rfl, hb⟩
     replace HM : Hid (MayAt w wa h q s A c p) := Lib.hid (HM.out.go hb)
     clear hb
     have g0 := HM.out.k3.cell 0
     have g1 := HM.out.k3.cell 1
     have g2 := HM.out.k3.cell 2
     have g3 := HM.out.k3.cell 3
     have g4 := HM.out.k3.cell 4
     have g5 := HM.out.k3.cell 5
     have g6 := HM.out.k3.cell 6
     have g7 := HM.out.k3.cell 7
     have g8 := HM.out.k3.cell 8
     simp [ppV] at g0 g1 g2 g3 g4 g5 g6 g7 g8
     go_wp2_with fail
     clear g0 g1 g2 g3 g4 g5 g6 g7 g8
     refine (D1.out _).mono ?_
     rintro e wb ⟨rfl, hb⟩
     replace HM : Hid (MayAt w wb h q s A c p) := Lib.hid (HM.out.go hb)
     clear hb
     have hall : 1 ≤ s.wide * s.high ∧ s.wide * s.high ≤ 64 := by
      obtain ⟨⟨q1, q2⟩, ⟨q3, q4⟩, _⟩ := HSP.out (by simp)
      have hw : s.wide = 1 ∨ s.wide = 2 ∨ s.wide = 3 ∨ s.wide = 4 ∨ s.wide = 5 ∨ s.wide = 6 ∨ s.wide = 7 ∨ s.wide = 8 := by omega
      rcases hw with e | e | e | e | e | e | e | e <;> rw [e] <;> omega
     obtain ⟨all, hAll⟩ : ∃ x, x = s.wide * s.high := ⟨_, rfl⟩
     have hwr : IntKind.i64.wrap (s.wide * s.high) = all := by rw [hAll]; exact IntWalk.i64_in _ (by omega)
     rw [← hAll] at hall hb3 hb4
     obtain ⟨hal1, hal2⟩ := hall
     have D3 := Lib.hid (fun w => hb3 ▸ in2R_any h.first 0 (all - 1) w)
     have D4 := Lib.hid (fun w => hb4 ▸ in2R_any h.count 1 (all - h.first) w)
     clear hAll hb3 hb4
     have c0 := HM.out.k1.cell 0
     have c1 := HM.out.k1.cell 1
     have c2 := HM.out.k1.cell 2
     simp [hdV] at c0 c1 c2
     have d0 := HM.out.k2.cell 0
     have d1 := HM.out.k2.cell 1
     simp [spV] at d0 d1
     go_wp2_with (go_at_call 47; first | (with_reducible refine (D2.out _).mono ?_; rintro e w' ⟨rfl, rfl⟩) | (with_reducible refine (D3.out _).mono ?_; rintro e w' ⟨rfl, rfl⟩) | (with_reducible refine (D4.out _).mono ?_; rintro e w' ⟨rfl, rfl⟩) | (with_reducible refine (D5.out _).mono ?_; rintro e w' ⟨rfl, rfl⟩))
     go_ret
     exact ⟨by rw [HF.out]; try rfl, HM.out.below⟩
    ·skip
     cases b4
     ·skip
      go_enter Tryz.func12, Tryz.ntmps12
      go_wp2_with fail
      refine (D0.out _ HM.out.sp).mono ?_
      rintro e wa ⟨rfl, hb⟩
      replace HM : Hid (MayAt w wa h q s A c p) := Lib.hid (HM.out.go hb)
      clear hb
      have g0 := HM.out.k3.cell 0
      have g1 := HM.out.k3.cell 1
      have g2 := HM.out.k3.cell 2
      have g3 := HM.out.k3.cell 3
      have g4 := HM.out.k3.cell 4
      have g5 := HM.out.k3.cell 5
      have g6 := HM.out.k3.cell 6
      have g7 := HM.out.k3.cell 7
      have g8 := HM.out.k3.cell 8
      simp [ppV] at g0 g1 g2 g3 g4 g5 g6 g7 g8
      go_wp2_with fail
      clear g0 g1 g2 g3 g4 g5 g6 g7 g8
      refine (D1.out _).mono ?_
      rintro e wb ⟨rfl, hb⟩
      replace HM : Hid (MayAt w wb h q s A c p) := Lib.hid (HM.out.go hb)
      clear hb
      have hall : 1 ≤ s.wide * s.high ∧ s.wide * s.high ≤ 64 := by
       obtain ⟨⟨q1, q2⟩, ⟨q3, q4⟩, _⟩ := HSP.out (by simp)
       have hw : s.wide = 1 ∨ s.wide = 2 ∨ s.wide = 3 ∨ s.wide = 4 ∨ s.wide = 5 ∨ s.wide = 6 ∨ s.wide = 7 ∨ s.wide = 8 := by omega
       rcases hw with e | e | e | e | e | e | e | e <;> rw [e] <;> omega
      obtain ⟨all, hAll⟩ : ∃ x, x = s.wide * s.high := ⟨_, rfl⟩
      have hwr : IntKind.i64.wrap (s.wide * s.high) = all := by rw [hAll]; exact IntWalk.i64_in _ (by omega)
      rw [← hAll] at hall hb3 hb4
      obtain ⟨hal1, hal2⟩ := hall
      have D3 := Lib.hid (fun w => hb3 ▸ in2R_any h.first 0 (all - 1) w)
      have D4 := Lib.hid (fun w => hb4 ▸ in2R_any h.count 1 (all - h.first) w)
      obtain ⟨hf1, hf2⟩ := HB3.out (by simp)
      rw [← hAll] at hf2
      clear hAll hb3 hb4
      have c0 := HM.out.k1.cell 0
      have c1 := HM.out.k1.cell 1
      have c2 := HM.out.k1.cell 2
      simp [hdV] at c0 c1 c2
      have d0 := HM.out.k2.cell 0
      have d1 := HM.out.k2.cell 1
      simp [spV] at d0 d1
      go_wp2_with (go_at_call 47; first | (with_reducible refine (D2.out _).mono ?_; rintro e w' ⟨rfl, rfl⟩) | (with_reducible refine (D3.out _).mono ?_; rintro e w' ⟨rfl, rfl⟩) | (with_reducible refine (D4.out _).mono ?_; rintro e w' ⟨rfl, rfl⟩) | (with_reducible refine (D5.out _).mono ?_; rintro e w' ⟨rfl, rfl⟩))
      go_ret
      exact ⟨by rw [HF.out]; try rfl, HM.out.below⟩
     ·skip
      cases b5
      ·skip
       go_enter Tryz.func12, Tryz.ntmps12
       go_wp2_with fail
       refine (D0.out _ HM.out.sp).mono ?_
       rintro e wa ⟨rfl, hb⟩
       replace HM : Hid (MayAt w wa h q s A c p) := Lib.hid (HM.out.go hb)
       clear hb
       have g0 := HM.out.k3.cell 0
       have g1 := HM.out.k3.cell 1
       have g2 := HM.out.k3.cell 2
       have g3 := HM.out.k3.cell 3
       have g4 := HM.out.k3.cell 4
       have g5 := HM.out.k3.cell 5
       have g6 := HM.out.k3.cell 6
       have g7 := HM.out.k3.cell 7
       have g8 := HM.out.k3.cell 8
       simp [ppV] at g0 g1 g2 g3 g4 g5 g6 g7 g8
       go_wp2_with fail
       clear g0 g1 g2 g3 g4 g5 g6 g7 g8
       refine (D1.out _).mono ?_
       rintro e wb ⟨rfl, hb⟩
       replace HM : Hid (MayAt w wb h q s A c p) := Lib.hid (HM.out.go hb)
       clear hb
       have hall : 1 ≤ s.wide * s.high ∧ s.wide * s.high ≤ 64 := by
        obtain ⟨⟨q1, q2⟩, ⟨q3, q4⟩, _⟩ := HSP.out (by simp)
        have hw : s.wide = 1 ∨ s.wide = 2 ∨ s.wide = 3 ∨ s.wide = 4 ∨ s.wide = 5 ∨ s.wide = 6 ∨ s.wide = 7 ∨ s.wide = 8 := by omega
        rcases hw with e | e | e | e | e | e | e | e <;> rw [e] <;> omega
       obtain ⟨all, hAll⟩ : ∃ x, x = s.wide * s.high := ⟨_, rfl⟩
       have hwr : IntKind.i64.wrap (s.wide * s.high) = all := by rw [hAll]; exact IntWalk.i64_in _ (by omega)
       rw [← hAll] at hall hb3 hb4
       obtain ⟨hal1, hal2⟩ := hall
       have D3 := Lib.hid (fun w => hb3 ▸ in2R_any h.first 0 (all - 1) w)
       have D4 := Lib.hid (fun w => hb4 ▸ in2R_any h.count 1 (all - h.first) w)
       obtain ⟨hf1, hf2⟩ := HB3.out (by simp)
       rw [← hAll] at hf2
       clear hAll hb3 hb4
       have c0 := HM.out.k1.cell 0
       have c1 := HM.out.k1.cell 1
       have c2 := HM.out.k1.cell 2
       simp [hdV] at c0 c1 c2
       have d0 := HM.out.k2.cell 0
       have d1 := HM.out.k2.cell 1
       simp [spV] at d0 d1
       go_wp2_with (go_at_call 47; first | (with_reducible refine (D2.out _).mono ?_; rintro e w' ⟨rfl, rfl⟩) | (with_reducible refine (D3.out _).mono ?_; rintro e w' ⟨rfl, rfl⟩) | (with_reducible refine (D4.out _).mono ?_; rintro e w' ⟨rfl, rfl⟩) | (with_reducible refine (D5.out _).mono ?_; rintro e w' ⟨rfl, rfl⟩))
       go_ret
       exact ⟨by rw [HF.out]; try rfl, HM.out.below⟩
      ·skip
       exact absurd HF1.out (by simp)
end Go.Proofs.YtjokibagciehlaaGreat

namespace Go.Proofs.YtjokibagciehlaaGreat
open Go.RowKit
set_option linter.unusedVariables false
theorem may2_any (h : Hd) (q : Ha) (s : Sp) (A : Option Addr) (c : Nat) (p : Pp) (ref : Int) (key : Bool) (w : World) (H : HdAt w w.heap.size h q) (L : HdLen h) (hs : SpAt w w.heap.size s A) (hn : s.cy.length ≤ 1152921504606846976) :
  Calls Tryz.prog 12 #[.agg (hdV h q), .agg (spV s A c), .agg (ppV p), .int .i64 ref, .bool key] w fun e w' => e = .returned (.bool (mayHd h s p ref key)) ∧ Below w.heap.size w w' := by
 rw [← may2_eq]
 cases ha : m2a h s p ref
 ·exact may2_A h q s A c p ref key w H L hs hn ha
 cases hb : m2b h s key
 ·exact may2_B h q s A c p ref key w H L hs hn ha hb
 cases hc : m2c h s
 ·exact may2_C h q s A c p ref key w H L hs hn ha hb hc
 cases hd : m2d h
 ·exact may2_D h q s A c p ref key w H L hs hn ha hb hc hd
 cases he : m2e h p
 ·exact may2_E h q s A c p ref key w H L hs hn ha hb hc hd he
 cases hf : m2f h ref key
 ·exact may2_F h q s A c p ref key w H L hs hn ha hb hc hd he hf
 ·exact may2_G h q s A c p ref key w H L hs hn ha hb hc hd he hf
end Go.Proofs.YtjokibagciehlaaGreat

namespace Go.Proofs.YtjokibagciehlaaGreat
open Go.RowKit
set_option linter.unusedVariables false
set_option linter.unusedSimpArgs false

theorem dGt_results (a : Act) (w : World) (B : Nat) (t : TypeId) (cs : Array Value) (E : Int) (h10 : a.tmps.getD 10 undef = .pointer (some ⟨B, 0, none⟩)) (h11 : a.tmps.getD 11 undef = .int .i64 E) (hg : Bk w B t cs) (hs : cs.size = 21) :
  (results Tryz.f24 a.tmps).run Tryz.prog w = .ok (.tuple #[.agg cs, .int .i64 E]) w := by
 have h10' : a.tmps[10]?.getD undef = .pointer (some ⟨B, 0, none⟩) := by simpa using h10
 have h11' : a.tmps[11]?.getD undef = .int .i64 E := by simpa using h11
 have hl := run_loadVar_row (P := Tryz.prog) w B t 26 cs (0, 0) _ hg Tryz.underlying26 rfl (by rw [hs]; kernel_rfl)
 simp [results, Tryz.results24, h10', h11', asAddr, hl, Sem.run_bind]
/-- what the document's Get holds on its way, since w0: the reader at b -/
structure GU (w0 w : World) (g gB N : Nat) (f : Nat → Bool) (b : Nat) (SB PB RB : Nat) (s : Sp) (A : Option Addr) (c : Nat) (p : Pp) : Prop where
 ks : Bk w SB 29 (spV s A c)
 kp : Bk w PB 31 (ppV p)
 kr : Bk w RB 26 (hdV Hd.zero Ha.zero)
 hs : w0.heap.size ≤ SB ∧ w0.heap.size ≤ PB ∧ w0.heap.size ≤ RB
 rr : RR w g gB N f b
 tch : Touch (RS g) w0 w
 sp : SpAt w g s A
 lt : g < w0.heap.size ∧ gB < w0.heap.size
/-- what the document's Get answers -/
def GUPo (w w' : World) (g gB N : Nat) (f : Nat → Bool) (R : Hd × Int × Nat) (e : Ending) : Prop := ∃ q, e = .returned (.tuple #[.agg (hdV R.1 q), .int .i64 R.2.1]) ∧ RR w' g gB N f R.2.2 ∧ HOw w' w.heap.size R.1.ls q ∧ Touch (RS g) w w'
section
variable {w0 w w' : World} {g gB N b SB PB RB : Nat} {f : Nat → Bool} {s : Sp} {A : Option Addr} {c : Nat} {p : Pp}
theorem GU.go (H : GU w0 w g gB N f b SB PB RB s A c p) (hb : Below w.heap.size w w') : GU w0 w' g gB N f b SB PB RB s A c p :=
 ⟨H.ks.go hb, H.kp.go hb, H.kr.go hb, H.hs, H.rr.go hb, H.tch.trans (Touch.of_new hb), Rd.below H.sp hb (Nat.le_trans (Nat.le_of_lt H.lt.1) H.tch.size), H.lt⟩
theorem GU.spw (H : GU w0 w g gB N f b SB PB RB s A c p) : SpAt w w.heap.size s A := Rd.more H.sp (Nat.le_trans (Nat.le_of_lt H.lt.1) H.tch.size)
/-- behind the reading -/
theorem GU.read {r : Nat} {t : St} (H : GU w0 w g gB N f b SB PB RB s A c p) (hd : DG w' r g gB N f t) (hr : w0.heap.size ≤ r) (ht : Touch (RGS r g) w w') (h1 : SB ≠ r ∧ PB ≠ r ∧ RB ≠ r) : GU w0 w' g gB N f t.a SB PB RB s A c p := by
 have l := H.lt
 have k := H.hs
 have n1 : ¬ RGS r g SB := by rintro (e | e); exact h1.1 e; omega
 have n2 : ¬ RGS r g PB := by rintro (e | e); exact h1.2.1 e; omega
 have n3 : ¬ RGS r g RB := by rintro (e | e); exact h1.2.2 e; omega
 have hB : Below g w w' := ht.below (by rintro k (e | e) <;> omega) (Nat.le_trans (Nat.le_of_lt l.1) H.tch.size)
 exact ⟨H.ks.touch ht n1, H.kp.touch ht n2, H.kr.touch ht n3, k, hd.2.1, H.tch.old ht (fun i hi e => by rcases e with e | e; exfalso; omega; exact e), Rd.below H.sp hB (Nat.le_refl _), l⟩
/-- the reader goes back -/
theorem GU.back (H : GU w0 w g gB N f b SB PB RB s A c p) (a : Nat) : GU w0 (w.setCell ⟨g, 1, none⟩ (.int .i64 a)) g gB N f a SB PB RB s A c p := by
 have l := H.lt
 have k := H.hs
 have q := H.rr.set a
 have hB : Below g w (w.setCell ⟨g, 1, none⟩ (.int .i64 a)) := q.2.below (fun k e => by have e' : k = g := e; omega) (Nat.le_trans (Nat.le_of_lt l.1) H.tch.size)
 exact ⟨H.ks.far (p := ⟨g, 1, none⟩) (by show SB ≠ g; omega) _, H.kp.far (p := ⟨g, 1, none⟩) (by show PB ≠ g; omega) _, H.kr.far (p := ⟨g, 1, none⟩) (by show RB ≠ g; omega) _, k, q.1, H.tch.trans q.2, Rd.below H.sp hB (Nat.le_refl _), l⟩
/-- .. the answer none -/
theorem GU.none_ (H : GU w0 w g gB N f b SB PB RB s A c p) (E : Int) : GUPo w0 (w.setRow RB (hdV Hd.zero Ha.zero)) g gB N f (.zero, E, b) (.returned (.tuple #[.agg (hdV Hd.zero Ha.zero), .int .i64 E])) := by
 have l := H.lt
 have k := H.hs
 have ht : Touch (fun k => k = RB) w (w.setRow RB (hdV Hd.zero Ha.zero)) := touch_setRow (Touch.refl _ w) _ _ (fun _ => rfl)
 obtain ⟨⟨cp, hk⟩, q1, q2, q3⟩ := H.rr
 exact ⟨Ha.zero, rfl, ⟨⟨cp, hk.touch ht (by omega)⟩, q1, Nat.lt_of_lt_of_le q2 ht.size, fun j hj => (ht.cell (p := ⟨gB, j, none⟩) q2 (by show ¬ gB = RB; omega)).trans (q3 j hj)⟩, HOw.zero _ _, touch_setRow H.tch _ _ (fun h => by omega)⟩
/-- .. the header -/
theorem GU.some_ {h : Hd} {q : Ha} (H : GU w0 w g gB N f b SB PB RB s A c p) (ho : HOw w w0.heap.size h.ls q) : GUPo w0 (w.setRow RB (hdV h q)) g gB N f (h, 0, b) (.returned (.tuple #[.agg (hdV h q), .int .i64 0])) := by
 have l := H.lt
 have k := H.hs
 have ht : Touch (fun k => k = RB) w (w.setRow RB (hdV h q)) := touch_setRow (Touch.refl _ w) _ _ (fun _ => rfl)
 obtain ⟨⟨cp, hk⟩, q1, q2, q3⟩ := H.rr
 refine ⟨q, rfl, ⟨⟨cp, hk.touch ht (by omega)⟩, q1, Nat.lt_of_lt_of_le q2 ht.size, fun j hj => (ht.cell (p := ⟨gB, j, none⟩) q2 (by show ¬ gB = RB; omega)).trans (q3 j hj)⟩, ho.touch ht (fun k hk => ?_), touch_setRow H.tch _ _ (fun h => by omega)⟩
 have e : k = RB := hk
 subst e
 exact ⟨_, _, H.kr, by decide, by decide, by decide⟩
end
section
variable {f : Nat → Bool} {N : Nat}
theorem uV_le (t : St) : 0 ≤ uV f N t ∧ uV f N t ≤ 2147483646 := by
 by_cases h : t.a ≤ N
 ·exact uV_bd h
 ·unfold uV dX ueX
  rw [ueR_far t.a h]
  split <;> (show (0 : Int) ≤ 0 ∧ (0 : Int) ≤ 2147483646; decide)
/-- the lists are short -/
structure LL (h : Hd) : Prop where
 m0 : h.m0.length ≤ 16
 m1 : h.m1.length ≤ 16
 w0 : h.w0.length ≤ 2147483647
 w1 : h.w1.length ≤ 2147483647
 ops : h.ops.length ≤ 16
 a0 : h.a0 ≤ 2147483647
 a1 : h.a1 ≤ 2147483647
theorem LL.lens {h : Hd} (H : LL h) : HdLen h := ⟨Nat.le_trans H.m0 (by decide), Nat.le_trans H.m1 (by decide), Nat.le_trans H.w0 (by decide), Nat.le_trans H.w1 (by decide), Nat.le_trans H.ops (by decide)⟩
theorem itG_len {α : Type} (S : St → St) (X : St → α) : ∀ (n : Nat) (t : St), (itG S X n t).1.length ≤ n
 | 0, t => Nat.le_refl _
 | n + 1, t => by
  unfold itG
  split
  ·exact Nat.zero_le _
  ·have := itG_len S X n (S t)
   simp only [List.length_cons]
   omega
theorem mds_len (t : St) : (mdsG f N t).1.length ≤ 16 := by
 unfold mdsG
 split
 ·exact Nat.zero_le _
 ·have h1 := itG_len (mdS f N) (mdX f N) (uV f N t).toNat (uS f N t)
  have h2 := uV_le (f := f) (N := N) t
  dsimp only
  omega
theorem wt_len (n : Nat) (t : St) : (wtG f N n t).1.length ≤ n := itG_len _ _ n t
variable {d : Dd} {e : Dd × Bool}
theorem LL.reA (H : LL d.h) : LL (reA f N d).h := by unfold Proofs.YtjokibagciehlaaGreat.reA; split; exact ⟨H.m0, H.m1, H.w0, H.w1, H.ops, H.a0, H.a1⟩; exact H
theorem LL.reB (H : LL d.h) : LL (reB f N d).h := by
 unfold Proofs.YtjokibagciehlaaGreat.reB
 split
 ·have := uV_le (f := f) (N := N) d.t
  exact ⟨H.m0, H.m1, H.w0, H.w1, H.ops, by show uV f N d.t + 1 ≤ _; omega, H.a1⟩
 ·exact H
theorem LL.reC (H : LL d.h) : LL (reC f N d).h := by
 unfold Proofs.YtjokibagciehlaaGreat.reC
 split
 ·have := uV_le (f := f) (N := N) d.t
  exact ⟨H.m0, H.m1, H.w0, H.w1, H.ops, H.a0, by show uV f N d.t + 1 ≤ _; omega⟩
 ·exact H
theorem LL.reE (H : LL d.h) : LL (reE f N d).1.h := by unfold Proofs.YtjokibagciehlaaGreat.reE; split; exact ⟨mds_len _, H.m1, H.w0, H.w1, H.ops, H.a0, H.a1⟩; exact H
theorem LL.reF (H : LL e.1.h) : LL (reF f N e).1.h := by unfold Proofs.YtjokibagciehlaaGreat.reF; split; exact ⟨H.m0, mds_len _, H.w0, H.w1, H.ops, H.a0, H.a1⟩; exact H
theorem LL.reW (p : Pp) (H : LL e.1.h) : LL (reW f N p e).1.h := by
 unfold Proofs.YtjokibagciehlaaGreat.reW
 split
 ·have h0 := H.a0
  have h1 := H.a1
  refine ⟨H.m0, H.m1, ?_, ?_, H.ops, H.a0, H.a1⟩
  ·have := wt_len (f := f) (N := N) (reL f N e.1).h.a0.toNat (reL f N e.1).t
   have e1 : (reL f N e.1).h.a0 = e.1.h.a0 := rfl
   show (wtG f N (reL f N e.1).h.a0.toNat (reL f N e.1).t).1.length ≤ _
   rw [e1] at this ⊢
   omega
  ·have := wt_len (f := f) (N := N) (reI f N (reL f N e.1)).h.a1.toNat (reI f N (reL f N e.1)).t
   have e1 : (reI f N (reL f N e.1)).h.a1 = e.1.h.a1 := rfl
   show (wtG f N (reI f N (reL f N e.1)).h.a1.toNat (reI f N (reL f N e.1)).t).1.length ≤ _
   rw [e1] at this ⊢
   omega
 ·exact H
theorem LL.reH (ref : Int) (key : Bool) (H : LL e.1.h) : LL (reH f N ref key e).1.h := by
 unfold Proofs.YtjokibagciehlaaGreat.reH
 split
 ·unfold reM
  split
  ·exact ⟨H.m0, H.m1, H.w0, H.w1, H.ops, H.a0, H.a1⟩
  ·unfold reO
   split
   ·exact H
   ·have h1 := mo_len f N (uV f N e.1.t).toNat (uS f N e.1.t)
    have h2 := uV_le (f := f) (N := N) e.1.t
    exact ⟨H.m0, H.m1, H.w0, H.w1, by dsimp only; omega, H.a0, H.a1⟩
 ·exact H
theorem LL.reD (p : Pp) (H : LL d.h) : LL (reD f N p (reQ f N d)).h := by
 have HQ : LL (reZ f N (reQ f N d)).h := ⟨H.m0, H.m1, H.w0, H.w1, H.ops, H.a0, H.a1⟩
 unfold Proofs.YtjokibagciehlaaGreat.reD
 split
 ·unfold reY
  split
  ·exact HQ
  ·exact ⟨H.m0, H.m1, H.w0, H.w1, H.ops, H.a0, H.a1⟩
 ·exact ⟨H.m0, H.m1, H.w0, H.w1, H.ops, H.a0, H.a1⟩
theorem LL.rest (p : Pp) (ref : Int) (key : Bool) (H : LL d.h) : LL (rest f N p ref key d).1 := by
 have H3 := ((H.reA (f := f) (N := N)).reB (f := f) (N := N)).reC (f := f) (N := N)
 unfold Proofs.YtjokibagciehlaaGreat.rest
 split
 ·exact H3
 ·unfold rest2 out
  have H4 := (((LL.reE (f := f) (N := N) H3).reF (f := f) (N := N)).reW (f := f) (N := N) p).reH (f := f) (N := N) ref key
  split
  ·exact H4
  ·exact H4.reD p
theorem LL.get (s : Sp) (p : Pp) (ref : Int) (key : Bool) (t : St) : LL (doGet f N s p ref key t).1 := by
 have H1 : LL (doA f N t).h := ⟨Nat.zero_le _, Nat.zero_le _, Nat.zero_le _, Nat.zero_le _, Nat.zero_le _, by show (0 : Int) ≤ _; decide, by show (0 : Int) ≤ _; decide⟩
 unfold doGet
 split
 ·exact H1
 ·refine LL.rest p ref key ?_
  have H2 : LL (doE f N s (doA f N t)).h := ⟨H1.m0, H1.m1, H1.w0, H1.w1, H1.ops, H1.a0, H1.a1⟩
  have H3 : LL (doF f N key (doE f N s (doA f N t))).h := by unfold doF; split; exact ⟨H1.m0, H1.m1, H1.w0, H1.w1, H1.ops, H1.a0, H1.a1⟩; exact H2
  unfold doG
  split
  ·exact ⟨H3.m0, H3.m1, H3.w0, H3.w1, H3.ops, H3.a0, H3.a1⟩
  ·exact H3
end
theorem HOw.less {w : World} {B0 B1 : Nat} {l : Lst} {q : Ha} (H : HOw w B0 l q) (h : B1 ≤ B0) : HOw w B1 l q := ⟨own_less H.m0 h, own_less H.m1 h, own_less H.w0 h, own_less H.w1 h, own_less H.ops h⟩
section
variable {w : World} {g gB N a : Nat} {f : Nat → Bool} (H : RR w g gB N f a) (hN : N ≤ 1125899906842624) (ha : a ≤ N) (s : Sp) (A : Option Addr) (c : Nat) (p : Pp) (ref : Int) (key : Bool) (hs : SpAt w g s A) (hn : s.cy.length ≤ 1152921504606846976)
include H hN ha hs hn
set_option maxRecDepth 100000 in
set_option maxHeartbeats 25600000 in
theorem dGt_any : Calls Tryz.prog 24 #[.pointer (some ⟨g, 0, none⟩), .agg (spV s A c), .agg (ppV p), .int .i64 ref, .bool key] w fun e w' => GUPo w w' g gB N f (getHd2 f N s p ref key a) e := by
 have hw3 : GU w (((w.alloc (.cells (spV s A c) 29)).alloc (.cells (ppV p) 31)).alloc (.cells (hdV Hd.zero Ha.zero) 26)) g gB N f a w.heap.size (w.heap.size + 1) (w.heap.size + 1 + 1) s A c p := by
  have hg : g < w.heap.size := by obtain ⟨cp, hk⟩ := H.bk; exact hk.lt
  obtain ⟨w1, e1⟩ : ∃ x, x = w.alloc (.cells (spV s A c) 29) := ⟨_, rfl⟩
  obtain ⟨w2, e2⟩ : ∃ x, x = w1.alloc (.cells (ppV p) 31) := ⟨_, rfl⟩
  obtain ⟨w3, e3⟩ : ∃ x, x = w2.alloc (.cells (hdV Hd.zero Ha.zero) 26) := ⟨_, rfl⟩
  have k1 : Bk w1 w.heap.size 29 (spV s A c) := e1 ▸ Bk.new w _ _
  have k2 : Bk w2 w1.heap.size 31 (ppV p) := e2 ▸ Bk.new w1 _ _
  have k3 : Bk w3 w2.heap.size 26 (hdV Hd.zero Ha.zero) := e3 ▸ Bk.new w2 _ _
  have s1 : w1.heap.size = w.heap.size + 1 := by rw [e1]; simp
  have s2 : w2.heap.size = w.heap.size + 1 + 1 := by rw [e2]; simp [s1]
  have b1 : Below w.heap.size w w1 := e1 ▸ (Below.refl _ _).alloc (Nat.le_refl _) _
  have b2 : Below w1.heap.size w1 w2 := e2 ▸ (Below.refl _ _).alloc (Nat.le_refl _) _
  have b3 : Below w2.heap.size w2 w3 := e3 ▸ (Below.refl _ _).alloc (Nat.le_refl _) _
  have b : Below w.heap.size w w3 := b1.trans ((b2.mono (by omega)).trans (b3.mono (by omega)))
  rw [← e1, ← e2, ← e3]
  rw [s1] at k2
  rw [s2] at k3
  exact ⟨(k1.go b2).go b3, k2.go b3, k3, by omega, H.go b, Touch.of_new b, Rd.below hs b (Nat.le_of_lt hg), hg, H.2.2.1⟩
 have HM1 := Lib.hid (fun (w : World) (hs : SpAt w w.heap.size s A) => maysp2_any s A c w hs hn)
 have HM2 := Lib.hid (fun (w : World) => maypp2_any p w)
 have HM3 := Lib.hid (fun (w : World) => in2R_any ref 0 3 w)
 have HMM := Lib.hid (fun (w : World) (h : Hd) (q : Ha) (H : HdAt w w.heap.size h q) (L : HdLen h) (hs : SpAt w w.heap.size s A) => may2_any h q s A c p ref key w H L hs hn)
 have HAN := Lib.hid ha
 have HGT := Lib.hid (fun (w : World) (r : Nat) (H : DG w r g gB N f ⟨a, false⟩) (h1 : 0 ≤ s.fb) (h2 : 0 ≤ s.pb) => dgt_any H hN ha s A c p ref key h1 h2)
 obtain ⟨R, hR⟩ : ∃ R, getHd2 f N s p ref key a = R := ⟨_, rfl⟩
 rw [hR]
 have HFB : Hid (maySp s = true → 0 ≤ s.fb ∧ 0 ≤ s.pb) := Lib.hid (fun h => by obtain ⟨_, _, ⟨a1, a2⟩, ⟨a3, a4⟩, _⟩ := (maySp_iff s).1 h; omega)
 unfold getHd2 at hR
 obtain ⟨b1, hb1⟩ : ∃ b, maySp s = b := ⟨_, rfl⟩
 obtain ⟨b2, hb2⟩ : ∃ b, mayPp p = b := ⟨_, rfl⟩
 obtain ⟨b3, hb3⟩ : ∃ b, inR 0 3 ref = b := ⟨_, rfl⟩
 rw [hb1, hb2, hb3] at hR
 rw [hb1] at HM1 HFB
 rw [hb2] at HM2
 rw [hb3] at HM3
 have HR := Lib.hid hR
 clear H hN ha hs hn hR hb1 hb2 hb3
 simp only [spV, ppV]
 go_enter Tryz.func24, Tryz.ntmps24
 go_upto_region 1 with fail
 refine (fun (k : ∀ w4, GU w w4 g gB N f a w.heap.size (w.heap.size + 1) (w.heap.size + 1 + 1) s A c p → Code.wp _ _ _ _ w4) => k _ hw3) ?_
 clear hw3
 intro w3 hw3
 have HX := Lib.hid hw3
 clear hw3
 obtain ⟨SB, hSB⟩ : ∃ b, w.heap.size = b := ⟨_, rfl⟩
 obtain ⟨RB, hRB⟩ : ∃ b, w.heap.size + 1 + 1 = b := ⟨_, rfl⟩
 obtain ⟨PB, hPB⟩ : ∃ b, w.heap.size + 1 = b := ⟨_, rfl⟩
 have HNE : Hid (SB < w.heap.size + 3 ∧ PB < w.heap.size + 3 ∧ RB < w.heap.size + 3) := Lib.hid (by omega)
 rw [hRB, hPB, hSB] at HX ⊢
 clear hRB hPB hSB
 go_cut [27] (fun x wx => x = .bool (!(b1 && b2 && b3)) ∧ GU w wx g gB N f a SB PB RB s A c p)
 case first => as_aux_lemma =>
  go_wp2_with (first | (refine wpList_load_rowG (by rfl) _ _ rfl SB rfl _ _ (0, 0) _ HX.out.ks Tryz.underlying29 rfl (by kernel_rfl) ?_) | (refine wpList_load_rowG (by rfl) _ _ rfl PB rfl _ _ (0, 0) _ HX.out.kp Tryz.underlying31 rfl (by kernel_rfl) ?_))
  refine (HM1.out _ HX.out.spw).mono ?_
  rintro e wa ⟨rfl, hb⟩
  replace HX := Lib.hid (HX.out.go hb)
  clear hb
  cases b1
  ·go_wp2_with (first | (refine wpList_load_rowG (by rfl) _ _ rfl SB rfl _ _ (0, 0) _ HX.out.ks Tryz.underlying29 rfl (by kernel_rfl) ?_) | (refine wpList_load_rowG (by rfl) _ _ rfl PB rfl _ _ (0, 0) _ HX.out.kp Tryz.underlying31 rfl (by kernel_rfl) ?_))
   go_meet
   exact ⟨rfl, HX.out⟩
  ·go_wp2_with (first | (refine wpList_load_rowG (by rfl) _ _ rfl SB rfl _ _ (0, 0) _ HX.out.ks Tryz.underlying29 rfl (by kernel_rfl) ?_) | (refine wpList_load_rowG (by rfl) _ _ rfl PB rfl _ _ (0, 0) _ HX.out.kp Tryz.underlying31 rfl (by kernel_rfl) ?_))
   refine (HM2.out _).mono ?_
   rintro e wb ⟨rfl, hb⟩
   replace HX := Lib.hid (HX.out.go hb)
   clear hb
   cases b2
   ·go_wp2_with (first | (refine wpList_load_rowG (by rfl) _ _ rfl SB rfl _ _ (0, 0) _ HX.out.ks Tryz.underlying29 rfl (by kernel_rfl) ?_) | (refine wpList_load_rowG (by rfl) _ _ rfl PB rfl _ _ (0, 0) _ HX.out.kp Tryz.underlying31 rfl (by kernel_rfl) ?_))
    go_meet
    exact ⟨rfl, HX.out⟩
   ·go_wp2_with (first | (refine wpList_load_rowG (by rfl) _ _ rfl SB rfl _ _ (0, 0) _ HX.out.ks Tryz.underlying29 rfl (by kernel_rfl) ?_) | (refine wpList_load_rowG (by rfl) _ _ rfl PB rfl _ _ (0, 0) _ HX.out.kp Tryz.underlying31 rfl (by kernel_rfl) ?_))
    refine (HM3.out _).mono ?_
    rintro e wd ⟨rfl, rfl⟩
    cases b3
    ·go_wp2_with (first | (refine wpList_load_rowG (by rfl) _ _ rfl SB rfl _ _ (0, 0) _ HX.out.ks Tryz.underlying29 rfl (by kernel_rfl) ?_) | (refine wpList_load_rowG (by rfl) _ _ rfl PB rfl _ _ (0, 0) _ HX.out.kp Tryz.underlying31 rfl (by kernel_rfl) ?_))
     go_meet
     exact ⟨rfl, HX.out⟩
    ·go_wp2_with (first | (refine wpList_load_rowG (by rfl) _ _ rfl SB rfl _ _ (0, 0) _ HX.out.ks Tryz.underlying29 rfl (by kernel_rfl) ?_) | (refine wpList_load_rowG (by rfl) _ _ rfl PB rfl _ _ (0, 0) _ HX.out.kp Tryz.underlying31 rfl (by kernel_rfl) ?_))
     go_meet
     exact ⟨rfl, HX.out⟩
 case rest => as_aux_lemma =>
  obtain ⟨rfl, hq⟩ := hcut
  replace HX := Lib.hid hq
  replace HFB : Hid ((b1 && b2 && b3) = true → 0 ≤ s.fb ∧ 0 ≤ s.pb) := Lib.hid (fun h => HFB.out (by cases b1 <;> simp_all))
  obtain ⟨b0, hb0⟩ : ∃ b, (b1 && b2 && b3) = b := ⟨_, rfl⟩
  rw [hb0] at HR HFB ⊢
  clear hq HM1 HM2 HM3 hb0
  have e := HR.out
  clear HR
  cases b0
  ·rw [if_neg (by simp)] at e
   subst e
   go_upto_region 2 with fail
   refine wp_region_lit ?_
   refine wpList_built0 rfl _ rfl _ built_head ?_
   refine wpList_store_row rfl _ _ _ rfl RB (hdV Hd.zero Ha.zero) rfl rfl _ _ HX.out.kr (by kernel_rfl) rfl (hd_one _ _) ?_
   go_wp2_with fail
   exact bodyPost_ret (dGt_results _ _ RB 26 (hdV Hd.zero Ha.zero) 401 rfl rfl (bk_setRow HX.out.kr) rfl) rfl (HX.out.none_ 401)
  rw [if_pos rfl] at e
  have HRX := Lib.hid e
  obtain ⟨hfb, hpb⟩ := HFB.out rfl
  have HFP := Lib.hid (And.intro hfb hpb)
  clear e HFB hfb hpb
  have hLL := LL.get (f := f) (N := N) s p ref key ⟨a, false⟩
  obtain ⟨D, hD⟩ : ∃ D, doGet f N s p ref key ⟨a, false⟩ = D := ⟨_, rfl⟩
  rw [hD] at hLL
  have HLL := Lib.hid hLL.lens
  rw [hD] at HGT HRX
  clear hD hLL
  have c1 : wc.cell? ⟨g, 1, none⟩ = some (.int .i64 a) := by
   obtain ⟨cp, hk⟩ := HX.out.rr.bk
   exact hk.cell 1
  go_upto_region 4 with fail
  clear c1
  refine wp_region_lit ?_
  refine wpl_val rfl (run_move rfl rfl) ?_
  simp only [Act.put, p2, p0, p1]
  refine wpList_buildTo rfl _ _ rfl _ rfl #[.pointer (some ⟨g, 0, none⟩), .bool false] (by kernel_rfl) ?_
  simp only [Act.put, p2, p0, p1]
  obtain ⟨r, hr⟩ : ∃ r, wc.heap.size = r := ⟨_, rfl⟩
  refine Go.Great.wpList_boxTo rfl _ _ rfl _ rfl r hr #[.pointer (some ⟨g, 0, none⟩), .bool false] rfl ?_
  simp only [Act.put, p2, p0, p1]
  have hrw : w.heap.size ≤ r ∧ g < r ∧ gB < r := by have h1 := HX.out.tch.size; have h2 := HX.out.lt; omega
  have hbx : SB ≠ r ∧ PB ≠ r ∧ RB ≠ r := by have h1 := HX.out.ks.lt; have h2 := HX.out.kp.lt; have h3 := HX.out.kr.lt; omega
  have hbb : Below wc.heap.size wc (wc.alloc (.cells #[.pointer (some ⟨g, 0, none⟩), .bool false] 108)) := (Below.refl _ _).alloc (Nat.le_refl _) _
  have hdg : DG (wc.alloc (.cells #[.pointer (some ⟨g, 0, none⟩), .bool false] 108)) r g gB N f ⟨a, false⟩ := ⟨hr ▸ Bk.new wc _ _, HX.out.rr.go hbb, by omega⟩
  replace HX := Lib.hid (HX.out.go hbb)
  have HC := Lib.hid (HGT.out _ r hdg HFP.out.1 HFP.out.2)
  obtain ⟨wz, hwz⟩ : ∃ x, x = wc.alloc (.cells #[.pointer (some ⟨g, 0, none⟩), .bool false] 108) := ⟨_, rfl⟩
  rw [← hwz] at HX HC ⊢
  have HRW := Lib.hid (And.intro hrw hbx)
  clear hrw hbx hbb hdg HGT HFP hr hwz
  refine wpl_val rfl (run_load_row (x := .tmp 6) rfl rfl (load_sps HX.out.ks)) ?_
  simp only [Act.put, p2, p0, p1]
  refine wpl_val rfl (run_load_row (x := .tmp 7) rfl rfl (load_pps HX.out.kp)) ?_
  simp only [Act.put, p2, p0, p1]
  refine wpl_val rfl (run_move rfl rfl) ?_
  simp only [Act.put, p2, p0, p1]
  refine wpl_val rfl (run_move rfl rfl) ?_
  simp only [Act.put, p2, p0, p1]
  refine wpl_call rfl (f := 58) (args := #[.pointer (some ⟨r, 0, none⟩), .agg (spV s A c), .agg (ppV p), .int .i64 ref, .bool key]) (by kernel_rfl) ?_
  refine HC.out.mono ?_
  rintro e wy ⟨q, rfl, hg1, ho1, ht1, hl1⟩
  refine ⟨_, rfl, ?_⟩
  simp only [Act.put, p2, p0, p1]
  clear HC
  have hsz := HX.out.tch.size
  replace ho1 := ho1.less hsz
  replace HX := Lib.hid (HX.out.read hg1 HRW.out.1.1 ht1 HRW.out.2)
  obtain ⟨h, E, t⟩ := D
  simp only [] at hg1 ho1 hl1 HX ⊢
  have HO := Lib.hid ho1
  clear hg1 ho1 ht1 hl1 HRW hsz
  refine wpl_val rfl (run_move rfl rfl) ?_
  simp only [Act.put, p2, p0, p1]
  refine wpl_val rfl (run_ext0 (v := .agg (hdV h q)) (u := .int .i64 E) rfl rfl) ?_
  simp only [Act.put, p2, p0, p1]
  refine wpl_val rfl (run_ext1 (v := .agg (hdV h q)) (u := .int .i64 E) rfl rfl) ?_
  simp only [Act.put, p2, p0, p1]
  refine wpl_val rfl (run_alloc_head _ _ _ rfl) ?_
  simp only [Act.put, p2, p0, p1]
  obtain ⟨HB, hHB⟩ : ∃ n, wy.heap.size = n := ⟨_, rfl⟩
  rw [hHB]
  have kn : Bk (wy.alloc (.cells (hdV Hd.zero Ha.zero) 26)) HB 26 (hdV Hd.zero Ha.zero) := hHB ▸ Bk.new wy _ _
  refine wpList_store_row rfl _ _ _ rfl HB (hdV h q) rfl rfl _ _ kn (by kernel_rfl) rfl (hd_one _ _) ?_
  obtain ⟨w8, hw8⟩ : ∃ w8, (wy.alloc (.cells (hdV Hd.zero Ha.zero) 26)).setRow HB (hdV h q) = w8 := ⟨_, rfl⟩
  have hb8 : Below wy.heap.size wy w8 := hw8 ▸ (touch_setRow (Touch.of_new (S := fun _ => False) ((Below.refl _ _).alloc (Nat.le_refl _) _)) _ _ (by omega)).below (fun _ h => h.elim) (Nat.le_refl _)
  have KX := Lib.hid (hw8 ▸ bk_setRow kn : Bk w8 HB 26 (hdV h q))
  rw [hw8]
  replace HX := Lib.hid (HX.out.go hb8)
  replace HO := Lib.hid (HO.out.go hb8)
  clear hb8 hw8 kn hHB
  have HRY : Hid ((if E = 0 ∧ mayHd h s p ref key = true then (h, 0, t.a) else (Hd.zero, if E = 0 then 401 else E, a)) = R) := Lib.hid HRX.out
  clear HRX
  obtain ⟨mm, hmm⟩ : ∃ b, mayHd h s p ref key = b := ⟨_, rfl⟩
  rw [hmm] at HRY
  have HMH := Lib.hid (hmm ▸ HMM.out w8 h q)
  clear hmm HMM
  by_cases hE : E = 0
  ·subst hE
   refine wpl_val rfl (run_assign rfl rfl) ?_
   simp only [Act.put, p2, p0, p1]
   go_upto_region 5 with fail
   go_cut [54] (fun x wx => x = .bool (!mm) ∧ GU w wx g gB N f t.a SB PB RB s A c p ∧ HOw wx w.heap.size h.ls q ∧ Bk wx HB 26 (hdV h q))
   case first => as_aux_lemma =>
    go_wp2_with (first | (refine wpList_load_rowG (by rfl) _ _ rfl SB rfl _ _ (0, 0) _ HX.out.ks Tryz.underlying29 rfl (by kernel_rfl) ?_) | (refine wpList_load_rowG (by rfl) _ _ rfl PB rfl _ _ (0, 0) _ HX.out.kp Tryz.underlying31 rfl (by kernel_rfl) ?_) | (refine wpList_load_rowG (by rfl) _ _ rfl HB rfl _ _ (0, 0) _ KX.out Tryz.underlying26 rfl (by kernel_rfl) ?_))
    refine (HMH.out HO.out.hd HLL.out HX.out.spw).mono ?_
    rintro e wa ⟨rfl, hb⟩
    replace HX := Lib.hid (HX.out.go hb)
    replace HO := Lib.hid (HO.out.go hb)
    replace KX := Lib.hid (KX.out.go hb)
    clear hb
    go_wp2_with fail
    go_meet
    exact ⟨by cases mm <;> rfl, HX.out, HO.out, KX.out⟩
   case rest => as_aux_lemma =>
    obtain ⟨rfl, h1, h2, h3⟩ := hcut
    replace HX := Lib.hid h1
    replace HO := Lib.hid h2
    replace KX := Lib.hid h3
    clear h1 h2 h3 HMH
    have e := HRY.out
    clear HRY
    cases mm
    ·rw [if_neg (by simp), if_pos rfl] at e
     subst e
     have ff : wc.frozen? ⟨g, 1, none⟩ = false := by obtain ⟨cp, hk⟩ := HX.out.rr.bk; exact hk.frozen 1
     have cc : wc.cell? ⟨g, 1, none⟩ = some (.int .i64 t.a) := by obtain ⟨cp, hk⟩ := HX.out.rr.bk; exact hk.cell 1
     go_upto_region 9 with fail
     replace HX := Lib.hid (HX.out.back a)
     refine wp_region_lit ?_
     refine wpList_built0 rfl _ rfl _ built_head ?_
     simp only [Act.put, p2, p0, p1]
     refine wpl_val rfl (run_move rfl rfl) ?_
     simp only [Act.put, p2, p0, p1]
     refine wpList_store_row rfl _ _ _ rfl RB (hdV Hd.zero Ha.zero) rfl rfl _ _ HX.out.kr (by kernel_rfl) rfl (hd_one _ _) ?_
     go_wp2_with fail
     exact bodyPost_ret (dGt_results _ _ RB 26 (hdV Hd.zero Ha.zero) 401 rfl rfl (bk_setRow HX.out.kr) rfl) rfl (HX.out.none_ 401)
    ·rw [if_pos ⟨rfl, rfl⟩] at e
     subst e
     go_upto_region 10 with fail
     refine wp_region_lit ?_
     refine wpl_val rfl (run_load_row (ty := 26) (x := .tmp 13) rfl rfl (load_head KX.out)) ?_
     simp only [Act.put, p2, p0, p1]
     refine wpList_store_row rfl _ _ _ rfl RB (hdV h q) rfl rfl _ _ HX.out.kr (by kernel_rfl) rfl (hd_one _ _) ?_
     go_wp2_with fail
     exact bodyPost_ret (dGt_results _ _ RB 26 (hdV h q) 0 rfl rfl (bk_setRow HX.out.kr) rfl) rfl (HX.out.some_ HO.out)
  ·have e := HRY.out
   rw [if_neg (fun h => hE h.1), if_neg hE] at e
   subst e
   have hE1 : (E == 0) = false := by simpa using hE
   have hE2 : (E != 0) = true := by simpa using hE
   refine wpl_val rfl (run_assign rfl rfl) ?_
   simp only [Act.put, p2, p0, p1]
   have ff : w8.frozen? ⟨g, 1, none⟩ = false := by obtain ⟨cp, hk⟩ := HX.out.rr.bk; exact hk.frozen 1
   have cc : w8.cell? ⟨g, 1, none⟩ = some (.int .i64 t.a) := by obtain ⟨cp, hk⟩ := HX.out.rr.bk; exact hk.cell 1
   clear hE
   go_upto_region 9 with (first | (refine wpList_load_rowG (by rfl) _ _ rfl SB rfl _ _ (0, 0) _ HX.out.ks Tryz.underlying29 rfl (by kernel_rfl) ?_) | (refine wpList_load_rowG (by rfl) _ _ rfl PB rfl _ _ (0, 0) _ HX.out.kp Tryz.underlying31 rfl (by kernel_rfl) ?_) | (refine wpList_load_rowG (by rfl) _ _ rfl HB rfl _ _ (0, 0) _ KX.out Tryz.underlying26 rfl (by kernel_rfl) ?_))
   replace HX := Lib.hid (HX.out.back a)
   refine wp_region_lit ?_
   refine wpList_built0 rfl _ rfl _ built_head ?_
   simp only [Act.put, p2, p0, p1]
   refine wpl_val rfl (run_move rfl rfl) ?_
   simp only [Act.put, p2, p0, p1]
   refine wpList_store_row rfl _ _ _ rfl RB (hdV Hd.zero Ha.zero) rfl rfl _ _ HX.out.kr (by kernel_rfl) rfl (hd_one _ _) ?_
   go_wp2_with fail
   exact bodyPost_ret (dGt_results _ _ RB 26 (hdV Hd.zero Ha.zero) E rfl rfl (bk_setRow HX.out.kr) rfl) rfl (HX.out.none_ E)
end
end Go.Proofs.YtjokibagciehlaaGreat

namespace Go.Proofs.YtjokibagciehlaaGreat
open Go.RowKit Go.ChangeShapes Go.WideShapes
set_option linter.unusedVariables false

/-- A slice of ints that came in: z its elements; its room within the form's reach. -/
def IntsArg (w : World) (A : Option Addr) (n c : Nat) (z : Nat → Int) : Prop :=
 Ri w w.heap.size A n z ∧ (A = none → n = 0 ∧ c = 0) ∧ n ≤ c ∧ c * 8 ≤ 140737488351232 ∧ ∀ k, (Lit.int .i64 (z k)).wf = true

theorem open_row {H : Type} {enc : TypeId × Value → H} {P : Program} {w : World} {t e : TypeId} {fuel : Nat} {A : Option Addr} {n c : Nat} {d : DataW H} {p : List MemPlace}
  (ht : P.underlying t = some (.slice e)) (he : P.underlying e = some (.int .i64)) (hc : P.cellsOf e = 1) (h : DataW.trod enc P w 0 (fun _ => true) true fuel t [.slice A n c] = some (d, p)) :
  ∃ z : Nat → Int, Ri w w.heap.size A n z ∧ (A = none → n = 0 ∧ c = 0) ∧ n ≤ c ∧ (∀ k, (Lit.int .i64 (z k)).wf = true) ∧ (c = 0 ∨ ∃ el sp : List (DataW H), d = .slice el sp ∧ el.length + sp.length = c) := by
 rcases open_ints ht he hc h with ⟨hcs, _⟩ | ⟨a, len, cap, zs, hcs, _, hl, hm, hz, hx, hcell, hwz⟩
 ·simp only [List.cons.injEq, Value.slice.injEq, and_true] at hcs
  obtain ⟨rfl, rfl, rfl⟩ := hcs
  exact ⟨fun _ => 0, Rd.zero _ _ _ _, fun _ => ⟨rfl, rfl⟩, Nat.le_refl _, fun _ => (by decide : (Lit.int .i64 0).wf = true), .inl rfl⟩
 ·simp only [List.cons.injEq, Value.slice.injEq, and_true] at hcs
  obtain ⟨rfl, rfl, rfl⟩ := hcs
  have hzl : zs.length = c := by simpa using hz
  refine ⟨fun k => zs.getD k 0, fun hn => ⟨a, rfl, ?_, fun k hk => hcell k (by omega)⟩, (fun h => by cases h), hl, fun k => ?_, .inr ?_⟩
  ·have := World.block_lt_of_cell? w _ (hcell 0 (by omega))
   rwa [block_add] at this
  ·by_cases hk : k < zs.length
   ·show (Lit.int .i64 (zs.getD k 0)).wf = true
    rw [List.getD_eq_getElem?_getD, List.getElem?_eq_getElem hk]
    exact hwz _ (List.getElem_mem hk)
   ·show (Lit.int .i64 (zs.getD k 0)).wf = true
    rw [List.getD_eq_getElem?_getD, List.getElem?_eq_none (by omega)]
    decide
  ·simp only [Prod.mk.injEq] at hx
   exact ⟨_, _, hx.1, by simp [lits]; omega⟩

/-- the same for a field: its value's make is not yet known -/
theorem open_row1 {H : Type} {enc : TypeId × Value → H} {P : Program} {w : World} {t e : TypeId} {fuel : Nat} {v : Value} {y : DataW H × List MemPlace}
  (ht : P.underlying t = some (.slice e)) (he : P.underlying e = some (.int .i64)) (hc : P.cellsOf e = 1) (h : DataW.trod enc P w 0 (fun _ => true) true fuel t [v] = some y) :
  ∃ (A : Option Addr) (n c : Nat) (z : Nat → Int), v = .slice A n c ∧ Ri w w.heap.size A n z ∧ (A = none → n = 0 ∧ c = 0) ∧ n ≤ c ∧ (∀ k, (Lit.int .i64 (z k)).wf = true) ∧ (c = 0 ∨ ∃ el sp : List (DataW H), y.1 = .slice el sp ∧ el.length + sp.length = c) := by
 obtain ⟨d, p⟩ := y
 rcases open_ints ht he hc h with ⟨hcs, _⟩ | ⟨a, len, cap, zs, hcs, _⟩
 ·simp only [List.cons.injEq, and_true] at hcs
  subst hcs
  obtain ⟨z, r⟩ := open_row ht he hc h
  exact ⟨_, _, _, z, rfl, r⟩
 ·simp only [List.cons.injEq, and_true] at hcs
  subst hcs
  obtain ⟨z, r⟩ := open_row ht he hc h
  exact ⟨_, _, _, z, rfl, r⟩
end Go.Proofs.YtjokibagciehlaaGreat

namespace Go.Proofs.YtjokibagciehlaaGreat
open Go.RowKit
set_option linter.unusedVariables false
set_option linter.unusedSimpArgs false
attribute [local go_sem] and_7

theorem SpAt.arg {w : World} {A : Option Addr} {n : Nat} {z : Nat → Int} {p : Sp} (h : Ri w w.heap.size A n z) (hp : p.cy = (List.range n).map z) : SpAt w w.heap.size p A := by
 unfold SpAt
 rw [hp]
 have e : ((List.range n).map z).length = n := by simp
 rw [e]
 exact Rd.congr h fun k hk => by simp [hk]
/-- on the law's way: both boxes, three readers -/
structure LG (w0 w : World) (SB PB gq gr gB gO : Nat) (t : ByteArray) (aq ar ao : Nat) (s : Sp) (A : Option Addr) (c : Nat) (p : Pp) : Prop where
 ks : Bk w SB 29 (spV s A c)
 kp : Bk w PB 31 (ppV p)
 rq : Rr w gq t aq
 rr : Rr w gr t ar
 ro : RR w gO gB (8 * t.size) (sbit t) ao
 below : Below w0.heap.size w0 w
 ord : w0.heap.size ≤ SB ∧ SB < PB ∧ PB < gq ∧ gq < gr ∧ gr < gB ∧ gB < gO
section
variable {w0 w w' : World} {SB PB gq gr gB gO aq ar ao : Nat} {t : ByteArray} {s : Sp} {A : Option Addr} {c : Nat} {p : Pp}
theorem LG.go (H : LG w0 w SB PB gq gr gB gO t aq ar ao s A c p) (hb : Below w.heap.size w w') : LG w0 w' SB PB gq gr gB gO t aq ar ao s A c p :=
 ⟨H.ks.go hb, H.kp.go hb, Bk.go H.rq hb, Bk.go H.rr hb, H.ro.go hb, H.below.trans (hb.mono H.below.size), H.ord⟩
theorem LG.lt (H : LG w0 w SB PB gq gr gB gO t aq ar ao s A c p) : gO < w.heap.size := by
 obtain ⟨cp, hk⟩ := H.ro.bk
 exact hk.lt
theorem LG.readq (H : LG w0 w SB PB gq gr gB gO t aq ar ao s A c p) {a : Nat} (k : RPost w gq t a w') : LG w0 w' SB PB gq gr gB gO t a ar ao s A c p := by
 have l := H.ord
 have n : ∀ {x : Nat}, x ≠ gq → ¬ RS gq x := fun h e => h e
 obtain ⟨⟨cp, hk⟩, q1, q2, q3⟩ := H.ro
 exact ⟨H.ks.touch k.2 (n (by omega)), H.kp.touch k.2 (n (by omega)), k.1, Bk.touch H.rr k.2 (n (by omega)), ⟨⟨cp, hk.touch k.2 (n (by omega))⟩, q1, Nat.lt_of_lt_of_le q2 k.2.size, fun j hj => (k.2.cell (p := ⟨gB, j, none⟩) q2 (n (by show gB ≠ gq; omega))).trans (q3 j hj)⟩, Below.touch H.below k.2 (fun i hi e => by have e' : i = gq := e; omega) (Nat.le_refl _), l⟩
theorem LG.readr (H : LG w0 w SB PB gq gr gB gO t aq ar ao s A c p) {a : Nat} (k : RPost w gr t a w') : LG w0 w' SB PB gq gr gB gO t aq a ao s A c p := by
 have l := H.ord
 have n : ∀ {x : Nat}, x ≠ gr → ¬ RS gr x := fun h e => h e
 obtain ⟨⟨cp, hk⟩, q1, q2, q3⟩ := H.ro
 exact ⟨H.ks.touch k.2 (n (by omega)), H.kp.touch k.2 (n (by omega)), Bk.touch H.rq k.2 (n (by omega)), k.1, ⟨⟨cp, hk.touch k.2 (n (by omega))⟩, q1, Nat.lt_of_lt_of_le q2 k.2.size, fun j hj => (k.2.cell (p := ⟨gB, j, none⟩) q2 (n (by show gB ≠ gr; omega))).trans (q3 j hj)⟩, Below.touch H.below k.2 (fun i hi e => by have e' : i = gr := e; omega) (Nat.le_refl _), l⟩
theorem LG.reado (H : LG w0 w SB PB gq gr gB gO t aq ar ao s A c p) {a : Nat} (k : RR w' gO gB (8 * t.size) (sbit t) a) (ht : Touch (RS gO) w w') : LG w0 w' SB PB gq gr gB gO t aq ar a s A c p := by
 have l := H.ord
 have n : ∀ {x : Nat}, x ≠ gO → ¬ RS gO x := fun h e => h e
 exact ⟨H.ks.touch ht (n (by omega)), H.kp.touch ht (n (by omega)), Bk.touch H.rq ht (n (by omega)), Bk.touch H.rr ht (n (by omega)), k, Below.touch H.below ht (fun i hi e => by have e' : i = gO := e; omega) (Nat.le_refl _), l⟩
end
theorem RwsR.tch {S : Nat → Prop} {w0 w w' : World} {l : Lst} {q : Ha} {n : Nat} (H : RwsR w0 w l q n) (ht : Touch S w w') (hS : ∀ k, S k → k < w0.heap.size) : RwsR w0 w' l q n := H.keep fun B T cs hB hb => hb.touch ht (fun e => by have := hS B e; omega)
theorem RwsR.go {w0 w w' : World} {l : Lst} {q : Ha} {n : Nat} (H : RwsR w0 w l q n) (hb : Below w.heap.size w w') : RwsR w0 w' l q n := H.keep fun B T cs _ h => h.go hb
theorem HOw.tch {S : Nat → Prop} {w w' : World} {B0 : Nat} {l : Lst} {q : Ha} (H : HOw w B0 l q) (ht : Touch S w w') (hS : ∀ k, S k → k < B0) : HOw w' B0 l q :=
 ⟨own_touch H.m0 ht fun k hk e => by have h1 := hS k e; have h2 := (H.m0.lt k hk).1; omega, own_touch H.m1 ht fun k hk e => by have h1 := hS k e; have h2 := (H.m1.lt k hk).1; omega, own_touch H.w0 ht fun k hk e => by have h1 := hS k e; have h2 := (H.w0.lt k hk).1; omega, own_touch H.w1 ht fun k hk e => by have h1 := hS k e; have h2 := (H.w1.lt k hk).1; omega, own_touch H.ops ht fun k hk e => by have h1 := hS k e; have h2 := (H.ops.lt k hk).1; omega⟩
theorem SpR.tch {S : Nat → Prop} {w w' : World} {lo hi C i n : Nat} {A : Option Addr} (H : SpR w lo hi A C i n) (ht : Touch S w w') (hh : hi ≤ w.heap.size) (hS : ∀ k, S k → k < lo ∨ hi ≤ k) : SpR w' lo hi A C i n := fun hn => by
 obtain ⟨g, h1, h2, h3, h4⟩ := H hn
 have hb := ht.block g (by omega) (fun e => by have := hS g e; omega)
 refine ⟨g, h1, h2, h3, fun j hj => ?_⟩
 obtain ⟨x, e1, e2⟩ := h4 j hj
 exact ⟨x, (World.cell?_of_block (w := w) (a := ⟨g, j * C + i, none⟩) hb).trans e1, (World.frozen?_of_block (w := w) (a := ⟨g, j * C + i, none⟩) hb).trans e2⟩
theorem SpHd.tch {S : Nat → Prop} {w w' : World} {lo hi : Nat} {h : Hd} {q : Ha} (H : SpHd w lo hi h q) (ht : Touch S w w') (hh : hi ≤ w.heap.size) (hS : ∀ k, S k → k < lo ∨ hi ≤ k) : SpHd w' lo hi h q :=
 ⟨H.m0.tch ht hh hS, H.m1.tch ht hh hS, H.w0.tch ht hh hS, H.w1.tch ht hh hS, H.ops.tch ht hh hS, H.len⟩
theorem SpHd.below {w w' : World} {lo hi : Nat} {h : Hd} {q : Ha} (H : SpHd w lo hi h q) (hb : Below w.heap.size w w') : SpHd w' lo hi h q := H.go (Nums.below hb)
section
variable (t : ByteArray) (a_t : Int) (s : Sp) (A : Option Addr) (c : Nat) (p : Pp) (ref : Int) (key : Bool) (w : World) (ht : t.size ≤ 1048576) (hs : SpAt w w.heap.size s A) (hn : s.cy.length ≤ 1152921504606846976)
include ht hs hn
set_option maxRecDepth 100000 in
set_option maxHeartbeats 12800000 in
theorem gets_all : Calls Tryz.prog 4 #[.string t, .int .i64 a_t, .agg (spV s A c), .agg (ppV p), .int .i64 ref, .bool key] w fun e w' => e = .returned (.bool true) ∧ Below w.heap.size w w' := by
 have HO := Lib.hid (fun (w : World) => openr_any t w (by omega))
 obtain ⟨x, hx⟩ : ∃ x, a_t % 8 = x := ⟨_, rfl⟩
 have hx0 : 0 ≤ x := by rw [← hx]; exact Int.emod_nonneg _ (by decide)
 have hx7 : x < 8 := by rw [← hx]; exact Int.emod_lt_of_pos _ (by decide)
 obtain ⟨a1, ha1⟩ : ∃ a, (bitsR (sbit t) (8 * t.size) 0 x).at_ = a := ⟨_, rfl⟩
 have hal : a1 ≤ 8 * t.size := ha1 ▸ bitsR_le _ _ _ _ (Nat.zero_le _)
 have HB1 := Lib.hid (fun (w : World) (g : Nat) (h : Rr w g t 0) => ((rbits_any g t 0 x w h (by omega) (Nat.zero_le _)).mono fun e w' q => ⟨q.1, ha1 ▸ q.2⟩ : Calls Tryz.prog 20 #[.pointer (some ⟨g, 0, none⟩), .int .i64 x] w fun e w' => e = .returned (.tuple #[.int .i64 (bitsR (sbit t) (8 * t.size) 0 x).x, .int .i64 (bitsR (sbit t) (8 * t.size) 0 x).e]) ∧ RPost w g t a1 w'))
 have HB2 := Lib.hid (fun (w : World) (g gB : Nat) (h : RR w g gB (8 * t.size) (sbit t) 0) => ((bits2_any g gB (8 * t.size) (sbit t) 0 x w h (by omega) (Nat.zero_le _)).mono fun e w' q => ⟨q.1, ha1 ▸ q.2⟩ : Calls Tryz.prog 22 #[.pointer (some ⟨g, 0, none⟩), .int .i64 x] w fun e w' => e = .returned (.tuple #[.int .i64 (bitsR (sbit t) (8 * t.size) 0 x).x, .int .i64 (bitsR (sbit t) (8 * t.size) 0 x).e]) ∧ RRPost w g gB (8 * t.size) (sbit t) a1 w'))
 obtain ⟨h, E, a2, hR⟩ : ∃ h E a2, getHd (sbit t) (8 * t.size) s p ref key a1 = (h, E, a2) := ⟨_, _, _, rfl⟩
 have hR2 := (getHd_same (f := sbit t) (N := 8 * t.size) s p ref key a1).trans hR
 have HG1 := Lib.hid (fun (w : World) (g : Nat) (h1 : Rr w g t a1) (h2 : SpAt w g s A) => ((hget_any s A c p ref key h1 (by omega) hal h2 hn).mono fun e w' q => hR ▸ q : Calls Tryz.prog 23 #[.pointer (some ⟨g, 0, none⟩), .agg (spV s A c), .agg (ppV p), .int .i64 ref, .bool key] w fun e w' => GetPost w g t (h, E, a2) e w'))
 have HG2 := Lib.hid (fun (w : World) (g gB : Nat) (h1 : RR w g gB (8 * t.size) (sbit t) a1) (h2 : SpAt w g s A) => ((dGt_any h1 (by omega) hal s A c p ref key h2 hn).mono fun e w' q => hR2 ▸ q : Calls Tryz.prog 24 #[.pointer (some ⟨g, 0, none⟩), .agg (spV s A c), .agg (ppV p), .int .i64 ref, .bool key] w fun e w' => GUPo w w' g gB (8 * t.size) (sbit t) (h, E, a2) e))
 have HSP := Lib.hid (fun (w' : World) (g : Nat) (hb : Below w.heap.size w w') (hg : w.heap.size ≤ g) => (Rd.more (Rd.below hs hb (Nat.le_refl _)) hg : SpAt w' g s A))
 obtain ⟨w2, hw2⟩ : ∃ x, x = (w.alloc (.cells (spV s A c) 29)).alloc (.cells (ppV p) 31) := ⟨_, rfl⟩
 have KS : Hid (Bk w2 w.heap.size 29 (spV s A c)) := Lib.hid (hw2 ▸ (Bk.new w _ _).alloc _)
 have KP : Hid (Bk w2 (w.heap.size + 1) 31 (ppV p)) := Lib.hid (by
  have := Bk.new (w.alloc (.cells (spV s A c) 29)) 31 (ppV p)
  rw [World.size_alloc] at this
  exact hw2 ▸ this)
 have HBL : Hid (Below w.heap.size w w2) := Lib.hid (hw2 ▸ ((Below.refl _ _).alloc (Nat.le_refl _) _).alloc (by simp) _)
 have HZ : Hid (w2.heap.size = w.heap.size + 1 + 1) := Lib.hid (by rw [hw2]; simp)
 clear ht hs hn hR hR2 ha1 hal
 simp only [spV, ppV] at hw2 ⊢
 go_enter Tryz.func4, Tryz.ntmps4
 go_upto_region 2 with fail
 rw [← hw2]
 clear hw2 hx
 go_wp2_with fail
 refine (open_any t w2).mono ?_
 rintro e w3 ⟨rfl, rfl⟩
 go_wp2_with fail
 refine (open_any t _).mono ?_
 rintro e w3 ⟨rfl, h3⟩
 obtain ⟨SB, hSB⟩ : ∃ n, w.heap.size = n := ⟨_, rfl⟩
 obtain ⟨PB, hPB⟩ : ∃ n, SB + 1 = n := ⟨_, rfl⟩
 obtain ⟨gq, hgq⟩ : ∃ n, PB + 1 = n := ⟨_, rfl⟩
 obtain ⟨gr, hgr⟩ : ∃ n, gq + 1 = n := ⟨_, rfl⟩
 have e2 : w2.heap.size = gq := by rw [HZ.out, hSB, hPB, hgq]
 have e3 : (w2.alloc (.cells #[.string t, .int .i64 0] 103)).heap.size = gr := by rw [World.size_alloc, e2, hgr]
 have rq3 : Rr w3 gq t 0 := by
  have := (Bk.new w2 103 #[.string t, .int .i64 0]).alloc (.cells #[.string t, .int .i64 0] 103)
  rw [e2] at this
  exact h3 ▸ this
 have rr3 : Rr w3 gr t 0 := by
  have := Bk.new (w2.alloc (.cells #[.string t, .int .i64 0] 103)) 103 #[.string t, .int .i64 0]
  rw [e3] at this
  exact h3 ▸ this
 have b3 : Below w2.heap.size w2 w3 := h3 ▸ ((Below.refl _ _).alloc (Nat.le_refl _) _).alloc (by simp) _
 replace KS := Lib.hid (KS.out.go b3)
 replace KP := Lib.hid (KP.out.go b3)
 replace HBL := Lib.hid (HBL.out.trans (b3.mono HBL.out.size))
 rw [hSB] at KS KP
 rw [hPB] at KP
 rw [e2, e3, hSB, hPB]
 have HQ := Lib.hid rq3
 have HRr := Lib.hid rr3
 have HO3 : Hid (w.heap.size ≤ SB ∧ SB < PB ∧ PB < gq ∧ gq < gr) := Lib.hid (by omega)
 clear rq3 rr3 b3 h3 e2 e3 HZ hSB hPB hgq hgr
 go_wp2_with fail
 refine (HB1.out w3 gq HQ.out).mono ?_
 rintro e w4 ⟨rfl, hp⟩
 have n4 : ∀ {x : Nat}, x ≠ gq → ¬ RS gq x := fun h e => h e
 have o3 := HO3.out
 replace KS := Lib.hid (KS.out.touch hp.2 (n4 (by omega)))
 replace KP := Lib.hid (KP.out.touch hp.2 (n4 (by omega)))
 replace HRr := Lib.hid (Bk.touch HRr.out hp.2 (n4 (by omega)) : Rr w4 gr t 0)
 replace HQ := Lib.hid hp.1
 replace HBL := Lib.hid (Below.touch HBL.out hp.2 (fun i hi e => by have e' : i = gq := e; omega) (Nat.le_refl _))
 clear hp n4 o3
 go_wp2_with fail
 refine (HB1.out w4 gr HRr.out).mono ?_
 rintro e w5 ⟨rfl, hp⟩
 have n4 : ∀ {x : Nat}, x ≠ gr → ¬ RS gr x := fun h e => h e
 have o3 := HO3.out
 replace KS := Lib.hid (KS.out.touch hp.2 (n4 (by omega)))
 replace KP := Lib.hid (KP.out.touch hp.2 (n4 (by omega)))
 replace HQ := Lib.hid (Bk.touch HQ.out hp.2 (n4 (by omega)) : Rr w5 gq t a1)
 replace HRr := Lib.hid hp.1
 replace HBL := Lib.hid (Below.touch HBL.out hp.2 (fun i hi e => by have e' : i = gr := e; omega) (Nat.le_refl _))
 clear hp n4 o3 HB1
 go_wp2_with fail
 refine (HO.out w5).mono ?_
 rintro e w6 ⟨gB, cp, rfl, hB1, hB2, hB3, hb⟩
 have q5 := Bk.lt HRr.out
 replace KS := Lib.hid (KS.out.go hb)
 replace KP := Lib.hid (KP.out.go hb)
 replace HQ := Lib.hid (Bk.go HQ.out hb : Rr w6 gq t a1)
 replace HRr := Lib.hid (Bk.go HRr.out hb : Rr w6 gr t a1)
 replace HBL := Lib.hid (HBL.out.trans (hb.mono HBL.out.size))
 have HB3 := Lib.hid hB3
 have HB4 : Hid (gr < gB ∧ gB < w6.heap.size) := Lib.hid ⟨by omega, hB2⟩
 clear hb hB1 hB2 hB3 q5 HO
 go_upto_region 6 with fail
 obtain ⟨gO, hgo⟩ : ∃ n, w6.heap.size = n := ⟨_, rfl⟩
 have kg := Bk.new w6 57 #[.slice (some ⟨gB, 0, none⟩) (8 * t.size) cp, .int .i64 0]
 have b6 : Below w6.heap.size w6 (w6.alloc (.cells #[.slice (some ⟨gB, 0, none⟩) (8 * t.size) cp, .int .i64 0] 57)) := (Below.refl _ _).alloc (Nat.le_refl _) _
 obtain ⟨w7, hw7⟩ : ∃ x, x = w6.alloc (.cells #[.slice (some ⟨gB, 0, none⟩) (8 * t.size) cp, .int .i64 0] 57) := ⟨_, rfl⟩
 rw [← hw7] at kg b6
 have hLG : LG w w7 SB PB gq gr gB gO t a1 a1 0 s A c p := by
  have o3 := HO3.out
  have o4 := HB4.out
  refine ⟨KS.out.go b6, KP.out.go b6, Bk.go HQ.out b6, Bk.go HRr.out b6, ⟨⟨cp, hgo ▸ kg⟩, by omega, Nat.lt_of_lt_of_le o4.2 b6.size, fun k hk => (b6.cell (p := ⟨gB, k, none⟩) o4.2).trans (HB3.out k hk)⟩, HBL.out.trans (b6.mono HBL.out.size), by omega⟩
 rw [← hw7]
 rw [hgo]
 have HX := Lib.hid hLG
 clear hw7 b6 kg hgo hLG KS KP HQ HRr HBL HO3 HB3 HB4
 go_wp2_with fail
 refine (HB2.out w7 gO gB HX.out.ro).mono ?_
 rintro e w8 ⟨rfl, hp⟩
 replace HX := Lib.hid (HX.out.reado hp.1 hp.2)
 clear hp HB2
 have O := HX.out.ord
 go_upto_region 7 with fail
 refine wp_region_lit ?_
 refine wpl_val rfl (run_move rfl rfl) ?_
 simp only [Act.put, p2, p0, p1]
 refine wpl_val rfl (run_load_row (x := .tmp 8) rfl rfl (load_sps HX.out.ks)) ?_
 simp only [Act.put, p2, p0, p1]
 refine wpl_val rfl (run_load_row (x := .tmp 9) rfl rfl (load_pps HX.out.kp)) ?_
 simp only [Act.put, p2, p0, p1]
 refine wpl_val rfl (run_move rfl rfl) ?_
 simp only [Act.put, p2, p0, p1]
 refine wpl_val rfl (run_move rfl rfl) ?_
 simp only [Act.put, p2, p0, p1]
 refine wpl_call rfl (f := 23) (args := #[.pointer (some ⟨gq, 0, none⟩), .agg (spV s A c), .agg (ppV p), .int .i64 ref, .bool key]) (by kernel_rfl) ?_
 refine (HG1.out w8 gq HX.out.rq (HSP.out w8 gq HX.out.below (by omega))).mono ?_
 rintro e wA ⟨qA, rfl, hrp, hrw⟩
 refine ⟨_, rfl, ?_⟩
 have l8 := HX.out.lt
 have L8 : Hid (gO < w8.heap.size ∧ w8.heap.size ≤ wA.heap.size ∧ w.heap.size ≤ w8.heap.size) := Lib.hid ⟨l8, hrp.2.size, HX.out.below.size⟩
 replace HX := Lib.hid (HX.out.readq (a := a2) hrp)
 have SA := Lib.hid (RwsR.sp hrw (Nat.le_refl _) : SpHd wA w8.heap.size wA.heap.size h qA)
 have RA := Lib.hid (hrw : RwsR w8 wA h.ls qA 5)
 clear hrp hrw l8
 simp only [Act.put, p2, p0, p1]
 refine wpl_val rfl (run_move rfl rfl) ?_
 simp only [Act.put, p2, p0, p1]
 refine wpl_val rfl (run_ext0 (v := .agg (hdV h qA)) (u := .int .i64 E) rfl rfl) ?_
 simp only [Act.put, p2, p0, p1]
 refine wpl_val rfl (run_ext1 (v := .agg (hdV h qA)) (u := .int .i64 E) rfl rfl) ?_
 simp only [Act.put, p2, p0, p1]
 refine wpl_val rfl (run_alloc_head _ _ _ rfl) ?_
 simp only [Act.put, p2, p0, p1]
 obtain ⟨HA, hHA⟩ : ∃ n, wA.heap.size = n := ⟨_, rfl⟩
 have kn : Bk (wA.alloc (.cells (hdV Hd.zero Ha.zero) 26)) HA 26 (hdV Hd.zero Ha.zero) := hHA ▸ Bk.new wA _ _
 rw [hHA]
 refine wpList_store_row rfl _ _ _ rfl HA (hdV h qA) rfl rfl _ _ kn (by kernel_rfl) rfl (hd_one _ _) ?_
 obtain ⟨wn, hwn⟩ : ∃ x, (wA.alloc (.cells (hdV Hd.zero Ha.zero) 26)).setRow HA (hdV h qA) = x := ⟨_, rfl⟩
 have hb8 : Below wA.heap.size wA wn := hwn ▸ (touch_setRow (Touch.of_new (S := fun _ => False) ((Below.refl _ _).alloc (Nat.le_refl _) _)) _ _ (by omega)).below (fun _ h => h.elim) (Nat.le_refl _)
 have KA := Lib.hid (hwn ▸ bk_setRow kn : Bk wn HA 26 (hdV h qA))
 have LA : Hid (wA.heap.size ≤ HA ∧ HA < wn.heap.size ∧ wA.heap.size ≤ wn.heap.size) := Lib.hid ⟨by omega, Bk.lt KA.out, hb8.size⟩
 rw [hwn]
 replace HX := Lib.hid (HX.out.go hb8)
 replace SA := Lib.hid (SA.out.below hb8)
 replace RA := Lib.hid (RA.out.go hb8)
 clear hb8 hwn kn hHA
 refine wpl_val rfl (run_assign rfl rfl) ?_
 simp only [Act.put, p2, p0, p1]
 obtain ⟨w9, hw9⟩ : ∃ x, x = wn := ⟨_, rfl⟩
 rw [← hw9] at HX SA RA KA LA ⊢
 clear hw9
 go_upto_region 8 with fail
 refine wp_region_lit ?_
 refine wpl_val rfl (run_move rfl rfl) ?_
 simp only [Act.put, p2, p0, p1]
 refine wpl_val rfl (run_load_row (x := .tmp 8) rfl rfl (load_sps HX.out.ks)) ?_
 simp only [Act.put, p2, p0, p1]
 refine wpl_val rfl (run_load_row (x := .tmp 9) rfl rfl (load_pps HX.out.kp)) ?_
 simp only [Act.put, p2, p0, p1]
 refine wpl_val rfl (run_move rfl rfl) ?_
 simp only [Act.put, p2, p0, p1]
 refine wpl_val rfl (run_move rfl rfl) ?_
 simp only [Act.put, p2, p0, p1]
 refine wpl_call rfl (f := 23) (args := #[.pointer (some ⟨gr, 0, none⟩), .agg (spV s A c), .agg (ppV p), .int .i64 ref, .bool key]) (by kernel_rfl) ?_
 refine (HG1.out w9 gr HX.out.rr (HSP.out w9 gr HX.out.below (by omega))).mono ?_
 rintro e wB ⟨qB, rfl, hrp, hrw⟩
 refine ⟨_, rfl, ?_⟩
 have l8 := L8.out
 have l9 := LA.out
 have L9 : Hid (w9.heap.size ≤ wB.heap.size) := Lib.hid hrp.2.size
 have nr : ∀ k, RS gr k → k < w8.heap.size := fun k e => by have e' : k = gr := e; omega
 replace HX := Lib.hid (HX.out.readr (a := a2) hrp)
 replace SA := Lib.hid (SA.out.tch hrp.2 l9.2.2 (fun k e => .inl (nr k e)))
 replace RA := Lib.hid (RA.out.tch hrp.2 nr)
 replace KA := Lib.hid (KA.out.touch hrp.2 (fun e => by have := nr _ e; omega))
 have RB := Lib.hid (hrw : RwsR w9 wB h.ls qB 5)
 clear hrp hrw l8 l9 nr
 simp only [Act.put, p2, p0, p1]
 refine wpl_val rfl (run_move rfl rfl) ?_
 simp only [Act.put, p2, p0, p1]
 refine wpl_val rfl (run_ext0 (v := .agg (hdV h qB)) (u := .int .i64 E) rfl rfl) ?_
 simp only [Act.put, p2, p0, p1]
 refine wpl_val rfl (run_ext1 (v := .agg (hdV h qB)) (u := .int .i64 E) rfl rfl) ?_
 simp only [Act.put, p2, p0, p1]
 refine wpl_val rfl (run_alloc_head _ _ _ rfl) ?_
 simp only [Act.put, p2, p0, p1]
 obtain ⟨HB, hHB⟩ : ∃ n, wB.heap.size = n := ⟨_, rfl⟩
 have kn : Bk (wB.alloc (.cells (hdV Hd.zero Ha.zero) 26)) HB 26 (hdV Hd.zero Ha.zero) := hHB ▸ Bk.new wB _ _
 rw [hHB]
 refine wpList_store_row rfl _ _ _ rfl HB (hdV h qB) rfl rfl _ _ kn (by kernel_rfl) rfl (hd_one _ _) ?_
 obtain ⟨wn, hwn⟩ : ∃ x, (wB.alloc (.cells (hdV Hd.zero Ha.zero) 26)).setRow HB (hdV h qB) = x := ⟨_, rfl⟩
 have hb8 : Below wB.heap.size wB wn := hwn ▸ (touch_setRow (Touch.of_new (S := fun _ => False) ((Below.refl _ _).alloc (Nat.le_refl _) _)) _ _ (by omega)).below (fun _ h => h.elim) (Nat.le_refl _)
 have KB := Lib.hid (hwn ▸ bk_setRow kn : Bk wn HB 26 (hdV h qB))
 have LB : Hid (wB.heap.size ≤ HB ∧ HB < wn.heap.size ∧ wB.heap.size ≤ wn.heap.size) := Lib.hid ⟨by omega, Bk.lt KB.out, hb8.size⟩
 rw [hwn]
 replace HX := Lib.hid (HX.out.go hb8)
 replace SA := Lib.hid (SA.out.below hb8)
 replace RA := Lib.hid (RA.out.go hb8)
 replace KA := Lib.hid (KA.out.go hb8)
 replace RB := Lib.hid (RB.out.go hb8)
 clear hb8 hwn kn hHB
 refine wpl_val rfl (run_assign rfl rfl) ?_
 simp only [Act.put, p2, p0, p1]
 obtain ⟨w10, hw10⟩ : ∃ x, x = wn := ⟨_, rfl⟩
 rw [← hw10] at HX SA RA KA RB KB LB ⊢
 clear hw10 HG1
 go_upto_region 9 with fail
 refine wp_region_lit ?_
 refine wpl_val rfl (run_move rfl rfl) ?_
 simp only [Act.put, p2, p0, p1]
 refine wpl_val rfl (run_load_row (x := .tmp 8) rfl rfl (load_sps HX.out.ks)) ?_
 simp only [Act.put, p2, p0, p1]
 refine wpl_val rfl (run_load_row (x := .tmp 9) rfl rfl (load_pps HX.out.kp)) ?_
 simp only [Act.put, p2, p0, p1]
 refine wpl_val rfl (run_move rfl rfl) ?_
 simp only [Act.put, p2, p0, p1]
 refine wpl_val rfl (run_move rfl rfl) ?_
 simp only [Act.put, p2, p0, p1]
 refine wpl_call rfl (f := 24) (args := #[.pointer (some ⟨gO, 0, none⟩), .agg (spV s A c), .agg (ppV p), .int .i64 ref, .bool key]) (by kernel_rfl) ?_
 refine (HG2.out w10 gO gB HX.out.ro (HSP.out w10 gO HX.out.below (by omega))).mono ?_
 rintro e wC ⟨qC, rfl, hrr, hho, htt⟩
 refine ⟨_, rfl, ?_⟩
 have l8 := L8.out
 have l9 := LA.out
 have l10 := L9.out
 have l11 := LB.out
 have L10 : Hid (w10.heap.size ≤ wC.heap.size) := Lib.hid htt.size
 have nr : ∀ k, RS gO k → k < w8.heap.size := fun k e => by have e' : k = gO := e; omega
 replace HX := Lib.hid (HX.out.reado (a := a2) hrr htt)
 replace SA := Lib.hid (SA.out.tch htt (by omega) (fun k e => .inl (nr k e)))
 replace RA := Lib.hid (RA.out.tch htt nr)
 replace KA := Lib.hid (KA.out.touch htt (fun e => by have := nr _ e; omega))
 replace RB := Lib.hid (RB.out.tch htt (fun k e => by have := nr k e; omega))
 replace KB := Lib.hid (KB.out.touch htt (fun e => by have := nr _ e; omega))
 have RC := Lib.hid (hho : HOw wC w10.heap.size h.ls qC)
 clear hrr hho htt l8 l9 l10 l11 nr HG2 HSP
 simp only [Act.put, p2, p0, p1]
 refine wpl_val rfl (run_move rfl rfl) ?_
 simp only [Act.put, p2, p0, p1]
 refine wpl_val rfl (run_ext0 (v := .agg (hdV h qC)) (u := .int .i64 E) rfl rfl) ?_
 simp only [Act.put, p2, p0, p1]
 refine wpl_val rfl (run_ext1 (v := .agg (hdV h qC)) (u := .int .i64 E) rfl rfl) ?_
 simp only [Act.put, p2, p0, p1]
 refine wpl_val rfl (run_alloc_head _ _ _ rfl) ?_
 simp only [Act.put, p2, p0, p1]
 obtain ⟨HC, hHC⟩ : ∃ n, wC.heap.size = n := ⟨_, rfl⟩
 have kn : Bk (wC.alloc (.cells (hdV Hd.zero Ha.zero) 26)) HC 26 (hdV Hd.zero Ha.zero) := hHC ▸ Bk.new wC _ _
 rw [hHC]
 refine wpList_store_row rfl _ _ _ rfl HC (hdV h qC) rfl rfl _ _ kn (by kernel_rfl) rfl (hd_one _ _) ?_
 obtain ⟨wn, hwn⟩ : ∃ x, (wC.alloc (.cells (hdV Hd.zero Ha.zero) 26)).setRow HC (hdV h qC) = x := ⟨_, rfl⟩
 have hb8 : Below wC.heap.size wC wn := hwn ▸ (touch_setRow (Touch.of_new (S := fun _ => False) ((Below.refl _ _).alloc (Nat.le_refl _) _)) _ _ (by omega)).below (fun _ h => h.elim) (Nat.le_refl _)
 have KC := Lib.hid (hwn ▸ bk_setRow kn : Bk wn HC 26 (hdV h qC))
 have LC : Hid (wC.heap.size ≤ HC ∧ HC < wn.heap.size ∧ wC.heap.size ≤ wn.heap.size) := Lib.hid ⟨by omega, Bk.lt KC.out, hb8.size⟩
 rw [hwn]
 replace HX := Lib.hid (HX.out.go hb8)
 replace SA := Lib.hid (SA.out.below hb8)
 replace RA := Lib.hid (RA.out.go hb8)
 replace KA := Lib.hid (KA.out.go hb8)
 replace RB := Lib.hid (RB.out.go hb8)
 replace KB := Lib.hid (KB.out.go hb8)
 replace RC := Lib.hid (RC.out.go hb8)
 clear hb8 hwn kn hHC
 refine wpl_val rfl (run_assign rfl rfl) ?_
 simp only [Act.put, p2, p0, p1]
 obtain ⟨w11, hw11⟩ : ∃ x, x = wn := ⟨_, rfl⟩
 rw [← hw11] at HX SA RA KA RB KB RC KC LC ⊢
 clear hw11
 have HL := Lib.hid (RA.out.lens : HdLen h)
 have cO : w11.cell? ⟨gO, 1, none⟩ = some (.int .i64 a2) := by obtain ⟨cp', hk⟩ := HX.out.ro.bk; exact hk.cell 1
 have lO := HX.out.lt
 have HSH := Lib.hid (fun (w' : World) (hb : Below w11.heap.size w11 w') => samehd_yes h qA qC w' (RA.out.go hb).hd (RC.out.go hb).hd HL.out)
 have HAT := Lib.hid (fun (w' : World) (hb : Below w11.heap.size w11 w') => at_any gq t a2 w' (Bk.go HX.out.rq hb))
 go_upto_region 10 with fail
 refine wp_region_class (fun w' => Below w11.heap.size w11 w') (by kernel_rfl) (by kernel_rfl) ((Below.refl _ _).drew) ?_
 repeat (first
  | go_big_quiet_skip
  | (go_big_quiet_want; first
    | (go_big_quiet_op; go_big_quiet_on)
    | (refine qv_val (v := .agg (hdV h qA)) (fun w' hw' => run_load_row (g := HA) rfl rfl (load_head (KA.out.go hw'))) ?_; (try simp only [Act.put, p2, p0, p1]); go_big_quiet_on)
    | (refine qv_val (v := .agg (hdV h qC)) (fun w' hw' => run_load_row (g := HC) rfl rfl (load_head (KC.out.go hw'))) ?_; (try simp only [Act.put, p2, p0, p1]); go_big_quiet_on)
    | (refine qv_val (v := ?_) ?_ ?_; rotate_left 1; (intro w' hw'; obtain ⟨hcc, hff⟩ := bcell hw'; clear hff hw'; go_simp; (try with_reducible rfl)); (try simp only [Act.put, p2, p0, p1]); go_big_quiet_on)
    | (refine qv_call (v := ?_) (f := ?_) (args := ?_) ?_ ?_ ?_; rotate_left 3; (intro w' hw'; clear hw'; go_simp; (refine ⟨?_, ?_⟩ <;> rfl)); (first | (intro w' hw'; refine (num_any _ _).mono ?_; rintro e w'' ⟨rfl, rfl⟩; refine ⟨?_, hw'⟩; skip; rfl) | (intro w' hw'; refine (HAT.out w' hw').mono ?_; rintro e w'' ⟨rfl, rfl⟩; refine ⟨?_, hw'⟩; skip; rfl) | (intro w' hw'; refine (HSH.out w' hw').mono ?_; rintro e wh ⟨rfl, hbh⟩; refine ⟨?_, Below.trans hw' (hbh.mono hw'.size)⟩; skip; rfl)); (try simp only [Act.put, p2, p0, p1]); go_big_quiet_on)))
 with_reducible refine wpQuiet_nil ?_
 intro w12 hw
 clear cO lO HSH HAT
 have lt11 : gO < w11.heap.size := HX.out.lt
 replace HX := Lib.hid (HX.out.go hw)
 replace SA := Lib.hid (SA.out.below hw)
 replace RB := Lib.hid (RB.out.go hw)
 replace RC := Lib.hid (RC.out.go hw)
 replace KA := Lib.hid (KA.out.go hw)
 replace KB := Lib.hid (KB.out.go hw)
 replace KC := Lib.hid (KC.out.go hw)
 have LW : Hid (w11.heap.size ≤ w12.heap.size) := Lib.hid hw.size
 clear hw lt11 RA
 go_upto_region 12 with fail
 refine wp_region_lit ?_
 refine wpl_val rfl (run_load_row (x := .tmp 17) rfl rfl (load_head KA.out)) ?_
 simp only [Act.put, p2, p0, p1]
 have l8 := L8.out
 have l9 := LA.out
 have l10 := L9.out
 have l11 := LB.out
 have l12 := L10.out
 have l13 := LC.out
 have l14 := LW.out
 refine wpl_call rfl (f := 27) (args := #[.agg (hdV h qA)]) (by kernel_rfl) ?_
 refine (spoilhd_any SA.out (by omega)).mono ?_
 rintro e w13 ⟨rfl, htq⟩
 refine ⟨_, rfl, ?_⟩
 replace RB := Lib.hid (RB.out.tch htq (fun k e => by omega))
 replace RC := Lib.hid (RC.out.tch htq (fun k e => by omega))
 replace KB := Lib.hid (KB.out.touch htq (fun e => by omega))
 replace KC := Lib.hid (KC.out.touch htq (fun e => by omega))
 have HBL : Hid (Below w.heap.size w w13) := Lib.hid (Below.touch HX.out.below htq (fun i hi e => by omega) (Nat.le_refl _))
 clear htq l8 l9 l10 l11 l12 l13 l14 KA SA HX O
 go_upto_region 13 with fail
 refine wp_region_lit ?_
 refine wpl_val rfl (run_load_row (x := .tmp 19) rfl rfl (load_head KB.out)) ?_
 simp only [Act.put, p2, p0, p1]
 refine wpl_val rfl (run_load_row (x := .tmp 21) rfl rfl (load_head KC.out)) ?_
 simp only [Act.put, p2, p0, p1]
 refine wpl_call rfl (f := 25) (args := #[.agg (hdV h qB), .agg (hdV h qC)]) (by kernel_rfl) ?_
 refine (samehd_yes h qB qC w13 RB.out.hd RC.out.hd HL.out).mono ?_
 rintro e w14 ⟨rfl, hb⟩
 refine ⟨_, rfl, ?_⟩
 replace HBL := Lib.hid (HBL.out.trans (hb.mono HBL.out.size))
 clear hb RB RC KB KC
 simp only [Act.put, p2, p0, p1]
 go_wp2_with fail
 refine (awake_any w14).mono ?_
 rintro e w15 ⟨rfl, hb⟩
 replace HBL := Lib.hid (HBL.out.trans (hb.mono HBL.out.size))
 clear hb
 go_wp2_with fail
 go_ret
 exact ⟨rfl, HBL.out⟩
end
theorem walk_HeadGets (a0 : ByteArray) (a1 : Int) (a2_Wide : Int) (a2_High : Int) (a2_FrameBits : Int) (a2_PocType : Int) (a2_PocBits : Int) (a2_NonRef : Int) (a2_Cycle : Option Addr) (len_a2_Cycle cap_a2_Cycle : Nat) (z_a2_Cycle : Nat → Int) (a2_Refs : Int) (a2_Delay : Int) (a3_Cabac : Bool) (a3_Weighted : Bool) (a3_BiPred : Int) (a3_Qp : Int) (a3_ChromaQp : Int) (a3_Constrained : Bool) (a3_Deblock : Bool) (a3_Active0 : Int) (a3_Active1 : Int) (a4 : Int) (a5 : Bool) (w : World) (w_a0 : a0.size ≤ 1048576) (w_a1 : (Lit.int .i64 a1).wf = true) (w_a2_Wide : (Lit.int .i64 a2_Wide).wf = true) (w_a2_High : (Lit.int .i64 a2_High).wf = true) (w_a2_FrameBits : (Lit.int .i64 a2_FrameBits).wf = true) (w_a2_PocType : (Lit.int .i64 a2_PocType).wf = true) (w_a2_PocBits : (Lit.int .i64 a2_PocBits).wf = true) (w_a2_NonRef : (Lit.int .i64 a2_NonRef).wf = true) (w_a2_Cycle : IntsArg w a2_Cycle len_a2_Cycle cap_a2_Cycle z_a2_Cycle) (w_a2_Refs : (Lit.int .i64 a2_Refs).wf = true) (w_a2_Delay : (Lit.int .i64 a2_Delay).wf = true) (w_a3_BiPred : (Lit.int .i64 a3_BiPred).wf = true) (w_a3_Qp : (Lit.int .i64 a3_Qp).wf = true) (w_a3_ChromaQp : (Lit.int .i64 a3_ChromaQp).wf = true) (w_a3_Active0 : (Lit.int .i64 a3_Active0).wf = true) (w_a3_Active1 : (Lit.int .i64 a3_Active1).wf = true) (w_a4 : (Lit.int .i64 a4).wf = true) :
  Calls Tryz.prog 4 #[.string a0, .int .i64 a1, .agg #[.int .i64 a2_Wide, .int .i64 a2_High, .int .i64 a2_FrameBits, .int .i64 a2_PocType, .int .i64 a2_PocBits, .int .i64 a2_NonRef, .slice a2_Cycle len_a2_Cycle cap_a2_Cycle, .int .i64 a2_Refs, .int .i64 a2_Delay], .agg #[.bool a3_Cabac, .bool a3_Weighted, .int .i64 a3_BiPred, .int .i64 a3_Qp, .int .i64 a3_ChromaQp, .bool a3_Constrained, .bool a3_Deblock, .int .i64 a3_Active0, .int .i64 a3_Active1], .int .i64 a4, .bool a5] w fun e w' => e = .returned (.bool true) ∧ Below w.heap.size w w' := by
 obtain ⟨hri, _, hnc, hc8, _⟩ := w_a2_Cycle
 obtain ⟨cy, hcy⟩ : ∃ l, l = (List.range len_a2_Cycle).map z_a2_Cycle := ⟨_, rfl⟩
 have hs : SpAt w w.heap.size ⟨a2_Wide, a2_High, a2_FrameBits, a2_PocType, a2_PocBits, a2_NonRef, cy, a2_Refs, a2_Delay⟩ a2_Cycle := SpAt.arg hri hcy
 have hcl : len_a2_Cycle = cy.length := by rw [hcy]; simp
 have hn : cy.length ≤ 1152921504606846976 := by omega
 clear hcy hri
 subst hcl
 exact gets_all a0 a1 ⟨a2_Wide, a2_High, a2_FrameBits, a2_PocType, a2_PocBits, a2_NonRef, cy, a2_Refs, a2_Delay⟩ a2_Cycle cap_a2_Cycle ⟨a3_Cabac, a3_Weighted, a3_BiPred, a3_Qp, a3_ChromaQp, a3_Constrained, a3_Deblock, a3_Active0, a3_Active1⟩ a4 a5 w w_a0 hs hn
end Go.Proofs.YtjokibagciehlaaGreat
