/- May: region 12 fails. Printed by gen-hedo.py. -/
import Derived.Test.YtjokibagciehlaaGreatHedF
namespace Go.Proofs.YtjokibagciehlaaGreat
open Go.RowKit
set_option linter.unusedVariables false
set_option linter.unusedSimpArgs false

set_option maxRecDepth 100000 in
set_option maxHeartbeats 12800000 in
theorem may_12 (h : Hd) (q : Ha) (s : Sp) (A : Option Addr) (c : Nat) (p : Pp) (ref : Int) (key : Bool) (w : World) (H : HdAt w w.heap.size h q) (L : HdLen h) (hs : SpAt w w.heap.size s A) (hn : s.cy.length ≤ 1152921504606846976)
    (hms : maySp s = true) (hmp : mayPp p = true) (hi3 : inR 0 3 ref = true) (hr4 : r4 h s key = true) (hr6 : r6 h s key = true) (hr8 : r8 h s = true) (hr10 : r10 h p ref key = true) (hr12 : r12 h p = false) :
    Calls Tryz.prog 11 #[.agg (hdV h q), .agg (spV s A c), .agg (ppV p), .int .i64 ref, .bool key] w fun e w' => e = .returned (.bool (false)) ∧ Below w.heap.size w w' := by
  have HM := Lib.hid (MayAt.start (c := c) (p := p) H hs)
  have HSP := Lib.hid ((maySp_iff s).1 hms)
  have D1 : Hid (∀ w, SpAt w w.heap.size s A → Calls Tryz.prog 40 #[.agg (spV s A c)] w fun e w' => e = .returned (.bool true) ∧ Below w.heap.size w w') := Lib.hid (fun w hs => hms ▸ maysp_any s A c w hs hn)
  have D2 : Hid (∀ w, Calls Tryz.prog 41 #[.agg (ppV p)] w fun e w' => e = .returned (.bool true) ∧ Below w.heap.size w w') := Lib.hid (fun w => hmp ▸ maypp_any p w)
  have D3 : Hid (∀ w, Calls Tryz.prog 42 #[.int .i64 ref, .int .i64 0, .int .i64 3] w fun e w' => e = .returned (.bool true) ∧ w = w') := Lib.hid (fun w => hi3 ▸ hin_any ref 0 3 w)
  have HQ4 := Lib.hid hr4
  have HQ6 := Lib.hid hr6
  have HQ8 := Lib.hid hr8
  have HQ10 := Lib.hid hr10
  have HQ12 := Lib.hid hr12
  clear hms hmp hi3 hs hr4 hr6 hr8 hr10 hr12
  obtain ⟨v, hv⟩ : ∃ b, mayLs h p = b := ⟨_, rfl⟩
  obtain ⟨mo, hmo⟩ : ∃ b, mayMos h.ops = b := ⟨_, rfl⟩
  have D10 : Hid (∀ w, HdAt w w.heap.size h q → Calls Tryz.prog 43 #[.agg (hdV h q), .agg (ppV p)] w fun e w' => e = .returned (.bool v) ∧ Below w.heap.size w w') := Lib.hid (fun w hd => hv ▸ mayls_any h q p w hd L)
  have D11 : Hid (∀ w, RwAt w w.heap.size q.ops 3 moF h.ops → Calls Tryz.prog 44 #[.slice q.ops h.ops.length q.cops] w fun e w' => e = .returned (.bool mo) ∧ Below w.heap.size w w') := Lib.hid (fun w hl => hmo ▸ maymos_any h.ops q.ops q.cops w hl (by have := L.ops; omega))
  have HV := Lib.hid (And.intro hv hmo)
  clear hv hmo
  have HOL := Lib.hid L.ops
  unfold hdV spV ppV at HM
  simp only [hdV, spV, ppV] at D1 D2 ⊢
  clear H L
  go_enter Tryz.func11, Tryz.ntmps11
  go_wp2_with fail
  refine (D1.out _ HM.out.sp).mono ?_
  rintro e wa ⟨rfl, hb⟩
  replace HM : Hid (MayAt w wa h q s A c p) := Lib.hid (HM.out.go hb)
  clear hb D1
  have g0 := HM.out.k3.cell 0
  have g1 := HM.out.k3.cell 1
  have g2 := HM.out.k3.cell 2
  have g3 := HM.out.k3.cell 3
  have g4 := HM.out.k3.cell 4
  have g5 := HM.out.k3.cell 5
  have g6 := HM.out.k3.cell 6
  have g7 := HM.out.k3.cell 7
  have g8 := HM.out.k3.cell 8
  simp [ppV] at g0 g1 g2 g3 g4 g5 g6 g7 g8
  go_wp2_with fail
  clear g0 g1 g2 g3 g4 g5 g6 g7 g8
  refine (D2.out _).mono ?_
  rintro e wb ⟨rfl, hb⟩
  replace HM := Lib.hid (HM.out.go hb)
  clear hb D2
  go_wp2_with fail
  refine (D3.out _).mono ?_
  rintro e wb' ⟨rfl, rfl⟩
  have hall : 1 ≤ s.wide * s.high ∧ s.wide * s.high ≤ 64 := by
    obtain ⟨⟨q1, q2⟩, ⟨q3, q4⟩, _⟩ := HSP.out
    have hw : s.wide = 1 ∨ s.wide = 2 ∨ s.wide = 3 ∨ s.wide = 4 ∨ s.wide = 5 ∨ s.wide = 6 ∨ s.wide = 7 ∨ s.wide = 8 := by omega
    rcases hw with e | e | e | e | e | e | e | e <;> rw [e] <;> omega
  obtain ⟨all, hAll⟩ : ∃ x, x = s.wide * s.high := ⟨_, rfl⟩
  have hwr : IntKind.i64.wrap (s.wide * s.high) = all := by rw [hAll]; exact IntWalk.i64_in _ (by omega)
  rw [← hAll] at hall
  obtain ⟨hal1, hal2⟩ := hall
  have HAll := Lib.hid hAll
  clear hAll D3
  have d0 := HM.out.k2.cell 0
  have d1 := HM.out.k2.cell 1
  simp [spV] at d0 d1
  go_upto_region 4 with fail
  clear d0 d1
  clear hwr
  go_cut [30] (fun s_ wx => s_ = .bool false ∧ MayAt w wx h q s A c p)
  case first => as_aux_lemma =>
    have c0 := HM.out.k1.cell 0
    have c1 := HM.out.k1.cell 1
    have c2 := HM.out.k1.cell 2
    simp [hdV] at c0 c1 c2
    obtain ⟨f0, hf0⟩ : ∃ b, inR 0 all h.first = b := ⟨_, rfl⟩
    obtain ⟨f1, hf1⟩ : ∃ b, inR 1 (all - h.first) h.count = b := ⟨_, rfl⟩
    obtain ⟨f2, hf2⟩ : ∃ b, inR 0 2 h.type = b := ⟨_, rfl⟩
    obtain ⟨ty, hty⟩ : ∃ b, (h.type != 2) = b := ⟨_, rfl⟩
    have HR := Lib.hid (show (f0 && f1 && f2 && !(key && ty)) = true by rw [← HQ4.out]; unfold r4; rw [← HAll.out, hf0, hf1, hf2, hty])
    have E0 := Lib.hid (fun w => hf0 ▸ hin_any h.first 0 all w)
    have E1 := Lib.hid (fun w => hf1 ▸ hin_any h.count 1 (all - h.first) w)
    have E2 := Lib.hid (fun w => hf2 ▸ hin_any h.type 0 2 w)
    have HB0 := Lib.hid (fun e : f0 = true => inR_iff.1 (hf0.trans e))
    clear hf0 hf1 hf2
    have hw := (by intro f0 f1 f2 key ty; cases f0 <;> cases f1 <;> cases f2 <;> cases key <;> cases ty <;> simp : ∀ (f0 f1 f2 key ty : Bool), (f0 && f1 && f2 && !(key && ty)) = true → (f0 = true ∧ f1 = true ∧ f2 = true ∧ key = false) ∨ (f0 = true ∧ f1 = true ∧ f2 = true ∧ key = true ∧ ty = false)) f0 f1 f2 key ty HR.out
    rcases hw with ⟨rfl, rfl, rfl, rfl⟩ | ⟨rfl, rfl, rfl, rfl, rfl⟩
    · as_aux_lemma =>
        obtain ⟨hz1, hz2⟩ := HB0.out rfl
        go_wp2_with (go_at_call 42; first | (with_reducible refine (E0.out _).mono ?_; rintro e w' ⟨rfl, rfl⟩) | (with_reducible refine (E1.out _).mono ?_; rintro e w' ⟨rfl, rfl⟩) | (with_reducible refine (E2.out _).mono ?_; rintro e w' ⟨rfl, rfl⟩))
        go_meet
        refine ⟨?_, HM.out⟩
        first | rfl | (simp; done) | (simp; omega)
    · as_aux_lemma =>
        obtain ⟨hz1, hz2⟩ := HB0.out rfl
        go_wp2_with (go_at_call 42; first | (with_reducible refine (E0.out _).mono ?_; rintro e w' ⟨rfl, rfl⟩) | (with_reducible refine (E1.out _).mono ?_; rintro e w' ⟨rfl, rfl⟩) | (with_reducible refine (E2.out _).mono ?_; rintro e w' ⟨rfl, rfl⟩))
        go_meet
        refine ⟨?_, HM.out⟩
        first | rfl | (simp; done) | (simp; omega)
  case rest => as_aux_lemma =>
    obtain ⟨rfl, hm⟩ := hcut
    replace HM := Lib.hid hm
    clear hm
    go_upto_region 6 with fail
    go_cut [60] (fun s_ wx => s_ = .bool false ∧ MayAt w wx h q s A c p)
    case first => as_aux_lemma =>
      have c3 := HM.out.k1.cell 3
      have c4 := HM.out.k1.cell 4
      simp [hdV] at c3 c4
      have d2 := HM.out.k2.cell 2
      simp [spV] at d2
      obtain ⟨f3, hf3⟩ : ∃ b, inR 0 (2 ^ s.fb.toNat - 1) h.fn = b := ⟨_, rfl⟩
      obtain ⟨f4, hf4⟩ : ∃ b, inR 0 255 h.id = b := ⟨_, rfl⟩
      obtain ⟨zf, hzf⟩ : ∃ b, (h.fn != 0) = b := ⟨_, rfl⟩
      obtain ⟨zi, hzi⟩ : ∃ b, (h.id != 0) = b := ⟨_, rfl⟩
      have HR := Lib.hid (show (f3 && !(key && zf) && f4 && !(!key && zi)) = true by rw [← HQ6.out]; unfold r6; rw [hf3, hf4, hzf, hzi])
      have HF3 := Lib.hid hf3
      clear hf3
      have hl1 := HM.out.k1.lt
      have hl2 := HM.out.k2.lt
      have hfb : 4 ≤ s.fb ∧ s.fb ≤ 8 := by obtain ⟨_, _, ⟨a1, a2⟩, ⟨a3, a4⟩, _⟩ := HSP.out; omega
      obtain ⟨X, hX⟩ : ∃ X : Int, X = 2 ^ s.fb.toNat := ⟨_, rfl⟩
      have hsh1 := fun w => run_shl1 hfb w
      have hsh2 := fun w => run_shl2 hfb w
      have hXb := two_pow_bd hfb
      rw [← hX] at hsh1 hsh2 hXb
      have hf3 : inR 0 (X - 1) h.fn = f3 := by rw [← HF3.out, hX]
      have e1 : IntKind.i64.wrap X = X := IntWalk.i64_in _ (by omega)
      have e2 : IntKind.i64.wrap (X - 1) = X - 1 := IntWalk.i64_in _ (by omega)
      clear hX hfb hXb
      have hw := (by intro f3 key zf f4 zi; cases f3 <;> cases key <;> cases zf <;> cases f4 <;> cases zi <;> simp : ∀ (f3 key zf f4 zi : Bool), (f3 && !(key && zf) && f4 && !(!key && zi)) = true → (f3 = true ∧ key = true ∧ zf = false ∧ f4 = true) ∨ (f3 = true ∧ key = false ∧ f4 = true ∧ zi = false)) f3 key zf f4 zi HR.out
      rcases hw with ⟨rfl, rfl, rfl, rfl⟩ | ⟨rfl, rfl, rfl, rfl⟩
      · as_aux_lemma =>
          refine wp_region_class (fun w' => Below wc.heap.size wc w') (by kernel_rfl) (by kernel_rfl) ((Below.refl _ _).drew) ?_
          repeat (first
            | go_big_quiet_skip
            | (go_big_quiet_want; first
                | (go_big_quiet_op; go_big_quiet_on)
                | (refine qv_val (v := ?_) ?_ ?_; rotate_left 1; (intro w' hw'; obtain ⟨hcc, hff⟩ := bcell hw'; clear hff hw'; go_simp; (try with_reducible rfl)); (try simp only [Act.put, List.setIfInBounds_toArray, List.set_cons_zero, List.set_cons_succ]); go_big_quiet_on)
                | (refine qv_call (v := ?_) (f := ?_) (args := ?_) ?_ ?_ ?_; rotate_left 3; (intro w' hw'; clear hw'; go_simp; (refine ⟨?_, ?_⟩ <;> rfl)); (first | (intro w' hw'; refine (hin_any _ _ _ _).mono ?_; rintro e w'' ⟨rfl, rfl⟩; refine ⟨?_, hw'⟩; simp only [hf3, hf4]; rfl)); (try simp only [Act.put, List.setIfInBounds_toArray, List.set_cons_zero, List.set_cons_succ]); go_big_quiet_on)))
          with_reducible refine wpQuiet_nil ?_
          intro w1 hw
          replace HM := Lib.hid (HM.out.go hw)
          clear hw
          go_wp2_with fail
          go_meet
          refine ⟨?_, HM.out⟩
          first | rfl | (simp; done) | (simp; omega)
      · as_aux_lemma =>
          refine wp_region_class (fun w' => Below wc.heap.size wc w') (by kernel_rfl) (by kernel_rfl) ((Below.refl _ _).drew) ?_
          repeat (first
            | go_big_quiet_skip
            | (go_big_quiet_want; first
                | (go_big_quiet_op; go_big_quiet_on)
                | (refine qv_val (v := ?_) ?_ ?_; rotate_left 1; (intro w' hw'; obtain ⟨hcc, hff⟩ := bcell hw'; clear hff hw'; go_simp; (try with_reducible rfl)); (try simp only [Act.put, List.setIfInBounds_toArray, List.set_cons_zero, List.set_cons_succ]); go_big_quiet_on)
                | (refine qv_call (v := ?_) (f := ?_) (args := ?_) ?_ ?_ ?_; rotate_left 3; (intro w' hw'; clear hw'; go_simp; (refine ⟨?_, ?_⟩ <;> rfl)); (first | (intro w' hw'; refine (hin_any _ _ _ _).mono ?_; rintro e w'' ⟨rfl, rfl⟩; refine ⟨?_, hw'⟩; simp only [hf3, hf4]; rfl)); (try simp only [Act.put, List.setIfInBounds_toArray, List.set_cons_zero, List.set_cons_succ]); go_big_quiet_on)))
          with_reducible refine wpQuiet_nil ?_
          intro w1 hw
          replace HM := Lib.hid (HM.out.go hw)
          clear hw
          go_wp2_with fail
          go_meet
          refine ⟨?_, HM.out⟩
          first | rfl | (simp; done) | (simp; omega)
    case rest => as_aux_lemma =>
      obtain ⟨rfl, hm⟩ := hcut
      replace HM := Lib.hid hm
      clear hm
      go_upto_region 8 with fail
      go_cut [92] (fun s_ wx => s_ = .bool false ∧ MayAt w wx h q s A c p)
      case first => as_aux_lemma =>
        have c2 := HM.out.k1.cell 2
        have c5 := HM.out.k1.cell 5
        have c6 := HM.out.k1.cell 6
        simp [hdV] at c2 c5 c6
        have d4 := HM.out.k2.cell 4
        have d3 := HM.out.k2.cell 3
        simp [spV] at d4 d3
        obtain ⟨f3, hf3⟩ : ∃ b, inR 0 (2 ^ s.pb.toNat - 1) h.poc = b := ⟨_, rfl⟩
        obtain ⟨zt, hzt⟩ : ∃ b, (s.pt != 0) = b := ⟨_, rfl⟩
        obtain ⟨zp, hzp⟩ : ∃ b, (h.poc != 0) = b := ⟨_, rfl⟩
        obtain ⟨sp, hsp⟩ : ∃ b, h.spatial = b := ⟨_, rfl⟩
        obtain ⟨ty, hty⟩ : ∃ b, (h.type != 1) = b := ⟨_, rfl⟩
        have HR := Lib.hid (show (f3 && !(zt && zp) && !(sp && ty)) = true by rw [← HQ8.out]; unfold r8; rw [hf3, hzt, hzp, hsp, hty])
        have HF3 := Lib.hid hf3
        rw [hsp] at c6
        clear hf3 hsp
        have hl1 := HM.out.k1.lt
        have hl2 := HM.out.k2.lt
        have hfb : 4 ≤ s.pb ∧ s.pb ≤ 8 := by obtain ⟨_, _, ⟨a1, a2⟩, ⟨a3, a4⟩, _⟩ := HSP.out; omega
        obtain ⟨X, hX⟩ : ∃ X : Int, X = 2 ^ s.pb.toNat := ⟨_, rfl⟩
        have hsh1 := fun w => run_shl1 hfb w
        have hsh2 := fun w => run_shl2 hfb w
        have hXb := two_pow_bd hfb
        rw [← hX] at hsh1 hsh2 hXb
        have hf3 : inR 0 (X - 1) h.poc = f3 := by rw [← HF3.out, hX]
        have e1 : IntKind.i64.wrap X = X := IntWalk.i64_in _ (by omega)
        have e2 : IntKind.i64.wrap (X - 1) = X - 1 := IntWalk.i64_in _ (by omega)
        clear hX hfb hXb
        have hw := (by intro f3 zt zp sp ty; cases f3 <;> cases zt <;> cases zp <;> cases sp <;> cases ty <;> simp : ∀ (f3 zt zp sp ty : Bool), (f3 && !(zt && zp) && !(sp && ty)) = true → (f3 = true ∧ zt = false ∧ sp = false) ∨ (f3 = true ∧ zt = false ∧ sp = true ∧ ty = false) ∨ (f3 = true ∧ zt = true ∧ zp = false ∧ sp = false) ∨ (f3 = true ∧ zt = true ∧ zp = false ∧ sp = true ∧ ty = false)) f3 zt zp sp ty HR.out
        rcases hw with ⟨rfl, rfl, rfl⟩ | ⟨rfl, rfl, rfl, rfl⟩ | ⟨rfl, rfl, rfl, rfl⟩ | ⟨rfl, rfl, rfl, rfl, rfl⟩
        · as_aux_lemma =>
            refine wp_region_class (fun w' => Below wc.heap.size wc w') (by kernel_rfl) (by kernel_rfl) ((Below.refl _ _).drew) ?_
            repeat (first
              | go_big_quiet_skip
              | (go_big_quiet_want; first
                  | (go_big_quiet_op; go_big_quiet_on)
                  | (refine qv_val (v := ?_) ?_ ?_; rotate_left 1; (intro w' hw'; obtain ⟨hcc, hff⟩ := bcell hw'; clear hff hw'; go_simp; (try with_reducible rfl)); (try simp only [Act.put, List.setIfInBounds_toArray, List.set_cons_zero, List.set_cons_succ]); go_big_quiet_on)
                  | (refine qv_call (v := ?_) (f := ?_) (args := ?_) ?_ ?_ ?_; rotate_left 3; (intro w' hw'; clear hw'; go_simp; (refine ⟨?_, ?_⟩ <;> rfl)); (first | (intro w' hw'; refine (hin_any _ _ _ _).mono ?_; rintro e w'' ⟨rfl, rfl⟩; refine ⟨?_, hw'⟩; simp only [hf3]; rfl)); (try simp only [Act.put, List.setIfInBounds_toArray, List.set_cons_zero, List.set_cons_succ]); go_big_quiet_on)))
            with_reducible refine wpQuiet_nil ?_
            intro w1 hw
            replace HM := Lib.hid (HM.out.go hw)
            clear hw
            go_wp2_with fail
            go_meet
            refine ⟨?_, HM.out⟩
            first | rfl | (simp; done) | (simp; omega)
        · as_aux_lemma =>
            refine wp_region_class (fun w' => Below wc.heap.size wc w') (by kernel_rfl) (by kernel_rfl) ((Below.refl _ _).drew) ?_
            repeat (first
              | go_big_quiet_skip
              | (go_big_quiet_want; first
                  | (go_big_quiet_op; go_big_quiet_on)
                  | (refine qv_val (v := ?_) ?_ ?_; rotate_left 1; (intro w' hw'; obtain ⟨hcc, hff⟩ := bcell hw'; clear hff hw'; go_simp; (try with_reducible rfl)); (try simp only [Act.put, List.setIfInBounds_toArray, List.set_cons_zero, List.set_cons_succ]); go_big_quiet_on)
                  | (refine qv_call (v := ?_) (f := ?_) (args := ?_) ?_ ?_ ?_; rotate_left 3; (intro w' hw'; clear hw'; go_simp; (refine ⟨?_, ?_⟩ <;> rfl)); (first | (intro w' hw'; refine (hin_any _ _ _ _).mono ?_; rintro e w'' ⟨rfl, rfl⟩; refine ⟨?_, hw'⟩; simp only [hf3]; rfl)); (try simp only [Act.put, List.setIfInBounds_toArray, List.set_cons_zero, List.set_cons_succ]); go_big_quiet_on)))
            with_reducible refine wpQuiet_nil ?_
            intro w1 hw
            replace HM := Lib.hid (HM.out.go hw)
            clear hw
            go_wp2_with fail
            go_meet
            refine ⟨?_, HM.out⟩
            first | rfl | (simp; done) | (simp; omega)
        · as_aux_lemma =>
            refine wp_region_class (fun w' => Below wc.heap.size wc w') (by kernel_rfl) (by kernel_rfl) ((Below.refl _ _).drew) ?_
            repeat (first
              | go_big_quiet_skip
              | (go_big_quiet_want; first
                  | (go_big_quiet_op; go_big_quiet_on)
                  | (refine qv_val (v := ?_) ?_ ?_; rotate_left 1; (intro w' hw'; obtain ⟨hcc, hff⟩ := bcell hw'; clear hff hw'; go_simp; (try with_reducible rfl)); (try simp only [Act.put, List.setIfInBounds_toArray, List.set_cons_zero, List.set_cons_succ]); go_big_quiet_on)
                  | (refine qv_call (v := ?_) (f := ?_) (args := ?_) ?_ ?_ ?_; rotate_left 3; (intro w' hw'; clear hw'; go_simp; (refine ⟨?_, ?_⟩ <;> rfl)); (first | (intro w' hw'; refine (hin_any _ _ _ _).mono ?_; rintro e w'' ⟨rfl, rfl⟩; refine ⟨?_, hw'⟩; simp only [hf3]; rfl)); (try simp only [Act.put, List.setIfInBounds_toArray, List.set_cons_zero, List.set_cons_succ]); go_big_quiet_on)))
            with_reducible refine wpQuiet_nil ?_
            intro w1 hw
            replace HM := Lib.hid (HM.out.go hw)
            clear hw
            go_wp2_with fail
            go_meet
            refine ⟨?_, HM.out⟩
            first | rfl | (simp; done) | (simp; omega)
        · as_aux_lemma =>
            refine wp_region_class (fun w' => Below wc.heap.size wc w') (by kernel_rfl) (by kernel_rfl) ((Below.refl _ _).drew) ?_
            repeat (first
              | go_big_quiet_skip
              | (go_big_quiet_want; first
                  | (go_big_quiet_op; go_big_quiet_on)
                  | (refine qv_val (v := ?_) ?_ ?_; rotate_left 1; (intro w' hw'; obtain ⟨hcc, hff⟩ := bcell hw'; clear hff hw'; go_simp; (try with_reducible rfl)); (try simp only [Act.put, List.setIfInBounds_toArray, List.set_cons_zero, List.set_cons_succ]); go_big_quiet_on)
                  | (refine qv_call (v := ?_) (f := ?_) (args := ?_) ?_ ?_ ?_; rotate_left 3; (intro w' hw'; clear hw'; go_simp; (refine ⟨?_, ?_⟩ <;> rfl)); (first | (intro w' hw'; refine (hin_any _ _ _ _).mono ?_; rintro e w'' ⟨rfl, rfl⟩; refine ⟨?_, hw'⟩; simp only [hf3]; rfl)); (try simp only [Act.put, List.setIfInBounds_toArray, List.set_cons_zero, List.set_cons_succ]); go_big_quiet_on)))
            with_reducible refine wpQuiet_nil ?_
            intro w1 hw
            replace HM := Lib.hid (HM.out.go hw)
            clear hw
            go_wp2_with fail
            go_meet
            refine ⟨?_, HM.out⟩
            first | rfl | (simp; done) | (simp; omega)
      case rest => as_aux_lemma =>
        obtain ⟨rfl, hm⟩ := hcut
        replace HM := Lib.hid hm
        clear hm
        go_upto_region 10 with fail
        go_cut [120] (fun s_ wx => s_ = .bool false ∧ MayAt w wx h q s A c p)
        case first => as_aux_lemma =>
          refine wp_region_lit ?_
          refine wpList_load_row rfl _ _ rfl w.heap.size rfl _ _ (0, 0) _ HM.out.k1 Tryz.underlying26 rfl (by kernel_rfl) ?_
          refine wpList_load_row rfl _ _ rfl (w.heap.size + 1 + 1) rfl _ _ (0, 0) _ HM.out.k3 Tryz.underlying31 rfl (by kernel_rfl) ?_
          go_wp2_with fail
          refine (D10.out _ HM.out.hd).mono ?_
          rintro e wd ⟨rfl, hb⟩
          replace HM := Lib.hid (HM.out.go hb)
          clear hb
          obtain ⟨lk, hlk⟩ : ∃ b, h.longKey = b := ⟨_, rfl⟩
          obtain ⟨rl, hrl⟩ : ∃ b, decide (ref ≤ 0) = b := ⟨_, rfl⟩
          obtain ⟨ol, hol⟩ : ∃ b, decide (0 < h.ops.length) = b := ⟨_, rfl⟩
          have HR := Lib.hid (show (v && !(lk && (!key || rl)) && mo && !(ol && (key || rl))) = true by rw [← HQ10.out]; unfold r10; rw [HV.out.1, HV.out.2, hlk, hrl, hol])
          have HRL : Hid ((rl = true → ref ≤ 0) ∧ (rl = false → 0 < ref)) := Lib.hid ⟨fun e => of_decide_eq_true (hrl.trans e), fun e => by have := of_decide_eq_false (hrl.trans e); omega⟩
          have HOO : Hid ((ol = true → (0 : Int) < (h.ops.length : Int)) ∧ (ol = false → (h.ops.length : Int) ≤ 0)) := Lib.hid ⟨fun e => by have := of_decide_eq_true (hol.trans e); omega, fun e => by have := of_decide_eq_false (hol.trans e); omega⟩
          clear hrl hol
          have c15 := HM.out.k1.cell 15
          have c16 := HM.out.k1.cell 16
          simp [hdV] at c15 c16
          rw [hlk] at c15
          clear hlk
          have hw := (by intro v lk key rl mo ol; cases v <;> cases lk <;> cases key <;> cases rl <;> cases mo <;> cases ol <;> simp : ∀ (v lk key rl mo ol : Bool), (v && !(lk && (!key || rl)) && mo && !(ol && (key || rl))) = true → (v = true ∧ lk = false ∧ mo = true ∧ ol = false) ∨ (v = true ∧ lk = false ∧ key = false ∧ rl = false ∧ mo = true ∧ ol = true) ∨ (v = true ∧ lk = true ∧ key = true ∧ rl = false ∧ mo = true ∧ ol = false)) v lk key rl mo ol HR.out
          rcases hw with ⟨rfl, rfl, rfl, rfl⟩ | ⟨rfl, rfl, rfl, rfl, rfl, rfl⟩ | ⟨rfl, rfl, rfl, rfl, rfl, rfl⟩
          · as_aux_lemma =>
              have hol := HOO.out.2 rfl
              go_wp2_with fail
              refine (D11.out _ HM.out.hd.ops).mono ?_
              rintro e wf ⟨rfl, hb⟩
              replace HM := Lib.hid (HM.out.go hb)
              clear hb c15 c16
              have c16 := HM.out.k1.cell 16
              simp [hdV] at c16
              go_wp2_with fail
              go_meet
              refine ⟨?_, HM.out⟩
              first | rfl | (simp; done) | (simp; omega)
          · as_aux_lemma =>
              have hrl := HRL.out.2 rfl
              have hol := HOO.out.1 rfl
              go_wp2_with fail
              refine (D11.out _ HM.out.hd.ops).mono ?_
              rintro e wf ⟨rfl, hb⟩
              replace HM := Lib.hid (HM.out.go hb)
              clear hb c15 c16
              have c16 := HM.out.k1.cell 16
              simp [hdV] at c16
              go_wp2_with fail
              go_meet
              refine ⟨?_, HM.out⟩
              first | rfl | (simp; done) | (simp; omega)
          · as_aux_lemma =>
              have hrl := HRL.out.2 rfl
              have hol := HOO.out.2 rfl
              go_wp2_with fail
              refine (D11.out _ HM.out.hd.ops).mono ?_
              rintro e wf ⟨rfl, hb⟩
              replace HM := Lib.hid (HM.out.go hb)
              clear hb c15 c16
              have c16 := HM.out.k1.cell 16
              simp [hdV] at c16
              go_wp2_with fail
              go_meet
              refine ⟨?_, HM.out⟩
              first | rfl | (simp; done) | (simp; omega)
        case rest => as_aux_lemma =>
          obtain ⟨rfl, hm⟩ := hcut
          replace HM := Lib.hid hm
          clear hm
          go_upto_region 12 with fail
          have c18 := HM.out.k1.cell 18
          have c19 := HM.out.k1.cell 19
          have c20 := HM.out.k1.cell 20
          simp [hdV] at c18 c19 c20
          have g6 := HM.out.k3.cell 6
          simp [ppV] at g6
          obtain ⟨off, hoff⟩ : ∃ b, h.off = b := ⟨_, rfl⟩
          obtain ⟨db, hdb⟩ : ∃ b, p.deb = b := ⟨_, rfl⟩
          obtain ⟨ia, hia⟩ : ∃ b, inR (-6) 6 h.a = b := ⟨_, rfl⟩
          obtain ⟨ib, hib⟩ : ∃ b, inR (-6) 6 h.b = b := ⟨_, rfl⟩
          obtain ⟨za, hza⟩ : ∃ b, (h.a != 0) = b := ⟨_, rfl⟩
          obtain ⟨zb, hzb⟩ : ∃ b, (h.b != 0) = b := ⟨_, rfl⟩
          have HR := Lib.hid (show (!(off && !db) && ia && ib && !((off || !db) && (za || zb))) = false by rw [← HQ12.out]; unfold r12; rw [hoff, hdb, hia, hib, hza, hzb])
          have E0 := Lib.hid (fun w => hia ▸ hin_any h.a (-6) 6 w)
          have E1 := Lib.hid (fun w => hib ▸ hin_any h.b (-6) 6 w)
          rw [hoff] at c18
          rw [hdb] at g6
          clear hoff hdb hia hib
          have hw := (by intro off db ia ib za zb; cases off <;> cases db <;> cases ia <;> cases ib <;> cases za <;> cases zb <;> simp : ∀ (off db ia ib za zb : Bool), (!(off && !db) && ia && ib && !((off || !db) && (za || zb))) = false → (off = true ∧ db = false) ∨ (off = false ∧ db = true ∧ ia = false) ∨ (off = false ∧ db = true ∧ ia = true ∧ ib = false) ∨ (off = false ∧ db = false ∧ ia = false) ∨ (off = false ∧ db = false ∧ ia = true ∧ ib = false) ∨ (off = false ∧ db = false ∧ ia = true ∧ ib = true ∧ za = true) ∨ (off = false ∧ db = false ∧ ia = true ∧ ib = true ∧ za = false ∧ zb = true) ∨ (off = true ∧ db = true ∧ ia = false) ∨ (off = true ∧ db = true ∧ ia = true ∧ ib = false) ∨ (off = true ∧ db = true ∧ ia = true ∧ ib = true ∧ za = true) ∨ (off = true ∧ db = true ∧ ia = true ∧ ib = true ∧ za = false ∧ zb = true)) off db ia ib za zb HR.out
          rcases hw with ⟨rfl, rfl⟩ | ⟨rfl, rfl, rfl⟩ | ⟨rfl, rfl, rfl, rfl⟩ | ⟨rfl, rfl, rfl⟩ | ⟨rfl, rfl, rfl, rfl⟩ | ⟨rfl, rfl, rfl, rfl, rfl⟩ | ⟨rfl, rfl, rfl, rfl, rfl, rfl⟩ | ⟨rfl, rfl, rfl⟩ | ⟨rfl, rfl, rfl, rfl⟩ | ⟨rfl, rfl, rfl, rfl, rfl⟩ | ⟨rfl, rfl, rfl, rfl, rfl, rfl⟩
          · as_aux_lemma =>
              go_wp2_with (go_at_call 42; first | (with_reducible refine (E0.out _).mono ?_; rintro e w' ⟨rfl, rfl⟩) | (with_reducible refine (E1.out _).mono ?_; rintro e w' ⟨rfl, rfl⟩))
              go_ret
              refine ⟨?_, HM.out.below⟩
              first | rfl | (simp; done) | (simp; omega)
          · as_aux_lemma =>
              go_wp2_with (go_at_call 42; first | (with_reducible refine (E0.out _).mono ?_; rintro e w' ⟨rfl, rfl⟩) | (with_reducible refine (E1.out _).mono ?_; rintro e w' ⟨rfl, rfl⟩))
              go_ret
              refine ⟨?_, HM.out.below⟩
              first | rfl | (simp; done) | (simp; omega)
          · as_aux_lemma =>
              go_wp2_with (go_at_call 42; first | (with_reducible refine (E0.out _).mono ?_; rintro e w' ⟨rfl, rfl⟩) | (with_reducible refine (E1.out _).mono ?_; rintro e w' ⟨rfl, rfl⟩))
              go_ret
              refine ⟨?_, HM.out.below⟩
              first | rfl | (simp; done) | (simp; omega)
          · as_aux_lemma =>
              go_wp2_with (go_at_call 42; first | (with_reducible refine (E0.out _).mono ?_; rintro e w' ⟨rfl, rfl⟩) | (with_reducible refine (E1.out _).mono ?_; rintro e w' ⟨rfl, rfl⟩))
              go_ret
              refine ⟨?_, HM.out.below⟩
              first | rfl | (simp; done) | (simp; omega)
          · as_aux_lemma =>
              go_wp2_with (go_at_call 42; first | (with_reducible refine (E0.out _).mono ?_; rintro e w' ⟨rfl, rfl⟩) | (with_reducible refine (E1.out _).mono ?_; rintro e w' ⟨rfl, rfl⟩))
              go_ret
              refine ⟨?_, HM.out.below⟩
              first | rfl | (simp; done) | (simp; omega)
          · as_aux_lemma =>
              go_wp2_with (go_at_call 42; first | (with_reducible refine (E0.out _).mono ?_; rintro e w' ⟨rfl, rfl⟩) | (with_reducible refine (E1.out _).mono ?_; rintro e w' ⟨rfl, rfl⟩))
              go_ret
              refine ⟨?_, HM.out.below⟩
              first | rfl | (simp; done) | (simp; omega)
          · as_aux_lemma =>
              go_wp2_with (go_at_call 42; first | (with_reducible refine (E0.out _).mono ?_; rintro e w' ⟨rfl, rfl⟩) | (with_reducible refine (E1.out _).mono ?_; rintro e w' ⟨rfl, rfl⟩))
              go_ret
              refine ⟨?_, HM.out.below⟩
              first | rfl | (simp; done) | (simp; omega)
          · as_aux_lemma =>
              go_wp2_with (go_at_call 42; first | (with_reducible refine (E0.out _).mono ?_; rintro e w' ⟨rfl, rfl⟩) | (with_reducible refine (E1.out _).mono ?_; rintro e w' ⟨rfl, rfl⟩))
              go_ret
              refine ⟨?_, HM.out.below⟩
              first | rfl | (simp; done) | (simp; omega)
          · as_aux_lemma =>
              go_wp2_with (go_at_call 42; first | (with_reducible refine (E0.out _).mono ?_; rintro e w' ⟨rfl, rfl⟩) | (with_reducible refine (E1.out _).mono ?_; rintro e w' ⟨rfl, rfl⟩))
              go_ret
              refine ⟨?_, HM.out.below⟩
              first | rfl | (simp; done) | (simp; omega)
          · as_aux_lemma =>
              go_wp2_with (go_at_call 42; first | (with_reducible refine (E0.out _).mono ?_; rintro e w' ⟨rfl, rfl⟩) | (with_reducible refine (E1.out _).mono ?_; rintro e w' ⟨rfl, rfl⟩))
              go_ret
              refine ⟨?_, HM.out.below⟩
              first | rfl | (simp; done) | (simp; omega)
          · as_aux_lemma =>
              go_wp2_with (go_at_call 42; first | (with_reducible refine (E0.out _).mono ?_; rintro e w' ⟨rfl, rfl⟩) | (with_reducible refine (E1.out _).mono ?_; rintro e w' ⟨rfl, rfl⟩))
              go_ret
              refine ⟨?_, HM.out.below⟩
              first | rfl | (simp; done) | (simp; omega)
end Go.Proofs.YtjokibagciehlaaGreat
