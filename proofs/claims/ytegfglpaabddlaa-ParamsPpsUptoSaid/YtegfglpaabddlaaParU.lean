/- GetSps: the walk, PocType 0. Printed by gen-getsps.py. -/
import Derived.Test.YtegfglpaabddlaaParT
namespace Go.Proofs.Ytegfglpaabddlaa
open Go.RowKit
set_option linter.unusedVariables false
set_option linter.unusedSimpArgs false

set_option maxRecDepth 100000 in
set_option maxHeartbeats 6400000 in
theorem getsp_0 (s : ByteArray) (w : World) (hs : s.size ≤ 140737488351232) (x0 x1 x2 x3 : Int) (t1 t2 t3 t4 : St) (e0 : ueX (sbit s) (8 * s.size) ⟨0, false⟩ = x0) (f1 : ueS (sbit s) (8 * s.size) ⟨0, false⟩ = t1) (e1 : ueX (sbit s) (8 * s.size) t1 = x1) (f2 : ueS (sbit s) (8 * s.size) t1 = t2) (e2 : ueX (sbit s) (8 * s.size) t2 = x2) (f3 : ueS (sbit s) (8 * s.size) t2 = t3) (e3 : ueX (sbit s) (8 * s.size) t3 = x3) (f4 : ueS (sbit s) (8 * s.size) t3 = t4)
    (b0 : 0 ≤ x0 ∧ x0 ≤ 2147483646) (b1 : 0 ≤ x1 ∧ x1 ≤ 2147483646) (b2 : 0 ≤ x2 ∧ x2 ≤ 2147483646) (g1 : Good (sbit s) (8 * s.size) t1) (g2 : Good (sbit s) (8 * s.size) t2) (g3 : Good (sbit s) (8 * s.size) t3) (g4 : Good (sbit s) (8 * s.size) t4) (hx : x3 = 0) (VV : Sp × Int) (hVV : VV = getSp (sbit s) (8 * s.size)) :
    Calls Try.prog 13 #[.string s] w (GPost VV w) := by
  have hF := getSp_form x0 x1 x2 x3 t1 t2 t3 t4 e0 f1 e1 f2 e2 f3 e3 f4
  have HF := Lib.hid (fun x4 t5 => hF.1 x4 t5 hx)
  clear hF
  have HVV := Lib.hid hVV
  have HGD := Lib.hid (And.intro g1 (And.intro g2 (And.intro g3 g4)))
  have HE := Lib.hid (And.intro e0 (And.intro f1 (And.intro e1 (And.intro f2 (And.intro e2 (And.intro f3 (And.intro e3 f4)))))))
  clear hVV e0 f1 e1 f2 e2 f3 e3 f4 g1 g2 g3 g4
  have hR0 := Bk.new w 24 (spC .zero (.slice none 0 0))
  have hb0 := (Below.refl w.heap.size w).alloc (Nat.le_refl _) (.cells (spC .zero (.slice none 0 0)) 24)
  have HR0 := Lib.hid hR0
  have HB0 := Lib.hid hb0
  clear hR0 hb0
  go_enter Try.func13, Try.ntmps13
  go_wp2_with fail
  refine (st_open s _).mono ?_
  rintro e w1 ⟨rfl, hr⟩
  have hR1 := HR0.out.go hr.2.2
  have hb1 := HB0.out.trans (hr.2.2.mono HB0.out.size)
  have hgz := hr.1.lt
  have hR2 := hR1.alloc (.cells #[.pointer (some ⟨w.heap.size + 1, 0, none⟩), .bool false] 69)
  have hb2 := hb1.alloc hb1.size (.cells #[.pointer (some ⟨w.heap.size + 1, 0, none⟩), .bool false] 69)
  have hh2 := Bk.new w1 69 #[.pointer (some ⟨w.heap.size + 1, 0, none⟩), .bool false]
  have hg2 : Rr _ _ s 0 := Bk.alloc hr.1 (.cells #[.pointer (some ⟨w.heap.size + 1, 0, none⟩), .bool false] 69)
  rw [World.size_alloc] at hgz hg2
  obtain ⟨h, hH⟩ : ∃ h, h = w1.heap.size := ⟨_, rfl⟩
  obtain ⟨g, hG⟩ : ∃ g, g = w.heap.size + 1 := ⟨_, rfl⟩
  obtain ⟨R, hR⟩ : ∃ R, R = w.heap.size := ⟨_, rfl⟩
  have hgh : g < h := by omega
  have hRg : R < g := by omega
  have hgB : w.heap.size ≤ g := by omega
  have hhB : w.heap.size ≤ h := by omega
  have hRB : w.heap.size ≤ R := by omega
  have HRn : Hid (¬ RGS h g R) := Lib.hid (fun q => by rcases q with q | q <;> omega)
  have HBn : Hid (∀ i, i < w.heap.size → ¬ RGS h g i) := Lib.hid (fun i hi q => by rcases q with q | q <;> omega)
  have HR := Lib.hid hR2
  have HB := Lib.hid hb2
  have HH := Lib.hid hh2
  have HG := Lib.hid hg2
  clear hr hR1 hb1 hR2 hb2 hh2 hg2 hgz HR0 HB0
  go_wp2_with fail
  rw [← hG, ← hR, ← hH]
  rw [← hG] at HG HH HR HB
  rw [← hR] at HR
  rw [← hH] at HH
  generalize w1.alloc (.cells #[.pointer (some ⟨g, 0, none⟩), .bool false] 69) = w2 at HR HB HH HG ⊢
  have HEQ := Lib.hid (And.intro hH (And.intro hG hR))
  clear hH hG hR
  have H0 : Hid (RG w2 h g s ⟨0, false⟩) := Lib.hid ⟨HH.out, HG.out⟩
  clear HH HG
  refine (rg_ueE H0.out hs (Nat.zero_le _) HE.out.1 HE.out.2.1).mono ?_
  rintro e w3 ⟨rfl, q, tq⟩
  replace H0 := Lib.hid q
  replace HR := Lib.hid (HR.out.touch tq HRn.out)
  replace HB := Lib.hid (Below.touch HB.out tq HBn.out (Nat.le_refl _))
  clear q tq
  generalize w3 = w2 at H0 HR HB ⊢
  go_wp2_with fail
  refine (rg_ueE H0.out hs HGD.out.1.1 HE.out.2.2.1 HE.out.2.2.2.1).mono ?_
  rintro e w3 ⟨rfl, q, tq⟩
  replace H0 := Lib.hid q
  replace HR := Lib.hid (HR.out.touch tq HRn.out)
  replace HB := Lib.hid (Below.touch HB.out tq HBn.out (Nat.le_refl _))
  clear q tq
  generalize w3 = w2 at H0 HR HB ⊢
  go_wp2_with fail
  refine (rg_ueE H0.out hs HGD.out.2.1.1 HE.out.2.2.2.2.1 HE.out.2.2.2.2.2.1).mono ?_
  rintro e w3 ⟨rfl, q, tq⟩
  replace H0 := Lib.hid q
  replace HR := Lib.hid (HR.out.touch tq HRn.out)
  replace HB := Lib.hid (Below.touch HB.out tq HBn.out (Nat.le_refl _))
  clear q tq
  generalize w3 = w2 at H0 HR HB ⊢
  go_wp2_with fail
  refine (rg_ueE H0.out hs HGD.out.2.2.1.1 HE.out.2.2.2.2.2.2.1 HE.out.2.2.2.2.2.2.2).mono ?_
  rintro e w3 ⟨rfl, q, tq⟩
  replace H0 := Lib.hid q
  replace HR := Lib.hid (HR.out.touch tq HRn.out)
  replace HB := Lib.hid (Below.touch HB.out tq HBn.out (Nat.le_refl _))
  clear q tq
  subst hx
  have hsz := HB.out.size
  obtain ⟨O, hO⟩ : ∃ O, O = w3.heap.size := ⟨_, rfl⟩
  have hhlt := H0.out.1.lt
  have hglt := Bk.lt H0.out.2
  have hOh : O ≠ h := by omega
  have hOg : O ≠ g := by omega
  have hOR : O ≠ R := by have := HR.out.lt; omega
  have hOB : w.heap.size ≤ O := by omega
  have hhg : h ≠ g := by omega
  have HG : Hid (GR (w3.alloc (.cells (spC ⟨x0 + 1, x1 + 1, x2 + 4, 0, 4, 0, [], 0, 0⟩ (.slice none 0 0)) 24)) h g O (R + 1) s t4 ⟨x0 + 1, x1 + 1, x2 + 4, 0, 4, 0, [], 0, 0⟩ (.slice none 0 0)) := Lib.hid ⟨⟨H0.out.1.alloc _, Bk.alloc H0.out.2 _⟩, hO ▸ Bk.new w3 24 _, own_nil_int _ _, hOh, hOg, hhg, (fun k q => by simp [Value.ownBlock] at q), fun k q => by simp [Value.ownBlock] at q⟩
  have HRR := Lib.hid (HR.out.alloc (.cells (spC ⟨x0 + 1, x1 + 1, x2 + 4, 0, 4, 0, [], 0, 0⟩ (.slice none 0 0)) 24))
  have HBB := Lib.hid (HB.out.alloc HB.out.size (.cells (spC ⟨x0 + 1, x1 + 1, x2 + 4, 0, 4, 0, [], 0, 0⟩ (.slice none 0 0)) 24))
  have HOO := Lib.hid hO
  have HLT := Lib.hid (And.intro hhlt (And.intro hglt hsz))
  clear hsz hhlt hglt H0 HR HB hO
  go_wp2_with fail
  rw [← HOO.out]
  obtain ⟨x4, t5, hx_, ht_, b4, g_t5⟩ := HGD.out.2.2.2.next
  refine (rg_ueE HG.out.rg hs HGD.out.2.2.2.1 hx_ ht_).mono ?_
  rintro e w4 ⟨rfl, q, tq⟩
  replace HG := Lib.hid (HG.out.call q tq)
  replace HRR := Lib.hid (HRR.out.touch tq HRn.out)
  replace HBB := Lib.hid (Below.touch HBB.out tq HBn.out (Nat.le_refl _))
  have HFIN := Lib.hid (HVV.out.trans (HF.out x4 t5 hx_ ht_))
  have HG5 := Lib.hid g_t5
  clear hx_ ht_ q tq g_t5
  have f4 := HG.out.bk.frozen 4
  have c4 := HG.out.bk.cell 4
  simp [spC] at c4
  replace HG := Lib.hid (HG.out.put (i := 4) (u := .int .i64 (x4 + 4)) (p' := ⟨x0 + 1, x1 + 1, x2 + 4, 0, x4 + 4, 0, [], 0, 0⟩) (by simp [spC]) rfl)
  replace HRR := Lib.hid (HRR.out.far (p := ⟨O, 4, none⟩) (fun q => hOR q.symm) (.int .i64 (x4 + 4)))
  replace HBB := Lib.hid (HBB.out.setCell (p := ⟨O, 4, none⟩) hOB (.int .i64 (x4 + 4)))
  go_wp2_with fail
  clear f4 c4
  obtain ⟨x7, T1, hx_, ht_, b7, g_T1⟩ := HG5.out.next
  refine (rg_ueE HG.out.rg hs HG5.out.1 hx_ ht_).mono ?_
  rintro e wa ⟨rfl, q, tq⟩
  replace HG := Lib.hid (HG.out.call q tq)
  replace HRR := Lib.hid (HRR.out.touch tq HRn.out)
  replace HBB := Lib.hid (Below.touch HBB.out tq HBn.out (Nat.le_refl _))
  have HX7 := Lib.hid (And.intro hx_ ht_)
  have HGT := Lib.hid g_T1
  clear hx_ ht_ g_T1 q tq
  go_wp2_with fail
  obtain ⟨x8, T2, hx_, ht_, b8, g_T2⟩ := HGT.out.next
  refine (rg_ueE HG.out.rg hs HGT.out.1 hx_ ht_).mono ?_
  rintro e wb ⟨rfl, q, tq⟩
  replace HG := Lib.hid (HG.out.call q tq)
  replace HRR := Lib.hid (HRR.out.touch tq HRn.out)
  replace HBB := Lib.hid (Below.touch HBB.out tq HBn.out (Nat.le_refl _))
  obtain ⟨b, hb⟩ : ∃ b, (!T2.bad && ((trailR (sbit s) (8 * s.size) T2.a).1 : Int) == 0) = b := ⟨_, rfl⟩
  have hfin := finSp_form (p := ⟨x0 + 1, x1 + 1, x2 + 4, 0, x4 + 4, 0, [], 0, 0⟩) HX7.out.1 HX7.out.2 hx_ ht_ hb
  rw [← HFIN.out] at hfin
  replace HFIN := Lib.hid hfin
  have HB_ := Lib.hid hb
  have HG2_ := Lib.hid g_T2
  clear hx_ ht_ q tq hfin hb g_T2 HX7 HGT
  have f7 := HG.out.bk.frozen 7
  have f8 := HG.out.bk.frozen 8
  have c7 := HG.out.bk.cell 7
  have c8 := HG.out.bk.cell 8
  simp [spC] at c7 c8
  replace HG := Lib.hid ((HG.out.put (i := 7) (u := .int .i64 x7) (p' := ⟨x0 + 1, x1 + 1, x2 + 4, 0, x4 + 4, 0, [], x7, 0⟩) (by simp [spC]) rfl).put (i := 8) (u := .int .i64 x8) (p' := ⟨x0 + 1, x1 + 1, x2 + 4, 0, x4 + 4, 0, [], x7, x8⟩) (by simp [spC]) rfl)
  replace HRR := Lib.hid ((HRR.out.far (p := ⟨O, 7, none⟩) (fun q => hOR q.symm) (.int .i64 x7)).far (p := ⟨O, 8, none⟩) (fun q => hOR q.symm) (.int .i64 x8))
  replace HBB := Lib.hid ((HBB.out.setCell (p := ⟨O, 7, none⟩) hOB (.int .i64 x7)).setCell (p := ⟨O, 8, none⟩) hOB (.int .i64 x8))
  go_wp2_with fail
  refine (rg_overE HG.out.rg hs HG2_.out.1 HB_.out).mono ?_
  rintro e wd ⟨rfl, tq⟩
  have HA := Lib.hid (HG.out.after tq)
  replace HRR := Lib.hid (HRR.out.touch tq HRn.out)
  replace HBB := Lib.hid (Below.touch HBB.out tq HBn.out (Nat.le_refl _))
  have HV := Lib.hid HG.out.vr
  clear tq f7 f8 c7 c8 HG
  have hRlt := HRR.out.lt
  cases b
  · have hvv := HFIN.out
    rw [if_pos rfl] at hvv
    have HVE := Lib.hid hvv
    clear hvv
    have c0 := HRR.out.cell 0
    have f0 := HRR.out.frozen 0
    have c1 := HRR.out.cell 1
    have f1 := HRR.out.frozen 1
    have c2 := HRR.out.cell 2
    have f2 := HRR.out.frozen 2
    have c3 := HRR.out.cell 3
    have f3 := HRR.out.frozen 3
    have c4 := HRR.out.cell 4
    have f4 := HRR.out.frozen 4
    have c5 := HRR.out.cell 5
    have f5 := HRR.out.frozen 5
    have c6 := HRR.out.cell 6
    have f6 := HRR.out.frozen 6
    have c7 := HRR.out.cell 7
    have f7 := HRR.out.frozen 7
    have c8 := HRR.out.cell 8
    have f8 := HRR.out.frozen 8
    simp [spC, Sp.zero] at c0 c1 c2 c3 c4 c5 c6 c7 c8
    go_wp2_with fail
    have hq := sps_put .zero (.slice none 0 0) HRR.out
    simp only [Sp.zero] at hq
    have HB9 := Lib.hid (Below.touch HBB.out hq.2 (fun i hi q => by omega) (Nat.le_refl _))
    generalize ((((((((wd.setCell ⟨R, 0, none⟩ (.int .i64 0)).setCell ⟨R, 1, none⟩ (.int .i64 0)).setCell ⟨R, 2, none⟩ (.int .i64 0)).setCell ⟨R, 3, none⟩ (.int .i64 0)).setCell ⟨R, 4, none⟩ (.int .i64 0)).setCell ⟨R, 5, none⟩ (.int .i64 0)).setCell ⟨R, 6, none⟩ (.slice none 0 0)).setCell ⟨R, 7, none⟩ (.int .i64 0)).setCell ⟨R, 8, none⟩ (.int .i64 0) = w9 at hq HB9 ⊢
    have d0 := hq.1.cell 0
    have d1 := hq.1.cell 1
    have d2 := hq.1.cell 2
    have d3 := hq.1.cell 3
    have d4 := hq.1.cell 4
    have d5 := hq.1.cell 5
    have d6 := hq.1.cell 6
    have d7 := hq.1.cell 7
    have d8 := hq.1.cell 8
    simp [spC] at d0 d1 d2 d3 d4 d5 d6 d7 d8
    exact bodyPost_ret (v := .tuple #[.agg #[.int .i64 0, .int .i64 0, .int .i64 0, .int .i64 0, .int .i64 0, .int .i64 0, .slice none 0 0, .int .i64 0, .int .i64 0], .int .i64 300]) (by simp [results, Try.results13, go_sem, d0, d1, d2, d3, d4, d5, d6, d7, d8]) rfl (GPost.mk (.slice none 0 0) (by rw [HVE.out]; rfl) (by rw [HVE.out]; exact own_nil_int _ _) HB9.out)
  · have hvv := HFIN.out
    rw [if_neg (by simp)] at hvv
    have HVV2 := Lib.hid hvv
    clear hvv
    have m0 := HA.out.1.cell 0
    have m1 := HA.out.1.cell 1
    have m2 := HA.out.1.cell 2
    have m3 := HA.out.1.cell 3
    have m4 := HA.out.1.cell 4
    have m5 := HA.out.1.cell 5
    have m6 := HA.out.1.cell 6
    have m7 := HA.out.1.cell 7
    have m8 := HA.out.1.cell 8
    simp [spC] at m0 m1 m2 m3 m4 m5 m6 m7 m8
    go_wp2_with fail
    refine (maysp_any ⟨x0 + 1, x1 + 1, x2 + 4, 0, x4 + 4, 0, [], x7, x8⟩ none 0 _ (show SpAt _ _ ⟨x0 + 1, x1 + 1, x2 + 4, 0, x4 + 4, 0, [], x7, x8⟩ none from SpAt.of_own HA.out.2) (by show 0 ≤ _; omega)).mono ?_
    rintro e we ⟨rfl, hb5⟩
    replace HA := Lib.hid (And.intro (HA.out.1.go hb5) (own_go HA.out.2 hb5))
    replace HRR := Lib.hid (HRR.out.go hb5)
    replace HBB := Lib.hid (HBB.out.trans (hb5.mono HBB.out.size))
    clear hb5 m0 m1 m2 m3 m4 m5 m6 m7 m8
    have hRlt := HRR.out.lt
    have m0 := HA.out.1.cell 0
    have m1 := HA.out.1.cell 1
    have m2 := HA.out.1.cell 2
    have m3 := HA.out.1.cell 3
    have m4 := HA.out.1.cell 4
    have m5 := HA.out.1.cell 5
    have m6 := HA.out.1.cell 6
    have m7 := HA.out.1.cell 7
    have m8 := HA.out.1.cell 8
    simp [spC] at m0 m1 m2 m3 m4 m5 m6 m7 m8
    cases hmy : maySp ⟨x0 + 1, x1 + 1, x2 + 4, 0, x4 + 4, 0, [], x7, x8⟩
    · have hvv := HVV2.out
      rw [hmy, if_neg (by simp)] at hvv
      clear hmy
      have HVE := Lib.hid hvv
      clear hvv
      have c0 := HRR.out.cell 0
      have f0 := HRR.out.frozen 0
      have c1 := HRR.out.cell 1
      have f1 := HRR.out.frozen 1
      have c2 := HRR.out.cell 2
      have f2 := HRR.out.frozen 2
      have c3 := HRR.out.cell 3
      have f3 := HRR.out.frozen 3
      have c4 := HRR.out.cell 4
      have f4 := HRR.out.frozen 4
      have c5 := HRR.out.cell 5
      have f5 := HRR.out.frozen 5
      have c6 := HRR.out.cell 6
      have f6 := HRR.out.frozen 6
      have c7 := HRR.out.cell 7
      have f7 := HRR.out.frozen 7
      have c8 := HRR.out.cell 8
      have f8 := HRR.out.frozen 8
      simp [spC, Sp.zero] at c0 c1 c2 c3 c4 c5 c6 c7 c8
      go_wp2_with fail
      have hq := sps_put .zero (.slice none 0 0) HRR.out
      simp only [Sp.zero] at hq
      have HB9 := Lib.hid (Below.touch HBB.out hq.2 (fun i hi q => by omega) (Nat.le_refl _))
      generalize ((((((((we.setCell ⟨R, 0, none⟩ (.int .i64 0)).setCell ⟨R, 1, none⟩ (.int .i64 0)).setCell ⟨R, 2, none⟩ (.int .i64 0)).setCell ⟨R, 3, none⟩ (.int .i64 0)).setCell ⟨R, 4, none⟩ (.int .i64 0)).setCell ⟨R, 5, none⟩ (.int .i64 0)).setCell ⟨R, 6, none⟩ (.slice none 0 0)).setCell ⟨R, 7, none⟩ (.int .i64 0)).setCell ⟨R, 8, none⟩ (.int .i64 0) = w9 at hq HB9 ⊢
      have d0 := hq.1.cell 0
      have d1 := hq.1.cell 1
      have d2 := hq.1.cell 2
      have d3 := hq.1.cell 3
      have d4 := hq.1.cell 4
      have d5 := hq.1.cell 5
      have d6 := hq.1.cell 6
      have d7 := hq.1.cell 7
      have d8 := hq.1.cell 8
      simp [spC] at d0 d1 d2 d3 d4 d5 d6 d7 d8
      exact bodyPost_ret (v := .tuple #[.agg #[.int .i64 0, .int .i64 0, .int .i64 0, .int .i64 0, .int .i64 0, .int .i64 0, .slice none 0 0, .int .i64 0, .int .i64 0], .int .i64 301]) (by simp [results, Try.results13, go_sem, d0, d1, d2, d3, d4, d5, d6, d7, d8]) rfl (GPost.mk (.slice none 0 0) (by rw [HVE.out]; rfl) (by rw [HVE.out]; exact own_nil_int _ _) HB9.out)
    · have hvv := HVV2.out
      rw [hmy, if_pos rfl] at hvv
      have HVE := Lib.hid hvv
      clear hvv hmy
      have c0 := HRR.out.cell 0
      have f0 := HRR.out.frozen 0
      have c1 := HRR.out.cell 1
      have f1 := HRR.out.frozen 1
      have c2 := HRR.out.cell 2
      have f2 := HRR.out.frozen 2
      have c3 := HRR.out.cell 3
      have f3 := HRR.out.frozen 3
      have c4 := HRR.out.cell 4
      have f4 := HRR.out.frozen 4
      have c5 := HRR.out.cell 5
      have f5 := HRR.out.frozen 5
      have c6 := HRR.out.cell 6
      have f6 := HRR.out.frozen 6
      have c7 := HRR.out.cell 7
      have f7 := HRR.out.frozen 7
      have c8 := HRR.out.cell 8
      have f8 := HRR.out.frozen 8
      simp [spC, Sp.zero] at c0 c1 c2 c3 c4 c5 c6 c7 c8
      go_wp2_with fail
      have hq := sps_put ⟨x0 + 1, x1 + 1, x2 + 4, 0, x4 + 4, 0, [], x7, x8⟩ (.slice none 0 0) HRR.out
      simp only at hq
      have HOWN := Lib.hid (own_touch HA.out.2 hq.2 (fun k hk q => by have := (HA.out.2.lt k hk).1; omega))
      have HB9 := Lib.hid (Below.touch HBB.out hq.2 (fun i hi q => by omega) (Nat.le_refl _))
      generalize ((((((((we.setCell ⟨R, 0, none⟩ (.int .i64 (x0 + 1))).setCell ⟨R, 1, none⟩ (.int .i64 (x1 + 1))).setCell ⟨R, 2, none⟩ (.int .i64 (x2 + 4))).setCell ⟨R, 3, none⟩ (.int .i64 0)).setCell ⟨R, 4, none⟩ (.int .i64 (x4 + 4))).setCell ⟨R, 5, none⟩ (.int .i64 0)).setCell ⟨R, 6, none⟩ (.slice none 0 0)).setCell ⟨R, 7, none⟩ (.int .i64 x7)).setCell ⟨R, 8, none⟩ (.int .i64 x8) = w9 at hq HOWN HB9 ⊢
      have d0 := hq.1.cell 0
      have d1 := hq.1.cell 1
      have d2 := hq.1.cell 2
      have d3 := hq.1.cell 3
      have d4 := hq.1.cell 4
      have d5 := hq.1.cell 5
      have d6 := hq.1.cell 6
      have d7 := hq.1.cell 7
      have d8 := hq.1.cell 8
      simp [spC] at d0 d1 d2 d3 d4 d5 d6 d7 d8
      exact bodyPost_ret (v := .tuple #[.agg #[.int .i64 (x0 + 1), .int .i64 (x1 + 1), .int .i64 (x2 + 4), .int .i64 0, .int .i64 (x4 + 4), .int .i64 0, .slice none 0 0, .int .i64 x7, .int .i64 x8], .int .i64 0]) (by simp [results, Try.results13, go_sem, d0, d1, d2, d3, d4, d5, d6, d7, d8]) rfl (GPost.mk (.slice none 0 0) (by rw [HVE.out]; rfl) (by rw [HVE.out]; exact own_less HOWN.out (by omega)) HB9.out)
end Go.Proofs.Ytegfglpaabddlaa
