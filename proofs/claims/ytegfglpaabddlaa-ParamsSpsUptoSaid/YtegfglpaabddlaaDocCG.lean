/- The document's GetSps: lemmas for its walk. The document's GetSps, PocType 0. Printed by gen-getsps2.py. The document's GetSps, another PocType. Printed by gen-getsps2.py. The document's GetSps, PocType 1. Printed by gen-getsps2.py. The document's GetSps: every text. -/
import Derived.Test.YtegfglpaabddlaaParTX
import Derived.Test.YtegfglpaabddlaaParG
import Derived.Test.YtegfglpaabddlaaParO
import Derived.Maps.AppendAt
namespace Go.Proofs.Ytegfglpaabddlaa
open Go.RowKit
set_option linter.unusedVariables false
set_option linter.unusedSimpArgs false

section
variable {w w' : World} {h g gB O B N : Nat} {f : Nat → Bool} {t t' : St} {p : Sp} {v : Value}
theorem Good.dX (gd : Good f N t) : dX t.bad (ueX f N t) = ueX f N t ∧ dX t.bad (seX f N t) = seX f N t ∧ dS t (ueS f N t) = ueS f N t := by
  cases hb : t.bad
  · exact ⟨dX_ok rfl, dX_ok rfl, dS_ok hb⟩
  · have q := gd.x0 hb
    refine ⟨?_, ?_, ?_⟩
    · rw [q.1]; rfl
    · rw [q.2.1]; rfl
    · rw [q.2.2]; unfold dS; rw [if_pos hb]
theorem dg_ueE {x : Int} (H : DG w h g gB N f t) (hN : N ≤ 1125899906842624) (gd : Good f N t) (hx : ueX f N t = x) (ht : ueS f N t = t') :
    Calls Try.prog 45 #[.pointer (some ⟨h, 0, none⟩)] w fun r w' => r = .returned (.int .i64 x) ∧ DG w' h g gB N f t' ∧ Touch (RGS h g) w w' := by
  have := dg_ue H hN gd.1
  rw [gd.dX.1, gd.dX.2.2, hx, ht] at this
  exact this
theorem dg_seE {x : Int} (H : DG w h g gB N f t) (hN : N ≤ 1125899906842624) (gd : Good f N t) (hx : seX f N t = x) (ht : ueS f N t = t') :
    Calls Try.prog 46 #[.pointer (some ⟨h, 0, none⟩)] w fun r w' => r = .returned (.int .i64 x) ∧ DG w' h g gB N f t' ∧ Touch (RGS h g) w w' := by
  have := dg_se H hN gd.1
  rw [gd.dX.2.1, gd.dX.2.2, hx, ht] at this
  exact this
theorem DG.go (H : DG w h g gB N f t) (hb : Below w.heap.size w w') : DG w' h g gB N f t := ⟨H.1.go hb, H.2.1.go hb, H.2.2⟩
theorem DG.lts (H : DG w h g gB N f t) : h < w.heap.size ∧ g < w.heap.size ∧ gB < w.heap.size := by
  obtain ⟨q1, ⟨⟨c, q2⟩, q3, q4, q5⟩, q6⟩ := H
  exact ⟨q1.lt, q2.lt, q4⟩
theorem DG.grown {row : Option Nat} (H : DG w h g gB N f t) (hg : w.grownBy w' row) (h1 : some h ≠ row) (h2 : some g ≠ row) (h3 : some gB ≠ row) : DG w' h g gB N f t := by
  obtain ⟨q1, ⟨⟨c, q2⟩, q3, q4, q5⟩, q6⟩ := H
  exact ⟨q1.grown hg h1, ⟨⟨c, q2.grown hg h2⟩, q3, Nat.lt_of_lt_of_le q4 hg.size, fun k hk => (hg.cell_far ⟨gB, k, none⟩ q4 h3).trans (q5 k hk)⟩, q6⟩
/-- what the document's GetSps holds on its way -/
structure GD (w : World) (h g gB O B N : Nat) (f : Nat → Bool) (t : St) (p : Sp) (v : Value) : Prop where
  rg : DG w h g gB N f t
  bk : Bk w O 24 (spC p v)
  own : w.ownsRow B 3 1 v p.cy.length (cyV p.cy)
  oh : O ≠ h
  og : O ≠ g
  ob : O ≠ gB
  vr : ∀ k, v.ownBlock = some k → k ≠ h ∧ k ≠ g ∧ k ≠ O ∧ k ≠ gB
theorem GD.call (H : GD w h g gB O B N f t p v) (hr : DG w' h g gB N f t') (ht : Touch (RGS h g) w w') : GD w' h g gB O B N f t' p v :=
  ⟨hr, H.bk.touch ht (fun q => by rcases q with q | q; exact H.oh q; exact H.og q), own_touch H.own ht (fun k hk q => by rcases q with q | q; exact (H.vr k hk).1 q; exact (H.vr k hk).2.1 q), H.oh, H.og, H.ob, H.vr⟩
theorem GD.after (H : GD w h g gB O B N f t p v) (ht : Touch (RGS h g) w w') : Bk w' O 24 (spC p v) ∧ w'.ownsRow B 3 1 v p.cy.length (cyV p.cy) :=
  ⟨H.bk.touch ht (fun q => by rcases q with q | q; exact H.oh q; exact H.og q), own_touch H.own ht (fun k hk q => by rcases q with q | q; exact (H.vr k hk).1 q; exact (H.vr k hk).2.1 q)⟩
theorem GD.go (H : GD w h g gB O B N f t p v) (hb : Below w.heap.size w w') : GD w' h g gB O B N f t p v := ⟨H.rg.go hb, H.bk.go hb, own_go H.own hb, H.oh, H.og, H.ob, H.vr⟩
theorem GD.put (H : GD w h g gB O B N f t p v) {i : Nat} {u : Value} {p' : Sp} (hp : (spC p v).setIfInBounds i u = spC p' v) (hc : p'.cy = p.cy) : GD (w.setCell ⟨O, i, none⟩ u) h g gB O B N f t p' v := by
  have hb := H.bk.set_ i u
  rw [hp] at hb
  exact ⟨H.rg.far H.oh H.og H.ob i u, hb, by rw [hc]; exact own_setFar H.own (fun q => (H.vr O q).2.2.1 rfl) _, H.oh, H.og, H.ob, H.vr⟩
/-- a number behind the cycle, laid down -/
theorem GD.lay (H : GD w h g gB O B N f t p v) {v' : Value} {l : List Int} (ho : w'.ownsRow B 3 1 v' l.length (cyV l)) (hg : w.grownBy w' v.ownBlock) (hat : v'.ownBlock = v.ownBlock ∨ v'.ownBlock = some w.heap.size) :
    GD (w'.setCell ⟨O, 6, none⟩ v') h g gB O B N f t { p with cy := l } v' ∧ Bk w' O 24 (spC p v) := by
  have hl := H.rg.lts
  have hO := H.bk.lt
  have hb1 : Bk w' O 24 (spC p v) := H.bk.grown hg (fun q => (H.vr O q.symm).2.2.1 rfl)
  have hv : ∀ k, v'.ownBlock = some k → k ≠ h ∧ k ≠ g ∧ k ≠ O ∧ k ≠ gB := fun k hk => by
    rcases hat with q | q
    · exact H.vr k (q ▸ hk)
    · rw [hk] at q
      obtain rfl : k = w.heap.size := by injection q
      omega
  have hr : DG w' h g gB N f t := H.rg.grown hg (fun q => (H.vr h q.symm).1 rfl) (fun q => (H.vr g q.symm).2.1 rfl) (fun q => (H.vr gB q.symm).2.2.2 rfl)
  exact ⟨⟨hr.far H.oh H.og H.ob 6 v', hb1.set_ 6 v', own_setFar ho (fun q => (hv O q).2.2.1 rfl) _, H.oh, H.og, H.ob, hv⟩, hb1⟩
end
theorem cellI_new (w : World) (x : Int) (t : TypeId) : ∀ (j : Nat) (u : Value), [Value.int .i64 x][j]? = some u → (w.alloc (.cells #[.int .i64 x] t)).cell? ((⟨w.heap.size, 0, none⟩ : Addr).add j) = some u := by
  intro j u hj
  rw [add_new, (Bk.new w t #[.int .i64 x]).cell j]
  match j, hj with
  | 0, hj => simpa using hj
theorem oneI_cell (x : Int) : ∀ u ∈ [Value.int .i64 x], u.oneCell' = true := by intro u hu; simp at hu; subst hu; rfl
end Go.Proofs.Ytegfglpaabddlaa

namespace Go.Proofs.Ytegfglpaabddlaa
open Go.RowKit
set_option linter.unusedVariables false
set_option linter.unusedSimpArgs false

set_option maxRecDepth 100000 in
set_option maxHeartbeats 6400000 in
theorem getsp2_0 (s : ByteArray) (w : World) (hs : s.size ≤ 17592186044416) (x0 x1 x2 x3 : Int) (t1 t2 t3 t4 : St) (e0 : ueX (sbit s) (8 * s.size) ⟨0, false⟩ = x0) (f1 : ueS (sbit s) (8 * s.size) ⟨0, false⟩ = t1) (e1 : ueX (sbit s) (8 * s.size) t1 = x1) (f2 : ueS (sbit s) (8 * s.size) t1 = t2) (e2 : ueX (sbit s) (8 * s.size) t2 = x2) (f3 : ueS (sbit s) (8 * s.size) t2 = t3) (e3 : ueX (sbit s) (8 * s.size) t3 = x3) (f4 : ueS (sbit s) (8 * s.size) t3 = t4)
    (b0 : 0 ≤ x0 ∧ x0 ≤ 2147483646) (b1 : 0 ≤ x1 ∧ x1 ≤ 2147483646) (b2 : 0 ≤ x2 ∧ x2 ≤ 2147483646) (g1 : Good (sbit s) (8 * s.size) t1) (g2 : Good (sbit s) (8 * s.size) t2) (g3 : Good (sbit s) (8 * s.size) t3) (g4 : Good (sbit s) (8 * s.size) t4) (hx : x3 = 0) (VV : Sp × Int) (hVV : VV = getSp (sbit s) (8 * s.size)) :
    Calls Try.prog 14 #[.string s] w (GPost VV w) := by
  have hF := getSp_form x0 x1 x2 x3 t1 t2 t3 t4 e0 f1 e1 f2 e2 f3 e3 f4
  have HF := Lib.hid (fun x4 t5 => hF.1 x4 t5 hx)
  clear hF
  have HVV := Lib.hid hVV
  have HN := Lib.hid (show 8 * s.size ≤ 1125899906842624 by omega)
  have HGD := Lib.hid (And.intro (Good.start (f := sbit s) (N := 8 * s.size)) (And.intro g1 (And.intro g2 (And.intro g3 g4))))
  have HE := Lib.hid (And.intro e0 (And.intro f1 (And.intro e1 (And.intro f2 (And.intro e2 (And.intro f3 (And.intro e3 f4)))))))
  clear hVV e0 f1 e1 f2 e2 f3 e3 f4 g1 g2 g3 g4
  have hR0 := Bk.new w 24 #[.int .i64 0, .int .i64 0, .int .i64 0, .int .i64 0, .int .i64 0, .int .i64 0, .slice none 0 0, .int .i64 0, .int .i64 0]
  have hb0 := (Below.refl w.heap.size w).alloc (Nat.le_refl _) (.cells #[.int .i64 0, .int .i64 0, .int .i64 0, .int .i64 0, .int .i64 0, .int .i64 0, .slice none 0 0, .int .i64 0, .int .i64 0] 24)
  have HR0 := Lib.hid hR0
  have HB0 := Lib.hid hb0
  clear hR0 hb0
  go_enter Try.func14, Try.ntmps14
  go_wp2_with fail
  refine (openr_any s _ hs).mono ?_
  rintro e w1 ⟨gB, cp, rfl, hg1, hg2, hcells, hb1⟩
  rw [World.size_alloc] at hg1
  have hR1 := HR0.out.go hb1
  have hB1 := HB0.out.trans (hb1.mono HB0.out.size)
  have hR2 := ((hR1.alloc (.cells #[.slice (some ⟨gB, 0, none⟩) (8 * s.size) cp, .int .i64 0] 94)).alloc (.cells #[.pointer (some ⟨w1.heap.size, 0, none⟩), .bool false] 96)).alloc (.cells #[.int .i64 0, .int .i64 0, .int .i64 0, .int .i64 0, .int .i64 0, .int .i64 0, .slice none 0 0, .int .i64 0, .int .i64 0] 24)
  have hsz1 := hB1.size
  have hB2 := ((hB1.alloc hsz1 (.cells #[.slice (some ⟨gB, 0, none⟩) (8 * s.size) cp, .int .i64 0] 94)).alloc (by simp; omega) (.cells #[.pointer (some ⟨w1.heap.size, 0, none⟩), .bool false] 96)).alloc (by simp; omega) (.cells #[.int .i64 0, .int .i64 0, .int .i64 0, .int .i64 0, .int .i64 0, .int .i64 0, .slice none 0 0, .int .i64 0, .int .i64 0] 24)
  have hgk := ((Bk.new w1 94 #[.slice (some ⟨gB, 0, none⟩) (8 * s.size) cp, .int .i64 0]).alloc (.cells #[.pointer (some ⟨w1.heap.size, 0, none⟩), .bool false] 96)).alloc (.cells #[.int .i64 0, .int .i64 0, .int .i64 0, .int .i64 0, .int .i64 0, .int .i64 0, .slice none 0 0, .int .i64 0, .int .i64 0] 24)
  have hhk := (Bk.new (w1.alloc (.cells #[.slice (some ⟨gB, 0, none⟩) (8 * s.size) cp, .int .i64 0] 94)) 96 #[.pointer (some ⟨w1.heap.size, 0, none⟩), .bool false]).alloc (.cells #[.int .i64 0, .int .i64 0, .int .i64 0, .int .i64 0, .int .i64 0, .int .i64 0, .slice none 0 0, .int .i64 0, .int .i64 0] 24)
  have hmk := Bk.new ((w1.alloc (.cells #[.slice (some ⟨gB, 0, none⟩) (8 * s.size) cp, .int .i64 0] 94)).alloc (.cells #[.pointer (some ⟨w1.heap.size, 0, none⟩), .bool false] 96)) 24 #[.int .i64 0, .int .i64 0, .int .i64 0, .int .i64 0, .int .i64 0, .int .i64 0, .slice none 0 0, .int .i64 0, .int .i64 0]
  rw [World.size_alloc] at hhk
  rw [World.size_alloc, World.size_alloc] at hmk
  have hbc : Below w1.heap.size w1 (((w1.alloc (.cells #[.slice (some ⟨gB, 0, none⟩) (8 * s.size) cp, .int .i64 0] 94)).alloc (.cells #[.pointer (some ⟨w1.heap.size, 0, none⟩), .bool false] 96)).alloc (.cells #[.int .i64 0, .int .i64 0, .int .i64 0, .int .i64 0, .int .i64 0, .int .i64 0, .slice none 0 0, .int .i64 0, .int .i64 0] 24)) := (((Below.refl _ _).alloc (Nat.le_refl _) _).alloc (by simp) _).alloc (by simp; omega) _
  have hce : ∀ k, k < 8 * s.size → World.cell? (((w1.alloc (.cells #[.slice (some ⟨gB, 0, none⟩) (8 * s.size) cp, .int .i64 0] 94)).alloc (.cells #[.pointer (some ⟨w1.heap.size, 0, none⟩), .bool false] 96)).alloc (.cells #[.int .i64 0, .int .i64 0, .int .i64 0, .int .i64 0, .int .i64 0, .int .i64 0, .slice none 0 0, .int .i64 0, .int .i64 0] 24)) ⟨gB, k, none⟩ = some (.int .u8 (bu (sbit s k))) := fun k hk => (hbc.cell (p := ⟨gB, k, none⟩) hg2).trans (hcells k hk)
  obtain ⟨g, hG⟩ : ∃ g, g = w1.heap.size := ⟨_, rfl⟩
  obtain ⟨h, hH⟩ : ∃ h, h = w1.heap.size + 1 := ⟨_, rfl⟩
  obtain ⟨M, hM⟩ : ∃ M, M = w1.heap.size + 1 + 1 := ⟨_, rfl⟩
  obtain ⟨R, hR⟩ : ∃ R, R = w.heap.size := ⟨_, rfl⟩
  have n1 : M ≠ h := by omega
  have n2 : M ≠ g := by omega
  have n3 : M ≠ gB := by omega
  have n6 : R ≠ M := by omega
  have n9 : w.heap.size ≤ M := by omega
  have n10 : gB ≠ g := by omega
  have n11 : h ≠ gB := by omega
  have n12 : w.heap.size ≤ R := by omega
  have HRn : Hid (¬ RGS h g R) := Lib.hid (fun q => by rcases q with q | q <;> omega)
  have HBn : Hid (∀ i, i < w.heap.size → ¬ RGS h g i) := Lib.hid (fun i hi q => by rcases q with q | q <;> omega)
  have HRR := Lib.hid hR2
  have HBB := Lib.hid hB2
  have HGK := Lib.hid hgk
  have HHK := Lib.hid hhk
  have HM := Lib.hid hmk
  have HCE := Lib.hid hce
  have HBC := Lib.hid hbc
  clear hg1 hcells hb1 hR1 hB1 hR2 hsz1 hB2 hgk hhk hmk hce hbc HR0 HB0
  go_wp2_with fail
  generalize (((w1.alloc (.cells #[.slice (some ⟨gB, 0, none⟩) (8 * s.size) cp, .int .i64 0] 94)).alloc (.cells #[.pointer (some ⟨w1.heap.size, 0, none⟩), .bool false] 96)).alloc (.cells #[.int .i64 0, .int .i64 0, .int .i64 0, .int .i64 0, .int .i64 0, .int .i64 0, .slice none 0 0, .int .i64 0, .int .i64 0] 24)) = wn at HRR HBB HGK HHK HM HCE HBC ⊢
  rw [← hG] at HGK HHK HM ⊢
  have hH2 : h = g + 1 := by omega
  have hM2 : M = h + 1 := by omega
  rw [← hH2] at HHK HM ⊢
  rw [← hM2] at HM ⊢
  rw [← hR] at HRR ⊢
  clear hH2 hM2
  have HG : Hid (GD wn h g gB M (R + 1) (8 * s.size) (sbit s) ⟨0, false⟩ .zero (.slice none 0 0)) := Lib.hid ⟨⟨HHK.out, ⟨⟨cp, HGK.out⟩, n10, by have := HBC.out.size; omega, HCE.out⟩, n11⟩, HM.out, own_nil_int _ _, n1, n2, n3, fun k q => by simp [Value.ownBlock] at q⟩
  have HRR : Hid (Bk wn R 24 (spC .zero (.slice none 0 0))) := HRR
  have HEQ := Lib.hid (And.intro hG (And.intro hH (And.intro hM hR)))
  have HNM := Lib.hid n6
  clear hG hH hM hR hg2 HGK HHK HCE HBC HM
  subst hx
  refine (dg_ueE HG.out.rg HN.out HGD.out.1 HE.out.1 HE.out.2.1).mono ?_
  rintro e wc1 ⟨rfl, q, tq⟩
  replace HG := Lib.hid (HG.out.call q tq)
  replace HRR := Lib.hid (HRR.out.touch tq HRn.out)
  replace HBB := Lib.hid (Below.touch HBB.out tq HBn.out (Nat.le_refl _))
  clear q tq
  have f0 := HG.out.bk.frozen 0
  have c0 := HG.out.bk.cell 0
  simp [spC, Sp.zero] at c0
  replace HG := Lib.hid (HG.out.put (i := 0) (u := .int .i64 (x0 + 1)) (p' := ⟨x0 + 1, 0, 0, 0, 0, 0, [], 0, 0⟩) (by simp [spC, Sp.zero]) rfl)
  replace HRR := Lib.hid (HRR.out.far (p := ⟨M, 0, none⟩) HNM.out (.int .i64 (x0 + 1)))
  replace HBB := Lib.hid (HBB.out.setCell (p := ⟨M, 0, none⟩) n9 (.int .i64 (x0 + 1)))
  go_wp2_with fail
  clear f0 c0
  refine (dg_ueE HG.out.rg HN.out HGD.out.2.1 HE.out.2.2.1 HE.out.2.2.2.1).mono ?_
  rintro e wc2 ⟨rfl, q, tq⟩
  replace HG := Lib.hid (HG.out.call q tq)
  replace HRR := Lib.hid (HRR.out.touch tq HRn.out)
  replace HBB := Lib.hid (Below.touch HBB.out tq HBn.out (Nat.le_refl _))
  clear q tq
  have f1 := HG.out.bk.frozen 1
  have c1 := HG.out.bk.cell 1
  simp [spC, Sp.zero] at c1
  replace HG := Lib.hid (HG.out.put (i := 1) (u := .int .i64 (x1 + 1)) (p' := ⟨x0 + 1, x1 + 1, 0, 0, 0, 0, [], 0, 0⟩) (by simp [spC, Sp.zero]) rfl)
  replace HRR := Lib.hid (HRR.out.far (p := ⟨M, 1, none⟩) HNM.out (.int .i64 (x1 + 1)))
  replace HBB := Lib.hid (HBB.out.setCell (p := ⟨M, 1, none⟩) n9 (.int .i64 (x1 + 1)))
  go_wp2_with fail
  clear f1 c1
  refine (dg_ueE HG.out.rg HN.out HGD.out.2.2.1 HE.out.2.2.2.2.1 HE.out.2.2.2.2.2.1).mono ?_
  rintro e wc3 ⟨rfl, q, tq⟩
  replace HG := Lib.hid (HG.out.call q tq)
  replace HRR := Lib.hid (HRR.out.touch tq HRn.out)
  replace HBB := Lib.hid (Below.touch HBB.out tq HBn.out (Nat.le_refl _))
  clear q tq
  have f2 := HG.out.bk.frozen 2
  have c2 := HG.out.bk.cell 2
  simp [spC, Sp.zero] at c2
  replace HG := Lib.hid (HG.out.put (i := 2) (u := .int .i64 (x2 + 4)) (p' := ⟨x0 + 1, x1 + 1, x2 + 4, 0, 0, 0, [], 0, 0⟩) (by simp [spC, Sp.zero]) rfl)
  replace HRR := Lib.hid (HRR.out.far (p := ⟨M, 2, none⟩) HNM.out (.int .i64 (x2 + 4)))
  replace HBB := Lib.hid (HBB.out.setCell (p := ⟨M, 2, none⟩) n9 (.int .i64 (x2 + 4)))
  go_wp2_with fail
  clear f2 c2
  refine (dg_ueE HG.out.rg HN.out HGD.out.2.2.2.1 HE.out.2.2.2.2.2.2.1 HE.out.2.2.2.2.2.2.2).mono ?_
  rintro e wc4 ⟨rfl, q, tq⟩
  replace HG := Lib.hid (HG.out.call q tq)
  replace HRR := Lib.hid (HRR.out.touch tq HRn.out)
  replace HBB := Lib.hid (Below.touch HBB.out tq HBn.out (Nat.le_refl _))
  clear q tq
  have f3 := HG.out.bk.frozen 3
  have c3 := HG.out.bk.cell 3
  have f4 := HG.out.bk.frozen 4
  have c4 := HG.out.bk.cell 4
  simp [spC, Sp.zero] at c3 c4
  replace HG := Lib.hid (HG.out.put (i := 3) (u := .int .i64 (0)) (p' := ⟨x0 + 1, x1 + 1, x2 + 4, 0, 0, 0, [], 0, 0⟩) (by simp [spC, Sp.zero]) rfl)
  replace HRR := Lib.hid (HRR.out.far (p := ⟨M, 3, none⟩) HNM.out (.int .i64 (0)))
  replace HBB := Lib.hid (HBB.out.setCell (p := ⟨M, 3, none⟩) n9 (.int .i64 (0)))
  replace HG := Lib.hid (HG.out.put (i := 4) (u := .int .i64 (4)) (p' := ⟨x0 + 1, x1 + 1, x2 + 4, 0, 4, 0, [], 0, 0⟩) (by simp [spC, Sp.zero]) rfl)
  replace HRR := Lib.hid (HRR.out.far (p := ⟨M, 4, none⟩) HNM.out (.int .i64 (4)))
  replace HBB := Lib.hid (HBB.out.setCell (p := ⟨M, 4, none⟩) n9 (.int .i64 (4)))
  go_wp2_with fail
  clear f3 c3 f4 c4
  obtain ⟨x4, t5, hx_, ht_, b_x4, g_t5⟩ := HGD.out.2.2.2.2.next
  refine (dg_ueE HG.out.rg HN.out HGD.out.2.2.2.2 hx_ ht_).mono ?_
  rintro e wc5 ⟨rfl, q, tq⟩
  replace HG := Lib.hid (HG.out.call q tq)
  replace HRR := Lib.hid (HRR.out.touch tq HRn.out)
  replace HBB := Lib.hid (Below.touch HBB.out tq HBn.out (Nat.le_refl _))
  clear q tq
  have HFIN := Lib.hid (HVV.out.trans (HF.out x4 t5 hx_ ht_))
  have HG5 := Lib.hid g_t5
  clear hx_ ht_ g_t5
  have f3 := HG.out.bk.frozen 3
  have c3 := HG.out.bk.cell 3
  have f4 := HG.out.bk.frozen 4
  have c4 := HG.out.bk.cell 4
  simp [spC, Sp.zero] at c3 c4
  replace HG := Lib.hid (HG.out.put (i := 4) (u := .int .i64 (x4 + 4)) (p' := ⟨x0 + 1, x1 + 1, x2 + 4, 0, x4 + 4, 0, [], 0, 0⟩) (by simp [spC, Sp.zero]) rfl)
  replace HRR := Lib.hid (HRR.out.far (p := ⟨M, 4, none⟩) HNM.out (.int .i64 (x4 + 4)))
  replace HBB := Lib.hid (HBB.out.setCell (p := ⟨M, 4, none⟩) n9 (.int .i64 (x4 + 4)))
  go_wp2_with fail
  clear f3 c3 f4 c4
  obtain ⟨x7, T1, hx_, ht_, b_x7, g_T1⟩ := HG5.out.next
  refine (dg_ueE HG.out.rg HN.out HG5.out hx_ ht_).mono ?_
  rintro e wc6 ⟨rfl, q, tq⟩
  replace HG := Lib.hid (HG.out.call q tq)
  replace HRR := Lib.hid (HRR.out.touch tq HRn.out)
  replace HBB := Lib.hid (Below.touch HBB.out tq HBn.out (Nat.le_refl _))
  clear q tq
  have HX7 := Lib.hid (And.intro hx_ ht_)
  have HGT := Lib.hid g_T1
  clear hx_ ht_ g_T1
  have f7 := HG.out.bk.frozen 7
  have c7 := HG.out.bk.cell 7
  simp [spC, Sp.zero] at c7
  replace HG := Lib.hid (HG.out.put (i := 7) (u := .int .i64 (x7)) (p' := ⟨x0 + 1, x1 + 1, x2 + 4, 0, x4 + 4, 0, [], x7, 0⟩) (by simp [spC, Sp.zero]) rfl)
  replace HRR := Lib.hid (HRR.out.far (p := ⟨M, 7, none⟩) HNM.out (.int .i64 (x7)))
  replace HBB := Lib.hid (HBB.out.setCell (p := ⟨M, 7, none⟩) n9 (.int .i64 (x7)))
  go_wp2_with fail
  clear f7 c7
  obtain ⟨x8, T2, hx_, ht_, b_x8, g_T2⟩ := HGT.out.next
  refine (dg_ueE HG.out.rg HN.out HGT.out hx_ ht_).mono ?_
  rintro e wc7 ⟨rfl, q, tq⟩
  replace HG := Lib.hid (HG.out.call q tq)
  replace HRR := Lib.hid (HRR.out.touch tq HRn.out)
  replace HBB := Lib.hid (Below.touch HBB.out tq HBn.out (Nat.le_refl _))
  clear q tq
  obtain ⟨b, hb⟩ : ∃ b, (!T2.bad && ((trailR (sbit s) (8 * s.size) T2.a).1 : Int) == 0) = b := ⟨_, rfl⟩
  have hfin := finSp_form (p := ⟨x0 + 1, x1 + 1, x2 + 4, 0, x4 + 4, 0, [], 0, 0⟩) HX7.out.1 HX7.out.2 hx_ ht_ hb
  rw [← HFIN.out] at hfin
  replace HFIN := Lib.hid hfin
  have HB_ := Lib.hid hb
  have HG2_ := Lib.hid g_T2
  clear hx_ ht_ hfin hb g_T2 HX7 HGT
  have HGP := HG
  have f8 := HG.out.bk.frozen 8
  have c8 := HG.out.bk.cell 8
  simp [spC, Sp.zero] at c8
  replace HG := Lib.hid (HG.out.put (i := 8) (u := .int .i64 (x8)) (p' := ⟨x0 + 1, x1 + 1, x2 + 4, 0, x4 + 4, 0, [], x7, x8⟩) (by simp [spC, Sp.zero]) rfl)
  replace HRR := Lib.hid (HRR.out.far (p := ⟨M, 8, none⟩) HNM.out (.int .i64 (x8)))
  replace HBB := Lib.hid (HBB.out.setCell (p := ⟨M, 8, none⟩) n9 (.int .i64 (x8)))
  obtain ⟨bad, hbad⟩ : ∃ bad, bad = T2.bad := ⟨_, rfl⟩
  have d0 := HG.out.rg.1.cell 0
  have d1 := HG.out.rg.1.cell 1
  simp at d0 d1
  rw [← hbad] at d1
  have e0 := HGP.out.rg.1.cell 0
  have e1 := HGP.out.rg.1.cell 1
  simp at e0 e1
  rw [← hbad] at e1
  have HBAD := Lib.hid hbad
  clear hbad
  cases bad
  · go_wp2_with fail
    clear f8 c8 d0 d1 e0 e1
    refine (trailr_any g gB (8 * s.size) (sbit s) T2.a _ HG.out.rg.2.1 HN.out HG2_.out.1).mono ?_
    rintro e wd ⟨rfl, hq⟩
    have tq := (HG.out.rg.rd hq).2
    have HA := Lib.hid (HG.out.after tq)
    replace HRR := Lib.hid (HRR.out.touch tq HRn.out)
    replace HBB := Lib.hid (Below.touch HBB.out tq HBn.out (Nat.le_refl _))
    clear tq hq HG HGP
    obtain ⟨bt, hbt⟩ : ∃ bt, (((trailR (sbit s) (8 * s.size) T2.a).1 : Int) != 0) = bt := ⟨_, rfl⟩
    have hbb : b = !bt := by rw [← HB_.out, ← HBAD.out, ← hbt]; simp [bne]
    rw [hbb] at HFIN
    have hRlt := HRR.out.lt
    clear HB_ hbb
    cases bt
    · have hvv := HFIN.out
      rw [if_neg (by simp)] at hvv
      have HVV2 := Lib.hid hvv
      clear hvv
      have m0 := HA.out.1.cell 0
      have m1 := HA.out.1.cell 1
      have m2 := HA.out.1.cell 2
      have m3 := HA.out.1.cell 3
      have m4 := HA.out.1.cell 4
      have m5 := HA.out.1.cell 5
      have m6 := HA.out.1.cell 6
      have m7 := HA.out.1.cell 7
      have m8 := HA.out.1.cell 8
      simp [spC] at m0 m1 m2 m3 m4 m5 m6 m7 m8
      go_wp2_with fail
      clear hbt
      refine (maysp2_any ⟨x0 + 1, x1 + 1, x2 + 4, 0, x4 + 4, 0, [], x7, x8⟩ none 0 _ (show SpAt _ _ ⟨x0 + 1, x1 + 1, x2 + 4, 0, x4 + 4, 0, [], x7, x8⟩ none from SpAt.of_own HA.out.2) (by show 0 ≤ _; omega)).mono ?_
      rintro e we ⟨rfl, hb5⟩
      replace HA := Lib.hid (And.intro (HA.out.1.go hb5) (own_go HA.out.2 hb5))
      replace HRR := Lib.hid (HRR.out.go hb5)
      replace HBB := Lib.hid (HBB.out.trans (hb5.mono HBB.out.size))
      clear hb5 m0 m1 m2 m3 m4 m5 m6 m7 m8 hRlt
      have hRlt := HRR.out.lt
      have m0 := HA.out.1.cell 0
      have m1 := HA.out.1.cell 1
      have m2 := HA.out.1.cell 2
      have m3 := HA.out.1.cell 3
      have m4 := HA.out.1.cell 4
      have m5 := HA.out.1.cell 5
      have m6 := HA.out.1.cell 6
      have m7 := HA.out.1.cell 7
      have m8 := HA.out.1.cell 8
      simp [spC] at m0 m1 m2 m3 m4 m5 m6 m7 m8
      cases hmy : maySp ⟨x0 + 1, x1 + 1, x2 + 4, 0, x4 + 4, 0, [], x7, x8⟩
      · have hvv := HVV2.out
        rw [hmy, if_neg (by simp)] at hvv
        clear hmy
        have HVE := Lib.hid hvv
        clear hvv
        have hRlt := HRR.out.lt
        have c0 := HRR.out.cell 0
        have f0 := HRR.out.frozen 0
        have c1 := HRR.out.cell 1
        have f1 := HRR.out.frozen 1
        have c2 := HRR.out.cell 2
        have f2 := HRR.out.frozen 2
        have c3 := HRR.out.cell 3
        have f3 := HRR.out.frozen 3
        have c4 := HRR.out.cell 4
        have f4 := HRR.out.frozen 4
        have c5 := HRR.out.cell 5
        have f5 := HRR.out.frozen 5
        have c6 := HRR.out.cell 6
        have f6 := HRR.out.frozen 6
        have c7 := HRR.out.cell 7
        have f7 := HRR.out.frozen 7
        have c8 := HRR.out.cell 8
        have f8 := HRR.out.frozen 8
        simp [spC, Sp.zero] at c0 c1 c2 c3 c4 c5 c6 c7 c8
        go_wp2_with fail
        have hq := sps_put .zero (.slice none 0 0) HRR.out
        simp only [Sp.zero] at hq
        have HB9 := Lib.hid (Below.touch HBB.out hq.2 (fun i hi q => by omega) (Nat.le_refl _))
        generalize ((((((((we.setCell ⟨R, 0, none⟩ (.int .i64 0)).setCell ⟨R, 1, none⟩ (.int .i64 0)).setCell ⟨R, 2, none⟩ (.int .i64 0)).setCell ⟨R, 3, none⟩ (.int .i64 0)).setCell ⟨R, 4, none⟩ (.int .i64 0)).setCell ⟨R, 5, none⟩ (.int .i64 0)).setCell ⟨R, 6, none⟩ (.slice none 0 0)).setCell ⟨R, 7, none⟩ (.int .i64 0)).setCell ⟨R, 8, none⟩ (.int .i64 0) = w9 at hq HB9 ⊢
        have d0 := hq.1.cell 0
        have d1 := hq.1.cell 1
        have d2 := hq.1.cell 2
        have d3 := hq.1.cell 3
        have d4 := hq.1.cell 4
        have d5 := hq.1.cell 5
        have d6 := hq.1.cell 6
        have d7 := hq.1.cell 7
        have d8 := hq.1.cell 8
        simp [spC] at d0 d1 d2 d3 d4 d5 d6 d7 d8
        exact bodyPost_ret (v := .tuple #[.agg #[.int .i64 0, .int .i64 0, .int .i64 0, .int .i64 0, .int .i64 0, .int .i64 0, .slice none 0 0, .int .i64 0, .int .i64 0], .int .i64 301]) (by simp [results, Try.results14, go_sem, d0, d1, d2, d3, d4, d5, d6, d7, d8]) rfl (GPost.mk (.slice none 0 0) (by rw [HVE.out]; rfl) (by rw [HVE.out]; exact own_nil_int _ _) HB9.out)
      · have hvv := HVV2.out
        rw [hmy, if_pos rfl] at hvv
        have HVE := Lib.hid hvv
        clear hvv hmy
        have c0 := HRR.out.cell 0
        have f0 := HRR.out.frozen 0
        have c1 := HRR.out.cell 1
        have f1 := HRR.out.frozen 1
        have c2 := HRR.out.cell 2
        have f2 := HRR.out.frozen 2
        have c3 := HRR.out.cell 3
        have f3 := HRR.out.frozen 3
        have c4 := HRR.out.cell 4
        have f4 := HRR.out.frozen 4
        have c5 := HRR.out.cell 5
        have f5 := HRR.out.frozen 5
        have c6 := HRR.out.cell 6
        have f6 := HRR.out.frozen 6
        have c7 := HRR.out.cell 7
        have f7 := HRR.out.frozen 7
        have c8 := HRR.out.cell 8
        have f8 := HRR.out.frozen 8
        simp [spC, Sp.zero] at c0 c1 c2 c3 c4 c5 c6 c7 c8
        go_wp2_with fail
        have hq := sps_put ⟨x0 + 1, x1 + 1, x2 + 4, 0, x4 + 4, 0, [], x7, x8⟩ (.slice none 0 0) HRR.out
        simp only at hq
        have HOWN := Lib.hid (own_touch HA.out.2 hq.2 (fun k hk q => by have := (HA.out.2.lt k hk).1; omega))
        have HB9 := Lib.hid (Below.touch HBB.out hq.2 (fun i hi q => by omega) (Nat.le_refl _))
        generalize ((((((((we.setCell ⟨R, 0, none⟩ (.int .i64 (x0 + 1))).setCell ⟨R, 1, none⟩ (.int .i64 (x1 + 1))).setCell ⟨R, 2, none⟩ (.int .i64 (x2 + 4))).setCell ⟨R, 3, none⟩ (.int .i64 0)).setCell ⟨R, 4, none⟩ (.int .i64 (x4 + 4))).setCell ⟨R, 5, none⟩ (.int .i64 0)).setCell ⟨R, 6, none⟩ (.slice none 0 0)).setCell ⟨R, 7, none⟩ (.int .i64 x7)).setCell ⟨R, 8, none⟩ (.int .i64 x8) = w9 at hq HOWN HB9 ⊢
        have d0 := hq.1.cell 0
        have d1 := hq.1.cell 1
        have d2 := hq.1.cell 2
        have d3 := hq.1.cell 3
        have d4 := hq.1.cell 4
        have d5 := hq.1.cell 5
        have d6 := hq.1.cell 6
        have d7 := hq.1.cell 7
        have d8 := hq.1.cell 8
        simp [spC] at d0 d1 d2 d3 d4 d5 d6 d7 d8
        exact bodyPost_ret (v := .tuple #[.agg #[.int .i64 (x0 + 1), .int .i64 (x1 + 1), .int .i64 (x2 + 4), .int .i64 0, .int .i64 (x4 + 4), .int .i64 0, .slice none 0 0, .int .i64 x7, .int .i64 x8], .int .i64 0]) (by simp [results, Try.results14, go_sem, d0, d1, d2, d3, d4, d5, d6, d7, d8]) rfl (GPost.mk (.slice none 0 0) (by rw [HVE.out]; rfl) (by rw [HVE.out]; exact own_less HOWN.out (by omega)) HB9.out)
    · have hvv := HFIN.out
      rw [if_pos (by simp)] at hvv
      have HVE := Lib.hid hvv
      clear hvv
      have hRlt := HRR.out.lt
      have c0 := HRR.out.cell 0
      have f0 := HRR.out.frozen 0
      have c1 := HRR.out.cell 1
      have f1 := HRR.out.frozen 1
      have c2 := HRR.out.cell 2
      have f2 := HRR.out.frozen 2
      have c3 := HRR.out.cell 3
      have f3 := HRR.out.frozen 3
      have c4 := HRR.out.cell 4
      have f4 := HRR.out.frozen 4
      have c5 := HRR.out.cell 5
      have f5 := HRR.out.frozen 5
      have c6 := HRR.out.cell 6
      have f6 := HRR.out.frozen 6
      have c7 := HRR.out.cell 7
      have f7 := HRR.out.frozen 7
      have c8 := HRR.out.cell 8
      have f8 := HRR.out.frozen 8
      simp [spC, Sp.zero] at c0 c1 c2 c3 c4 c5 c6 c7 c8
      go_wp2_with fail
      have hq := sps_put .zero (.slice none 0 0) HRR.out
      simp only [Sp.zero] at hq
      have HB9 := Lib.hid (Below.touch HBB.out hq.2 (fun i hi q => by omega) (Nat.le_refl _))
      generalize ((((((((wd.setCell ⟨R, 0, none⟩ (.int .i64 0)).setCell ⟨R, 1, none⟩ (.int .i64 0)).setCell ⟨R, 2, none⟩ (.int .i64 0)).setCell ⟨R, 3, none⟩ (.int .i64 0)).setCell ⟨R, 4, none⟩ (.int .i64 0)).setCell ⟨R, 5, none⟩ (.int .i64 0)).setCell ⟨R, 6, none⟩ (.slice none 0 0)).setCell ⟨R, 7, none⟩ (.int .i64 0)).setCell ⟨R, 8, none⟩ (.int .i64 0) = w9 at hq HB9 ⊢
      have d0 := hq.1.cell 0
      have d1 := hq.1.cell 1
      have d2 := hq.1.cell 2
      have d3 := hq.1.cell 3
      have d4 := hq.1.cell 4
      have d5 := hq.1.cell 5
      have d6 := hq.1.cell 6
      have d7 := hq.1.cell 7
      have d8 := hq.1.cell 8
      simp [spC] at d0 d1 d2 d3 d4 d5 d6 d7 d8
      exact bodyPost_ret (v := .tuple #[.agg #[.int .i64 0, .int .i64 0, .int .i64 0, .int .i64 0, .int .i64 0, .int .i64 0, .slice none 0 0, .int .i64 0, .int .i64 0], .int .i64 300]) (by simp [results, Try.results14, go_sem, d0, d1, d2, d3, d4, d5, d6, d7, d8]) rfl (GPost.mk (.slice none 0 0) (by rw [HVE.out]; rfl) (by rw [HVE.out]; exact own_nil_int _ _) HB9.out)
  · have hbb : b = false := by rw [← HB_.out, ← HBAD.out]; rfl
    rw [hbb] at HFIN
    have hvv := HFIN.out
    rw [if_pos rfl] at hvv
    clear HB_ hbb
    obtain ⟨wd, hwd⟩ : ∃ wd, wd = wc7.setCell ⟨M, 8, none⟩ (.int .i64 x8) := ⟨_, rfl⟩
    go_upto_region 25 with (fail)
    rw [← hwd] at HRR HBB
    rw [← hwd]
    clear hwd f8 c8 d0 d1 e0 e1 HG HGP
    have HVE := Lib.hid hvv
    clear hvv
    have hRlt := HRR.out.lt
    have c0 := HRR.out.cell 0
    have f0 := HRR.out.frozen 0
    have c1 := HRR.out.cell 1
    have f1 := HRR.out.frozen 1
    have c2 := HRR.out.cell 2
    have f2 := HRR.out.frozen 2
    have c3 := HRR.out.cell 3
    have f3 := HRR.out.frozen 3
    have c4 := HRR.out.cell 4
    have f4 := HRR.out.frozen 4
    have c5 := HRR.out.cell 5
    have f5 := HRR.out.frozen 5
    have c6 := HRR.out.cell 6
    have f6 := HRR.out.frozen 6
    have c7 := HRR.out.cell 7
    have f7 := HRR.out.frozen 7
    have c8 := HRR.out.cell 8
    have f8 := HRR.out.frozen 8
    simp [spC, Sp.zero] at c0 c1 c2 c3 c4 c5 c6 c7 c8
    go_wp2_with fail
    have hq := sps_put .zero (.slice none 0 0) HRR.out
    simp only [Sp.zero] at hq
    have HB9 := Lib.hid (Below.touch HBB.out hq.2 (fun i hi q => by omega) (Nat.le_refl _))
    generalize ((((((((wd.setCell ⟨R, 0, none⟩ (.int .i64 0)).setCell ⟨R, 1, none⟩ (.int .i64 0)).setCell ⟨R, 2, none⟩ (.int .i64 0)).setCell ⟨R, 3, none⟩ (.int .i64 0)).setCell ⟨R, 4, none⟩ (.int .i64 0)).setCell ⟨R, 5, none⟩ (.int .i64 0)).setCell ⟨R, 6, none⟩ (.slice none 0 0)).setCell ⟨R, 7, none⟩ (.int .i64 0)).setCell ⟨R, 8, none⟩ (.int .i64 0) = w9 at hq HB9 ⊢
    have d0 := hq.1.cell 0
    have d1 := hq.1.cell 1
    have d2 := hq.1.cell 2
    have d3 := hq.1.cell 3
    have d4 := hq.1.cell 4
    have d5 := hq.1.cell 5
    have d6 := hq.1.cell 6
    have d7 := hq.1.cell 7
    have d8 := hq.1.cell 8
    simp [spC] at d0 d1 d2 d3 d4 d5 d6 d7 d8
    exact bodyPost_ret (v := .tuple #[.agg #[.int .i64 0, .int .i64 0, .int .i64 0, .int .i64 0, .int .i64 0, .int .i64 0, .slice none 0 0, .int .i64 0, .int .i64 0], .int .i64 300]) (by simp [results, Try.results14, go_sem, d0, d1, d2, d3, d4, d5, d6, d7, d8]) rfl (GPost.mk (.slice none 0 0) (by rw [HVE.out]; rfl) (by rw [HVE.out]; exact own_nil_int _ _) HB9.out)
end Go.Proofs.Ytegfglpaabddlaa

namespace Go.Proofs.Ytegfglpaabddlaa
open Go.RowKit
set_option linter.unusedVariables false
set_option linter.unusedSimpArgs false

set_option maxRecDepth 100000 in
set_option maxHeartbeats 6400000 in
theorem getsp2_2 (s : ByteArray) (w : World) (hs : s.size ≤ 17592186044416) (x0 x1 x2 x3 : Int) (t1 t2 t3 t4 : St) (e0 : ueX (sbit s) (8 * s.size) ⟨0, false⟩ = x0) (f1 : ueS (sbit s) (8 * s.size) ⟨0, false⟩ = t1) (e1 : ueX (sbit s) (8 * s.size) t1 = x1) (f2 : ueS (sbit s) (8 * s.size) t1 = t2) (e2 : ueX (sbit s) (8 * s.size) t2 = x2) (f3 : ueS (sbit s) (8 * s.size) t2 = t3) (e3 : ueX (sbit s) (8 * s.size) t3 = x3) (f4 : ueS (sbit s) (8 * s.size) t3 = t4)
    (b0 : 0 ≤ x0 ∧ x0 ≤ 2147483646) (b1 : 0 ≤ x1 ∧ x1 ≤ 2147483646) (b2 : 0 ≤ x2 ∧ x2 ≤ 2147483646) (g1 : Good (sbit s) (8 * s.size) t1) (g2 : Good (sbit s) (8 * s.size) t2) (g3 : Good (sbit s) (8 * s.size) t3) (g4 : Good (sbit s) (8 * s.size) t4) (hx : ¬ x3 = 0 ∧ ¬ x3 = 1) (VV : Sp × Int) (hVV : VV = getSp (sbit s) (8 * s.size)) :
    Calls Try.prog 14 #[.string s] w (GPost VV w) := by
  have hF := getSp_form x0 x1 x2 x3 t1 t2 t3 t4 e0 f1 e1 f2 e2 f3 e3 f4
  have HF := Lib.hid (hF.2.2 hx.1 hx.2)
  clear hF
  have HVV := Lib.hid hVV
  have HN := Lib.hid (show 8 * s.size ≤ 1125899906842624 by omega)
  have HGD := Lib.hid (And.intro (Good.start (f := sbit s) (N := 8 * s.size)) (And.intro g1 (And.intro g2 (And.intro g3 g4))))
  have HE := Lib.hid (And.intro e0 (And.intro f1 (And.intro e1 (And.intro f2 (And.intro e2 (And.intro f3 (And.intro e3 f4)))))))
  clear hVV e0 f1 e1 f2 e2 f3 e3 f4 g1 g2 g3 g4
  have hR0 := Bk.new w 24 #[.int .i64 0, .int .i64 0, .int .i64 0, .int .i64 0, .int .i64 0, .int .i64 0, .slice none 0 0, .int .i64 0, .int .i64 0]
  have hb0 := (Below.refl w.heap.size w).alloc (Nat.le_refl _) (.cells #[.int .i64 0, .int .i64 0, .int .i64 0, .int .i64 0, .int .i64 0, .int .i64 0, .slice none 0 0, .int .i64 0, .int .i64 0] 24)
  have HR0 := Lib.hid hR0
  have HB0 := Lib.hid hb0
  clear hR0 hb0
  go_enter Try.func14, Try.ntmps14
  go_wp2_with fail
  refine (openr_any s _ hs).mono ?_
  rintro e w1 ⟨gB, cp, rfl, hg1, hg2, hcells, hb1⟩
  rw [World.size_alloc] at hg1
  have hR1 := HR0.out.go hb1
  have hB1 := HB0.out.trans (hb1.mono HB0.out.size)
  have hR2 := ((hR1.alloc (.cells #[.slice (some ⟨gB, 0, none⟩) (8 * s.size) cp, .int .i64 0] 94)).alloc (.cells #[.pointer (some ⟨w1.heap.size, 0, none⟩), .bool false] 96)).alloc (.cells #[.int .i64 0, .int .i64 0, .int .i64 0, .int .i64 0, .int .i64 0, .int .i64 0, .slice none 0 0, .int .i64 0, .int .i64 0] 24)
  have hsz1 := hB1.size
  have hB2 := ((hB1.alloc hsz1 (.cells #[.slice (some ⟨gB, 0, none⟩) (8 * s.size) cp, .int .i64 0] 94)).alloc (by simp; omega) (.cells #[.pointer (some ⟨w1.heap.size, 0, none⟩), .bool false] 96)).alloc (by simp; omega) (.cells #[.int .i64 0, .int .i64 0, .int .i64 0, .int .i64 0, .int .i64 0, .int .i64 0, .slice none 0 0, .int .i64 0, .int .i64 0] 24)
  have hgk := ((Bk.new w1 94 #[.slice (some ⟨gB, 0, none⟩) (8 * s.size) cp, .int .i64 0]).alloc (.cells #[.pointer (some ⟨w1.heap.size, 0, none⟩), .bool false] 96)).alloc (.cells #[.int .i64 0, .int .i64 0, .int .i64 0, .int .i64 0, .int .i64 0, .int .i64 0, .slice none 0 0, .int .i64 0, .int .i64 0] 24)
  have hhk := (Bk.new (w1.alloc (.cells #[.slice (some ⟨gB, 0, none⟩) (8 * s.size) cp, .int .i64 0] 94)) 96 #[.pointer (some ⟨w1.heap.size, 0, none⟩), .bool false]).alloc (.cells #[.int .i64 0, .int .i64 0, .int .i64 0, .int .i64 0, .int .i64 0, .int .i64 0, .slice none 0 0, .int .i64 0, .int .i64 0] 24)
  have hmk := Bk.new ((w1.alloc (.cells #[.slice (some ⟨gB, 0, none⟩) (8 * s.size) cp, .int .i64 0] 94)).alloc (.cells #[.pointer (some ⟨w1.heap.size, 0, none⟩), .bool false] 96)) 24 #[.int .i64 0, .int .i64 0, .int .i64 0, .int .i64 0, .int .i64 0, .int .i64 0, .slice none 0 0, .int .i64 0, .int .i64 0]
  rw [World.size_alloc] at hhk
  rw [World.size_alloc, World.size_alloc] at hmk
  have hbc : Below w1.heap.size w1 (((w1.alloc (.cells #[.slice (some ⟨gB, 0, none⟩) (8 * s.size) cp, .int .i64 0] 94)).alloc (.cells #[.pointer (some ⟨w1.heap.size, 0, none⟩), .bool false] 96)).alloc (.cells #[.int .i64 0, .int .i64 0, .int .i64 0, .int .i64 0, .int .i64 0, .int .i64 0, .slice none 0 0, .int .i64 0, .int .i64 0] 24)) := (((Below.refl _ _).alloc (Nat.le_refl _) _).alloc (by simp) _).alloc (by simp; omega) _
  have hce : ∀ k, k < 8 * s.size → World.cell? (((w1.alloc (.cells #[.slice (some ⟨gB, 0, none⟩) (8 * s.size) cp, .int .i64 0] 94)).alloc (.cells #[.pointer (some ⟨w1.heap.size, 0, none⟩), .bool false] 96)).alloc (.cells #[.int .i64 0, .int .i64 0, .int .i64 0, .int .i64 0, .int .i64 0, .int .i64 0, .slice none 0 0, .int .i64 0, .int .i64 0] 24)) ⟨gB, k, none⟩ = some (.int .u8 (bu (sbit s k))) := fun k hk => (hbc.cell (p := ⟨gB, k, none⟩) hg2).trans (hcells k hk)
  obtain ⟨g, hG⟩ : ∃ g, g = w1.heap.size := ⟨_, rfl⟩
  obtain ⟨h, hH⟩ : ∃ h, h = w1.heap.size + 1 := ⟨_, rfl⟩
  obtain ⟨M, hM⟩ : ∃ M, M = w1.heap.size + 1 + 1 := ⟨_, rfl⟩
  obtain ⟨R, hR⟩ : ∃ R, R = w.heap.size := ⟨_, rfl⟩
  have n1 : M ≠ h := by omega
  have n2 : M ≠ g := by omega
  have n3 : M ≠ gB := by omega
  have n6 : R ≠ M := by omega
  have n9 : w.heap.size ≤ M := by omega
  have n10 : gB ≠ g := by omega
  have n11 : h ≠ gB := by omega
  have n12 : w.heap.size ≤ R := by omega
  have HRn : Hid (¬ RGS h g R) := Lib.hid (fun q => by rcases q with q | q <;> omega)
  have HBn : Hid (∀ i, i < w.heap.size → ¬ RGS h g i) := Lib.hid (fun i hi q => by rcases q with q | q <;> omega)
  have HRR := Lib.hid hR2
  have HBB := Lib.hid hB2
  have HGK := Lib.hid hgk
  have HHK := Lib.hid hhk
  have HM := Lib.hid hmk
  have HCE := Lib.hid hce
  have HBC := Lib.hid hbc
  clear hg1 hcells hb1 hR1 hB1 hR2 hsz1 hB2 hgk hhk hmk hce hbc HR0 HB0
  go_wp2_with fail
  generalize (((w1.alloc (.cells #[.slice (some ⟨gB, 0, none⟩) (8 * s.size) cp, .int .i64 0] 94)).alloc (.cells #[.pointer (some ⟨w1.heap.size, 0, none⟩), .bool false] 96)).alloc (.cells #[.int .i64 0, .int .i64 0, .int .i64 0, .int .i64 0, .int .i64 0, .int .i64 0, .slice none 0 0, .int .i64 0, .int .i64 0] 24)) = wn at HRR HBB HGK HHK HM HCE HBC ⊢
  rw [← hG] at HGK HHK HM ⊢
  have hH2 : h = g + 1 := by omega
  have hM2 : M = h + 1 := by omega
  rw [← hH2] at HHK HM ⊢
  rw [← hM2] at HM ⊢
  rw [← hR] at HRR ⊢
  clear hH2 hM2
  have HG : Hid (GD wn h g gB M (R + 1) (8 * s.size) (sbit s) ⟨0, false⟩ .zero (.slice none 0 0)) := Lib.hid ⟨⟨HHK.out, ⟨⟨cp, HGK.out⟩, n10, by have := HBC.out.size; omega, HCE.out⟩, n11⟩, HM.out, own_nil_int _ _, n1, n2, n3, fun k q => by simp [Value.ownBlock] at q⟩
  have HRR : Hid (Bk wn R 24 (spC .zero (.slice none 0 0))) := HRR
  have HEQ := Lib.hid (And.intro hG (And.intro hH (And.intro hM hR)))
  have HNM := Lib.hid n6
  clear hG hH hM hR hg2 HGK HHK HCE HBC HM
  have hne0 : (x3 == 0) = false := by simp; exact hx.1
  have hne1 : (x3 == 1) = false := by simp; exact hx.2
  clear hx
  refine (dg_ueE HG.out.rg HN.out HGD.out.1 HE.out.1 HE.out.2.1).mono ?_
  rintro e wc1 ⟨rfl, q, tq⟩
  replace HG := Lib.hid (HG.out.call q tq)
  replace HRR := Lib.hid (HRR.out.touch tq HRn.out)
  replace HBB := Lib.hid (Below.touch HBB.out tq HBn.out (Nat.le_refl _))
  clear q tq
  have f0 := HG.out.bk.frozen 0
  have c0 := HG.out.bk.cell 0
  simp [spC, Sp.zero] at c0
  replace HG := Lib.hid (HG.out.put (i := 0) (u := .int .i64 (x0 + 1)) (p' := ⟨x0 + 1, 0, 0, 0, 0, 0, [], 0, 0⟩) (by simp [spC, Sp.zero]) rfl)
  replace HRR := Lib.hid (HRR.out.far (p := ⟨M, 0, none⟩) HNM.out (.int .i64 (x0 + 1)))
  replace HBB := Lib.hid (HBB.out.setCell (p := ⟨M, 0, none⟩) n9 (.int .i64 (x0 + 1)))
  go_wp2_with fail
  clear f0 c0
  refine (dg_ueE HG.out.rg HN.out HGD.out.2.1 HE.out.2.2.1 HE.out.2.2.2.1).mono ?_
  rintro e wc2 ⟨rfl, q, tq⟩
  replace HG := Lib.hid (HG.out.call q tq)
  replace HRR := Lib.hid (HRR.out.touch tq HRn.out)
  replace HBB := Lib.hid (Below.touch HBB.out tq HBn.out (Nat.le_refl _))
  clear q tq
  have f1 := HG.out.bk.frozen 1
  have c1 := HG.out.bk.cell 1
  simp [spC, Sp.zero] at c1
  replace HG := Lib.hid (HG.out.put (i := 1) (u := .int .i64 (x1 + 1)) (p' := ⟨x0 + 1, x1 + 1, 0, 0, 0, 0, [], 0, 0⟩) (by simp [spC, Sp.zero]) rfl)
  replace HRR := Lib.hid (HRR.out.far (p := ⟨M, 1, none⟩) HNM.out (.int .i64 (x1 + 1)))
  replace HBB := Lib.hid (HBB.out.setCell (p := ⟨M, 1, none⟩) n9 (.int .i64 (x1 + 1)))
  go_wp2_with fail
  clear f1 c1
  refine (dg_ueE HG.out.rg HN.out HGD.out.2.2.1 HE.out.2.2.2.2.1 HE.out.2.2.2.2.2.1).mono ?_
  rintro e wc3 ⟨rfl, q, tq⟩
  replace HG := Lib.hid (HG.out.call q tq)
  replace HRR := Lib.hid (HRR.out.touch tq HRn.out)
  replace HBB := Lib.hid (Below.touch HBB.out tq HBn.out (Nat.le_refl _))
  clear q tq
  have f2 := HG.out.bk.frozen 2
  have c2 := HG.out.bk.cell 2
  simp [spC, Sp.zero] at c2
  replace HG := Lib.hid (HG.out.put (i := 2) (u := .int .i64 (x2 + 4)) (p' := ⟨x0 + 1, x1 + 1, x2 + 4, 0, 0, 0, [], 0, 0⟩) (by simp [spC, Sp.zero]) rfl)
  replace HRR := Lib.hid (HRR.out.far (p := ⟨M, 2, none⟩) HNM.out (.int .i64 (x2 + 4)))
  replace HBB := Lib.hid (HBB.out.setCell (p := ⟨M, 2, none⟩) n9 (.int .i64 (x2 + 4)))
  go_wp2_with fail
  clear f2 c2
  refine (dg_ueE HG.out.rg HN.out HGD.out.2.2.2.1 HE.out.2.2.2.2.2.2.1 HE.out.2.2.2.2.2.2.2).mono ?_
  rintro e wc4 ⟨rfl, q, tq⟩
  replace HG := Lib.hid (HG.out.call q tq)
  replace HRR := Lib.hid (HRR.out.touch tq HRn.out)
  replace HBB := Lib.hid (Below.touch HBB.out tq HBn.out (Nat.le_refl _))
  clear q tq
  have f3 := HG.out.bk.frozen 3
  have c3 := HG.out.bk.cell 3
  have f4 := HG.out.bk.frozen 4
  have c4 := HG.out.bk.cell 4
  simp [spC, Sp.zero] at c3 c4
  replace HG := Lib.hid (HG.out.put (i := 3) (u := .int .i64 (x3)) (p' := ⟨x0 + 1, x1 + 1, x2 + 4, x3, 0, 0, [], 0, 0⟩) (by simp [spC, Sp.zero]) rfl)
  replace HRR := Lib.hid (HRR.out.far (p := ⟨M, 3, none⟩) HNM.out (.int .i64 (x3)))
  replace HBB := Lib.hid (HBB.out.setCell (p := ⟨M, 3, none⟩) n9 (.int .i64 (x3)))
  replace HG := Lib.hid (HG.out.put (i := 4) (u := .int .i64 (4)) (p' := ⟨x0 + 1, x1 + 1, x2 + 4, x3, 4, 0, [], 0, 0⟩) (by simp [spC, Sp.zero]) rfl)
  replace HRR := Lib.hid (HRR.out.far (p := ⟨M, 4, none⟩) HNM.out (.int .i64 (4)))
  replace HBB := Lib.hid (HBB.out.setCell (p := ⟨M, 4, none⟩) n9 (.int .i64 (4)))
  go_wp2_with fail
  clear f3 c3 f4 c4
  have HFIN := Lib.hid (HVV.out.trans HF.out)
  obtain ⟨x7, T1, hx_, ht_, b_x7, g_T1⟩ := HGD.out.2.2.2.2.next
  refine (dg_ueE HG.out.rg HN.out HGD.out.2.2.2.2 hx_ ht_).mono ?_
  rintro e wc5 ⟨rfl, q, tq⟩
  replace HG := Lib.hid (HG.out.call q tq)
  replace HRR := Lib.hid (HRR.out.touch tq HRn.out)
  replace HBB := Lib.hid (Below.touch HBB.out tq HBn.out (Nat.le_refl _))
  clear q tq
  have HX7 := Lib.hid (And.intro hx_ ht_)
  have HGT := Lib.hid g_T1
  clear hx_ ht_ g_T1
  have f7 := HG.out.bk.frozen 7
  have c7 := HG.out.bk.cell 7
  simp [spC, Sp.zero] at c7
  replace HG := Lib.hid (HG.out.put (i := 7) (u := .int .i64 (x7)) (p' := ⟨x0 + 1, x1 + 1, x2 + 4, x3, 4, 0, [], x7, 0⟩) (by simp [spC, Sp.zero]) rfl)
  replace HRR := Lib.hid (HRR.out.far (p := ⟨M, 7, none⟩) HNM.out (.int .i64 (x7)))
  replace HBB := Lib.hid (HBB.out.setCell (p := ⟨M, 7, none⟩) n9 (.int .i64 (x7)))
  go_wp2_with fail
  clear f7 c7
  obtain ⟨x8, T2, hx_, ht_, b_x8, g_T2⟩ := HGT.out.next
  refine (dg_ueE HG.out.rg HN.out HGT.out hx_ ht_).mono ?_
  rintro e wc6 ⟨rfl, q, tq⟩
  replace HG := Lib.hid (HG.out.call q tq)
  replace HRR := Lib.hid (HRR.out.touch tq HRn.out)
  replace HBB := Lib.hid (Below.touch HBB.out tq HBn.out (Nat.le_refl _))
  clear q tq
  obtain ⟨b, hb⟩ : ∃ b, (!T2.bad && ((trailR (sbit s) (8 * s.size) T2.a).1 : Int) == 0) = b := ⟨_, rfl⟩
  have hfin := finSp_form (p := ⟨x0 + 1, x1 + 1, x2 + 4, x3, 4, 0, [], 0, 0⟩) HX7.out.1 HX7.out.2 hx_ ht_ hb
  rw [← HFIN.out] at hfin
  replace HFIN := Lib.hid hfin
  have HB_ := Lib.hid hb
  have HG2_ := Lib.hid g_T2
  clear hx_ ht_ hfin hb g_T2 HX7 HGT
  have HGP := HG
  have f8 := HG.out.bk.frozen 8
  have c8 := HG.out.bk.cell 8
  simp [spC, Sp.zero] at c8
  replace HG := Lib.hid (HG.out.put (i := 8) (u := .int .i64 (x8)) (p' := ⟨x0 + 1, x1 + 1, x2 + 4, x3, 4, 0, [], x7, x8⟩) (by simp [spC, Sp.zero]) rfl)
  replace HRR := Lib.hid (HRR.out.far (p := ⟨M, 8, none⟩) HNM.out (.int .i64 (x8)))
  replace HBB := Lib.hid (HBB.out.setCell (p := ⟨M, 8, none⟩) n9 (.int .i64 (x8)))
  obtain ⟨bad, hbad⟩ : ∃ bad, bad = T2.bad := ⟨_, rfl⟩
  have d0 := HG.out.rg.1.cell 0
  have d1 := HG.out.rg.1.cell 1
  simp at d0 d1
  rw [← hbad] at d1
  have e0 := HGP.out.rg.1.cell 0
  have e1 := HGP.out.rg.1.cell 1
  simp at e0 e1
  rw [← hbad] at e1
  have HBAD := Lib.hid hbad
  clear hbad
  cases bad
  · go_wp2_with fail
    clear f8 c8 d0 d1 e0 e1
    refine (trailr_any g gB (8 * s.size) (sbit s) T2.a _ HG.out.rg.2.1 HN.out HG2_.out.1).mono ?_
    rintro e wd ⟨rfl, hq⟩
    have tq := (HG.out.rg.rd hq).2
    have HA := Lib.hid (HG.out.after tq)
    replace HRR := Lib.hid (HRR.out.touch tq HRn.out)
    replace HBB := Lib.hid (Below.touch HBB.out tq HBn.out (Nat.le_refl _))
    clear tq hq HG HGP
    obtain ⟨bt, hbt⟩ : ∃ bt, (((trailR (sbit s) (8 * s.size) T2.a).1 : Int) != 0) = bt := ⟨_, rfl⟩
    have hbb : b = !bt := by rw [← HB_.out, ← HBAD.out, ← hbt]; simp [bne]
    rw [hbb] at HFIN
    have hRlt := HRR.out.lt
    clear HB_ hbb
    cases bt
    · have hvv := HFIN.out
      rw [if_neg (by simp)] at hvv
      have HVV2 := Lib.hid hvv
      clear hvv
      have m0 := HA.out.1.cell 0
      have m1 := HA.out.1.cell 1
      have m2 := HA.out.1.cell 2
      have m3 := HA.out.1.cell 3
      have m4 := HA.out.1.cell 4
      have m5 := HA.out.1.cell 5
      have m6 := HA.out.1.cell 6
      have m7 := HA.out.1.cell 7
      have m8 := HA.out.1.cell 8
      simp [spC] at m0 m1 m2 m3 m4 m5 m6 m7 m8
      go_wp2_with fail
      clear hbt
      refine (maysp2_any ⟨x0 + 1, x1 + 1, x2 + 4, x3, 4, 0, [], x7, x8⟩ none 0 _ (show SpAt _ _ ⟨x0 + 1, x1 + 1, x2 + 4, x3, 4, 0, [], x7, x8⟩ none from SpAt.of_own HA.out.2) (by show 0 ≤ _; omega)).mono ?_
      rintro e we ⟨rfl, hb5⟩
      replace HA := Lib.hid (And.intro (HA.out.1.go hb5) (own_go HA.out.2 hb5))
      replace HRR := Lib.hid (HRR.out.go hb5)
      replace HBB := Lib.hid (HBB.out.trans (hb5.mono HBB.out.size))
      clear hb5 m0 m1 m2 m3 m4 m5 m6 m7 m8 hRlt
      have hRlt := HRR.out.lt
      have m0 := HA.out.1.cell 0
      have m1 := HA.out.1.cell 1
      have m2 := HA.out.1.cell 2
      have m3 := HA.out.1.cell 3
      have m4 := HA.out.1.cell 4
      have m5 := HA.out.1.cell 5
      have m6 := HA.out.1.cell 6
      have m7 := HA.out.1.cell 7
      have m8 := HA.out.1.cell 8
      simp [spC] at m0 m1 m2 m3 m4 m5 m6 m7 m8
      cases hmy : maySp ⟨x0 + 1, x1 + 1, x2 + 4, x3, 4, 0, [], x7, x8⟩
      · have hvv := HVV2.out
        rw [hmy, if_neg (by simp)] at hvv
        clear hmy
        have HVE := Lib.hid hvv
        clear hvv
        have hRlt := HRR.out.lt
        have c0 := HRR.out.cell 0
        have f0 := HRR.out.frozen 0
        have c1 := HRR.out.cell 1
        have f1 := HRR.out.frozen 1
        have c2 := HRR.out.cell 2
        have f2 := HRR.out.frozen 2
        have c3 := HRR.out.cell 3
        have f3 := HRR.out.frozen 3
        have c4 := HRR.out.cell 4
        have f4 := HRR.out.frozen 4
        have c5 := HRR.out.cell 5
        have f5 := HRR.out.frozen 5
        have c6 := HRR.out.cell 6
        have f6 := HRR.out.frozen 6
        have c7 := HRR.out.cell 7
        have f7 := HRR.out.frozen 7
        have c8 := HRR.out.cell 8
        have f8 := HRR.out.frozen 8
        simp [spC, Sp.zero] at c0 c1 c2 c3 c4 c5 c6 c7 c8
        go_wp2_with fail
        have hq := sps_put .zero (.slice none 0 0) HRR.out
        simp only [Sp.zero] at hq
        have HB9 := Lib.hid (Below.touch HBB.out hq.2 (fun i hi q => by omega) (Nat.le_refl _))
        generalize ((((((((we.setCell ⟨R, 0, none⟩ (.int .i64 0)).setCell ⟨R, 1, none⟩ (.int .i64 0)).setCell ⟨R, 2, none⟩ (.int .i64 0)).setCell ⟨R, 3, none⟩ (.int .i64 0)).setCell ⟨R, 4, none⟩ (.int .i64 0)).setCell ⟨R, 5, none⟩ (.int .i64 0)).setCell ⟨R, 6, none⟩ (.slice none 0 0)).setCell ⟨R, 7, none⟩ (.int .i64 0)).setCell ⟨R, 8, none⟩ (.int .i64 0) = w9 at hq HB9 ⊢
        have d0 := hq.1.cell 0
        have d1 := hq.1.cell 1
        have d2 := hq.1.cell 2
        have d3 := hq.1.cell 3
        have d4 := hq.1.cell 4
        have d5 := hq.1.cell 5
        have d6 := hq.1.cell 6
        have d7 := hq.1.cell 7
        have d8 := hq.1.cell 8
        simp [spC] at d0 d1 d2 d3 d4 d5 d6 d7 d8
        exact bodyPost_ret (v := .tuple #[.agg #[.int .i64 0, .int .i64 0, .int .i64 0, .int .i64 0, .int .i64 0, .int .i64 0, .slice none 0 0, .int .i64 0, .int .i64 0], .int .i64 301]) (by simp [results, Try.results14, go_sem, d0, d1, d2, d3, d4, d5, d6, d7, d8]) rfl (GPost.mk (.slice none 0 0) (by rw [HVE.out]; rfl) (by rw [HVE.out]; exact own_nil_int _ _) HB9.out)
      · have hvv := HVV2.out
        rw [hmy, if_pos rfl] at hvv
        have HVE := Lib.hid hvv
        clear hvv hmy
        have c0 := HRR.out.cell 0
        have f0 := HRR.out.frozen 0
        have c1 := HRR.out.cell 1
        have f1 := HRR.out.frozen 1
        have c2 := HRR.out.cell 2
        have f2 := HRR.out.frozen 2
        have c3 := HRR.out.cell 3
        have f3 := HRR.out.frozen 3
        have c4 := HRR.out.cell 4
        have f4 := HRR.out.frozen 4
        have c5 := HRR.out.cell 5
        have f5 := HRR.out.frozen 5
        have c6 := HRR.out.cell 6
        have f6 := HRR.out.frozen 6
        have c7 := HRR.out.cell 7
        have f7 := HRR.out.frozen 7
        have c8 := HRR.out.cell 8
        have f8 := HRR.out.frozen 8
        simp [spC, Sp.zero] at c0 c1 c2 c3 c4 c5 c6 c7 c8
        go_wp2_with fail
        have hq := sps_put ⟨x0 + 1, x1 + 1, x2 + 4, x3, 4, 0, [], x7, x8⟩ (.slice none 0 0) HRR.out
        simp only at hq
        have HOWN := Lib.hid (own_touch HA.out.2 hq.2 (fun k hk q => by have := (HA.out.2.lt k hk).1; omega))
        have HB9 := Lib.hid (Below.touch HBB.out hq.2 (fun i hi q => by omega) (Nat.le_refl _))
        generalize ((((((((we.setCell ⟨R, 0, none⟩ (.int .i64 (x0 + 1))).setCell ⟨R, 1, none⟩ (.int .i64 (x1 + 1))).setCell ⟨R, 2, none⟩ (.int .i64 (x2 + 4))).setCell ⟨R, 3, none⟩ (.int .i64 x3)).setCell ⟨R, 4, none⟩ (.int .i64 (4))).setCell ⟨R, 5, none⟩ (.int .i64 0)).setCell ⟨R, 6, none⟩ (.slice none 0 0)).setCell ⟨R, 7, none⟩ (.int .i64 x7)).setCell ⟨R, 8, none⟩ (.int .i64 x8) = w9 at hq HOWN HB9 ⊢
        have d0 := hq.1.cell 0
        have d1 := hq.1.cell 1
        have d2 := hq.1.cell 2
        have d3 := hq.1.cell 3
        have d4 := hq.1.cell 4
        have d5 := hq.1.cell 5
        have d6 := hq.1.cell 6
        have d7 := hq.1.cell 7
        have d8 := hq.1.cell 8
        simp [spC] at d0 d1 d2 d3 d4 d5 d6 d7 d8
        exact bodyPost_ret (v := .tuple #[.agg #[.int .i64 (x0 + 1), .int .i64 (x1 + 1), .int .i64 (x2 + 4), .int .i64 x3, .int .i64 (4), .int .i64 0, .slice none 0 0, .int .i64 x7, .int .i64 x8], .int .i64 0]) (by simp [results, Try.results14, go_sem, d0, d1, d2, d3, d4, d5, d6, d7, d8]) rfl (GPost.mk (.slice none 0 0) (by rw [HVE.out]; rfl) (by rw [HVE.out]; exact own_less HOWN.out (by omega)) HB9.out)
    · have hvv := HFIN.out
      rw [if_pos (by simp)] at hvv
      have HVE := Lib.hid hvv
      clear hvv
      have hRlt := HRR.out.lt
      have c0 := HRR.out.cell 0
      have f0 := HRR.out.frozen 0
      have c1 := HRR.out.cell 1
      have f1 := HRR.out.frozen 1
      have c2 := HRR.out.cell 2
      have f2 := HRR.out.frozen 2
      have c3 := HRR.out.cell 3
      have f3 := HRR.out.frozen 3
      have c4 := HRR.out.cell 4
      have f4 := HRR.out.frozen 4
      have c5 := HRR.out.cell 5
      have f5 := HRR.out.frozen 5
      have c6 := HRR.out.cell 6
      have f6 := HRR.out.frozen 6
      have c7 := HRR.out.cell 7
      have f7 := HRR.out.frozen 7
      have c8 := HRR.out.cell 8
      have f8 := HRR.out.frozen 8
      simp [spC, Sp.zero] at c0 c1 c2 c3 c4 c5 c6 c7 c8
      go_wp2_with fail
      have hq := sps_put .zero (.slice none 0 0) HRR.out
      simp only [Sp.zero] at hq
      have HB9 := Lib.hid (Below.touch HBB.out hq.2 (fun i hi q => by omega) (Nat.le_refl _))
      generalize ((((((((wd.setCell ⟨R, 0, none⟩ (.int .i64 0)).setCell ⟨R, 1, none⟩ (.int .i64 0)).setCell ⟨R, 2, none⟩ (.int .i64 0)).setCell ⟨R, 3, none⟩ (.int .i64 0)).setCell ⟨R, 4, none⟩ (.int .i64 0)).setCell ⟨R, 5, none⟩ (.int .i64 0)).setCell ⟨R, 6, none⟩ (.slice none 0 0)).setCell ⟨R, 7, none⟩ (.int .i64 0)).setCell ⟨R, 8, none⟩ (.int .i64 0) = w9 at hq HB9 ⊢
      have d0 := hq.1.cell 0
      have d1 := hq.1.cell 1
      have d2 := hq.1.cell 2
      have d3 := hq.1.cell 3
      have d4 := hq.1.cell 4
      have d5 := hq.1.cell 5
      have d6 := hq.1.cell 6
      have d7 := hq.1.cell 7
      have d8 := hq.1.cell 8
      simp [spC] at d0 d1 d2 d3 d4 d5 d6 d7 d8
      exact bodyPost_ret (v := .tuple #[.agg #[.int .i64 0, .int .i64 0, .int .i64 0, .int .i64 0, .int .i64 0, .int .i64 0, .slice none 0 0, .int .i64 0, .int .i64 0], .int .i64 300]) (by simp [results, Try.results14, go_sem, d0, d1, d2, d3, d4, d5, d6, d7, d8]) rfl (GPost.mk (.slice none 0 0) (by rw [HVE.out]; rfl) (by rw [HVE.out]; exact own_nil_int _ _) HB9.out)
  · have hbb : b = false := by rw [← HB_.out, ← HBAD.out]; rfl
    rw [hbb] at HFIN
    have hvv := HFIN.out
    rw [if_pos rfl] at hvv
    clear HB_ hbb
    obtain ⟨wd, hwd⟩ : ∃ wd, wd = wc6.setCell ⟨M, 8, none⟩ (.int .i64 x8) := ⟨_, rfl⟩
    go_upto_region 25 with (fail)
    rw [← hwd] at HRR HBB
    rw [← hwd]
    clear hwd f8 c8 d0 d1 e0 e1 HG HGP
    have HVE := Lib.hid hvv
    clear hvv
    have hRlt := HRR.out.lt
    have c0 := HRR.out.cell 0
    have f0 := HRR.out.frozen 0
    have c1 := HRR.out.cell 1
    have f1 := HRR.out.frozen 1
    have c2 := HRR.out.cell 2
    have f2 := HRR.out.frozen 2
    have c3 := HRR.out.cell 3
    have f3 := HRR.out.frozen 3
    have c4 := HRR.out.cell 4
    have f4 := HRR.out.frozen 4
    have c5 := HRR.out.cell 5
    have f5 := HRR.out.frozen 5
    have c6 := HRR.out.cell 6
    have f6 := HRR.out.frozen 6
    have c7 := HRR.out.cell 7
    have f7 := HRR.out.frozen 7
    have c8 := HRR.out.cell 8
    have f8 := HRR.out.frozen 8
    simp [spC, Sp.zero] at c0 c1 c2 c3 c4 c5 c6 c7 c8
    go_wp2_with fail
    have hq := sps_put .zero (.slice none 0 0) HRR.out
    simp only [Sp.zero] at hq
    have HB9 := Lib.hid (Below.touch HBB.out hq.2 (fun i hi q => by omega) (Nat.le_refl _))
    generalize ((((((((wd.setCell ⟨R, 0, none⟩ (.int .i64 0)).setCell ⟨R, 1, none⟩ (.int .i64 0)).setCell ⟨R, 2, none⟩ (.int .i64 0)).setCell ⟨R, 3, none⟩ (.int .i64 0)).setCell ⟨R, 4, none⟩ (.int .i64 0)).setCell ⟨R, 5, none⟩ (.int .i64 0)).setCell ⟨R, 6, none⟩ (.slice none 0 0)).setCell ⟨R, 7, none⟩ (.int .i64 0)).setCell ⟨R, 8, none⟩ (.int .i64 0) = w9 at hq HB9 ⊢
    have d0 := hq.1.cell 0
    have d1 := hq.1.cell 1
    have d2 := hq.1.cell 2
    have d3 := hq.1.cell 3
    have d4 := hq.1.cell 4
    have d5 := hq.1.cell 5
    have d6 := hq.1.cell 6
    have d7 := hq.1.cell 7
    have d8 := hq.1.cell 8
    simp [spC] at d0 d1 d2 d3 d4 d5 d6 d7 d8
    exact bodyPost_ret (v := .tuple #[.agg #[.int .i64 0, .int .i64 0, .int .i64 0, .int .i64 0, .int .i64 0, .int .i64 0, .slice none 0 0, .int .i64 0, .int .i64 0], .int .i64 300]) (by simp [results, Try.results14, go_sem, d0, d1, d2, d3, d4, d5, d6, d7, d8]) rfl (GPost.mk (.slice none 0 0) (by rw [HVE.out]; rfl) (by rw [HVE.out]; exact own_nil_int _ _) HB9.out)
end Go.Proofs.Ytegfglpaabddlaa

namespace Go.Proofs.Ytegfglpaabddlaa
open Go.RowKit
set_option linter.unusedVariables false
set_option linter.unusedSimpArgs false

set_option maxRecDepth 100000 in
set_option maxHeartbeats 6400000 in
theorem getsp2_1 (s : ByteArray) (w : World) (hs : s.size ≤ 17592186044416) (x0 x1 x2 x3 : Int) (t1 t2 t3 t4 : St) (e0 : ueX (sbit s) (8 * s.size) ⟨0, false⟩ = x0) (f1 : ueS (sbit s) (8 * s.size) ⟨0, false⟩ = t1) (e1 : ueX (sbit s) (8 * s.size) t1 = x1) (f2 : ueS (sbit s) (8 * s.size) t1 = t2) (e2 : ueX (sbit s) (8 * s.size) t2 = x2) (f3 : ueS (sbit s) (8 * s.size) t2 = t3) (e3 : ueX (sbit s) (8 * s.size) t3 = x3) (f4 : ueS (sbit s) (8 * s.size) t3 = t4)
    (b0 : 0 ≤ x0 ∧ x0 ≤ 2147483646) (b1 : 0 ≤ x1 ∧ x1 ≤ 2147483646) (b2 : 0 ≤ x2 ∧ x2 ≤ 2147483646) (g1 : Good (sbit s) (8 * s.size) t1) (g2 : Good (sbit s) (8 * s.size) t2) (g3 : Good (sbit s) (8 * s.size) t3) (g4 : Good (sbit s) (8 * s.size) t4) (hx : x3 = 1) (VV : Sp × Int) (hVV : VV = getSp (sbit s) (8 * s.size)) :
    Calls Try.prog 14 #[.string s] w (GPost VV w) := by
  have hF := getSp_form x0 x1 x2 x3 t1 t2 t3 t4 e0 f1 e1 f2 e2 f3 e3 f4
  have HF := Lib.hid (fun x4 t5 n t6 => hF.2.1 x4 t5 n t6 hx)
  clear hF
  have HVV := Lib.hid hVV
  have HN := Lib.hid (show 8 * s.size ≤ 1125899906842624 by omega)
  have HGD := Lib.hid (And.intro (Good.start (f := sbit s) (N := 8 * s.size)) (And.intro g1 (And.intro g2 (And.intro g3 g4))))
  have HE := Lib.hid (And.intro e0 (And.intro f1 (And.intro e1 (And.intro f2 (And.intro e2 (And.intro f3 (And.intro e3 f4)))))))
  clear hVV e0 f1 e1 f2 e2 f3 e3 f4 g1 g2 g3 g4
  have hR0 := Bk.new w 24 #[.int .i64 0, .int .i64 0, .int .i64 0, .int .i64 0, .int .i64 0, .int .i64 0, .slice none 0 0, .int .i64 0, .int .i64 0]
  have hb0 := (Below.refl w.heap.size w).alloc (Nat.le_refl _) (.cells #[.int .i64 0, .int .i64 0, .int .i64 0, .int .i64 0, .int .i64 0, .int .i64 0, .slice none 0 0, .int .i64 0, .int .i64 0] 24)
  have HR0 := Lib.hid hR0
  have HB0 := Lib.hid hb0
  clear hR0 hb0
  go_enter Try.func14, Try.ntmps14
  go_wp2_with fail
  refine (openr_any s _ hs).mono ?_
  rintro e w1 ⟨gB, cp, rfl, hg1, hg2, hcells, hb1⟩
  rw [World.size_alloc] at hg1
  have hR1 := HR0.out.go hb1
  have hB1 := HB0.out.trans (hb1.mono HB0.out.size)
  have hR2 := ((hR1.alloc (.cells #[.slice (some ⟨gB, 0, none⟩) (8 * s.size) cp, .int .i64 0] 94)).alloc (.cells #[.pointer (some ⟨w1.heap.size, 0, none⟩), .bool false] 96)).alloc (.cells #[.int .i64 0, .int .i64 0, .int .i64 0, .int .i64 0, .int .i64 0, .int .i64 0, .slice none 0 0, .int .i64 0, .int .i64 0] 24)
  have hsz1 := hB1.size
  have hB2 := ((hB1.alloc hsz1 (.cells #[.slice (some ⟨gB, 0, none⟩) (8 * s.size) cp, .int .i64 0] 94)).alloc (by simp; omega) (.cells #[.pointer (some ⟨w1.heap.size, 0, none⟩), .bool false] 96)).alloc (by simp; omega) (.cells #[.int .i64 0, .int .i64 0, .int .i64 0, .int .i64 0, .int .i64 0, .int .i64 0, .slice none 0 0, .int .i64 0, .int .i64 0] 24)
  have hgk := ((Bk.new w1 94 #[.slice (some ⟨gB, 0, none⟩) (8 * s.size) cp, .int .i64 0]).alloc (.cells #[.pointer (some ⟨w1.heap.size, 0, none⟩), .bool false] 96)).alloc (.cells #[.int .i64 0, .int .i64 0, .int .i64 0, .int .i64 0, .int .i64 0, .int .i64 0, .slice none 0 0, .int .i64 0, .int .i64 0] 24)
  have hhk := (Bk.new (w1.alloc (.cells #[.slice (some ⟨gB, 0, none⟩) (8 * s.size) cp, .int .i64 0] 94)) 96 #[.pointer (some ⟨w1.heap.size, 0, none⟩), .bool false]).alloc (.cells #[.int .i64 0, .int .i64 0, .int .i64 0, .int .i64 0, .int .i64 0, .int .i64 0, .slice none 0 0, .int .i64 0, .int .i64 0] 24)
  have hmk := Bk.new ((w1.alloc (.cells #[.slice (some ⟨gB, 0, none⟩) (8 * s.size) cp, .int .i64 0] 94)).alloc (.cells #[.pointer (some ⟨w1.heap.size, 0, none⟩), .bool false] 96)) 24 #[.int .i64 0, .int .i64 0, .int .i64 0, .int .i64 0, .int .i64 0, .int .i64 0, .slice none 0 0, .int .i64 0, .int .i64 0]
  rw [World.size_alloc] at hhk
  rw [World.size_alloc, World.size_alloc] at hmk
  have hbc : Below w1.heap.size w1 (((w1.alloc (.cells #[.slice (some ⟨gB, 0, none⟩) (8 * s.size) cp, .int .i64 0] 94)).alloc (.cells #[.pointer (some ⟨w1.heap.size, 0, none⟩), .bool false] 96)).alloc (.cells #[.int .i64 0, .int .i64 0, .int .i64 0, .int .i64 0, .int .i64 0, .int .i64 0, .slice none 0 0, .int .i64 0, .int .i64 0] 24)) := (((Below.refl _ _).alloc (Nat.le_refl _) _).alloc (by simp) _).alloc (by simp; omega) _
  have hce : ∀ k, k < 8 * s.size → World.cell? (((w1.alloc (.cells #[.slice (some ⟨gB, 0, none⟩) (8 * s.size) cp, .int .i64 0] 94)).alloc (.cells #[.pointer (some ⟨w1.heap.size, 0, none⟩), .bool false] 96)).alloc (.cells #[.int .i64 0, .int .i64 0, .int .i64 0, .int .i64 0, .int .i64 0, .int .i64 0, .slice none 0 0, .int .i64 0, .int .i64 0] 24)) ⟨gB, k, none⟩ = some (.int .u8 (bu (sbit s k))) := fun k hk => (hbc.cell (p := ⟨gB, k, none⟩) hg2).trans (hcells k hk)
  obtain ⟨g, hG⟩ : ∃ g, g = w1.heap.size := ⟨_, rfl⟩
  obtain ⟨h, hH⟩ : ∃ h, h = w1.heap.size + 1 := ⟨_, rfl⟩
  obtain ⟨M, hM⟩ : ∃ M, M = w1.heap.size + 1 + 1 := ⟨_, rfl⟩
  obtain ⟨R, hR⟩ : ∃ R, R = w.heap.size := ⟨_, rfl⟩
  have n1 : M ≠ h := by omega
  have n2 : M ≠ g := by omega
  have n3 : M ≠ gB := by omega
  have n6 : R ≠ M := by omega
  have n9 : w.heap.size ≤ M := by omega
  have n10 : gB ≠ g := by omega
  have n11 : h ≠ gB := by omega
  have n12 : w.heap.size ≤ R := by omega
  have HRn : Hid (¬ RGS h g R) := Lib.hid (fun q => by rcases q with q | q <;> omega)
  have HBn : Hid (∀ i, i < w.heap.size → ¬ RGS h g i) := Lib.hid (fun i hi q => by rcases q with q | q <;> omega)
  have HRR := Lib.hid hR2
  have HBB := Lib.hid hB2
  have HGK := Lib.hid hgk
  have HHK := Lib.hid hhk
  have HM := Lib.hid hmk
  have HCE := Lib.hid hce
  have HBC := Lib.hid hbc
  clear hg1 hcells hb1 hR1 hB1 hR2 hsz1 hB2 hgk hhk hmk hce hbc HR0 HB0
  go_wp2_with fail
  generalize (((w1.alloc (.cells #[.slice (some ⟨gB, 0, none⟩) (8 * s.size) cp, .int .i64 0] 94)).alloc (.cells #[.pointer (some ⟨w1.heap.size, 0, none⟩), .bool false] 96)).alloc (.cells #[.int .i64 0, .int .i64 0, .int .i64 0, .int .i64 0, .int .i64 0, .int .i64 0, .slice none 0 0, .int .i64 0, .int .i64 0] 24)) = wn at HRR HBB HGK HHK HM HCE HBC ⊢
  rw [← hG] at HGK HHK HM ⊢
  have hH2 : h = g + 1 := by omega
  have hM2 : M = h + 1 := by omega
  rw [← hH2] at HHK HM ⊢
  rw [← hM2] at HM ⊢
  rw [← hR] at HRR ⊢
  clear hH2 hM2
  have HG : Hid (GD wn h g gB M (R + 1) (8 * s.size) (sbit s) ⟨0, false⟩ .zero (.slice none 0 0)) := Lib.hid ⟨⟨HHK.out, ⟨⟨cp, HGK.out⟩, n10, by have := HBC.out.size; omega, HCE.out⟩, n11⟩, HM.out, own_nil_int _ _, n1, n2, n3, fun k q => by simp [Value.ownBlock] at q⟩
  have HRR : Hid (Bk wn R 24 (spC .zero (.slice none 0 0))) := HRR
  have HEQ := Lib.hid (And.intro hG (And.intro hH (And.intro hM hR)))
  have HNM := Lib.hid n6
  clear hG hH hM hR hg2 HGK HHK HCE HBC HM
  subst hx
  refine (dg_ueE HG.out.rg HN.out HGD.out.1 HE.out.1 HE.out.2.1).mono ?_
  rintro e wc1 ⟨rfl, q, tq⟩
  replace HG := Lib.hid (HG.out.call q tq)
  replace HRR := Lib.hid (HRR.out.touch tq HRn.out)
  replace HBB := Lib.hid (Below.touch HBB.out tq HBn.out (Nat.le_refl _))
  clear q tq
  have f0 := HG.out.bk.frozen 0
  have c0 := HG.out.bk.cell 0
  simp [spC, Sp.zero] at c0
  replace HG := Lib.hid (HG.out.put (i := 0) (u := .int .i64 (x0 + 1)) (p' := ⟨x0 + 1, 0, 0, 0, 0, 0, [], 0, 0⟩) (by simp [spC, Sp.zero]) rfl)
  replace HRR := Lib.hid (HRR.out.far (p := ⟨M, 0, none⟩) HNM.out (.int .i64 (x0 + 1)))
  replace HBB := Lib.hid (HBB.out.setCell (p := ⟨M, 0, none⟩) n9 (.int .i64 (x0 + 1)))
  go_wp2_with fail
  clear f0 c0
  refine (dg_ueE HG.out.rg HN.out HGD.out.2.1 HE.out.2.2.1 HE.out.2.2.2.1).mono ?_
  rintro e wc2 ⟨rfl, q, tq⟩
  replace HG := Lib.hid (HG.out.call q tq)
  replace HRR := Lib.hid (HRR.out.touch tq HRn.out)
  replace HBB := Lib.hid (Below.touch HBB.out tq HBn.out (Nat.le_refl _))
  clear q tq
  have f1 := HG.out.bk.frozen 1
  have c1 := HG.out.bk.cell 1
  simp [spC, Sp.zero] at c1
  replace HG := Lib.hid (HG.out.put (i := 1) (u := .int .i64 (x1 + 1)) (p' := ⟨x0 + 1, x1 + 1, 0, 0, 0, 0, [], 0, 0⟩) (by simp [spC, Sp.zero]) rfl)
  replace HRR := Lib.hid (HRR.out.far (p := ⟨M, 1, none⟩) HNM.out (.int .i64 (x1 + 1)))
  replace HBB := Lib.hid (HBB.out.setCell (p := ⟨M, 1, none⟩) n9 (.int .i64 (x1 + 1)))
  go_wp2_with fail
  clear f1 c1
  refine (dg_ueE HG.out.rg HN.out HGD.out.2.2.1 HE.out.2.2.2.2.1 HE.out.2.2.2.2.2.1).mono ?_
  rintro e wc3 ⟨rfl, q, tq⟩
  replace HG := Lib.hid (HG.out.call q tq)
  replace HRR := Lib.hid (HRR.out.touch tq HRn.out)
  replace HBB := Lib.hid (Below.touch HBB.out tq HBn.out (Nat.le_refl _))
  clear q tq
  have f2 := HG.out.bk.frozen 2
  have c2 := HG.out.bk.cell 2
  simp [spC, Sp.zero] at c2
  replace HG := Lib.hid (HG.out.put (i := 2) (u := .int .i64 (x2 + 4)) (p' := ⟨x0 + 1, x1 + 1, x2 + 4, 0, 0, 0, [], 0, 0⟩) (by simp [spC, Sp.zero]) rfl)
  replace HRR := Lib.hid (HRR.out.far (p := ⟨M, 2, none⟩) HNM.out (.int .i64 (x2 + 4)))
  replace HBB := Lib.hid (HBB.out.setCell (p := ⟨M, 2, none⟩) n9 (.int .i64 (x2 + 4)))
  go_wp2_with fail
  clear f2 c2
  refine (dg_ueE HG.out.rg HN.out HGD.out.2.2.2.1 HE.out.2.2.2.2.2.2.1 HE.out.2.2.2.2.2.2.2).mono ?_
  rintro e wc4 ⟨rfl, q, tq⟩
  replace HG := Lib.hid (HG.out.call q tq)
  replace HRR := Lib.hid (HRR.out.touch tq HRn.out)
  replace HBB := Lib.hid (Below.touch HBB.out tq HBn.out (Nat.le_refl _))
  clear q tq
  have f3 := HG.out.bk.frozen 3
  have c3 := HG.out.bk.cell 3
  have f4 := HG.out.bk.frozen 4
  have c4 := HG.out.bk.cell 4
  simp [spC, Sp.zero] at c3 c4
  replace HG := Lib.hid (HG.out.put (i := 3) (u := .int .i64 (1)) (p' := ⟨x0 + 1, x1 + 1, x2 + 4, 1, 0, 0, [], 0, 0⟩) (by simp [spC, Sp.zero]) rfl)
  replace HRR := Lib.hid (HRR.out.far (p := ⟨M, 3, none⟩) HNM.out (.int .i64 (1)))
  replace HBB := Lib.hid (HBB.out.setCell (p := ⟨M, 3, none⟩) n9 (.int .i64 (1)))
  replace HG := Lib.hid (HG.out.put (i := 4) (u := .int .i64 (4)) (p' := ⟨x0 + 1, x1 + 1, x2 + 4, 1, 4, 0, [], 0, 0⟩) (by simp [spC, Sp.zero]) rfl)
  replace HRR := Lib.hid (HRR.out.far (p := ⟨M, 4, none⟩) HNM.out (.int .i64 (4)))
  replace HBB := Lib.hid (HBB.out.setCell (p := ⟨M, 4, none⟩) n9 (.int .i64 (4)))
  go_wp2_with fail
  clear f3 c3 f4 c4
  obtain ⟨x4, t5, hx_, ht_, b_x4, g_t5⟩ := HGD.out.2.2.2.2.nextS
  refine (dg_seE HG.out.rg HN.out HGD.out.2.2.2.2 hx_ ht_).mono ?_
  rintro e wc5 ⟨rfl, q, tq⟩
  replace HG := Lib.hid (HG.out.call q tq)
  replace HRR := Lib.hid (HRR.out.touch tq HRn.out)
  replace HBB := Lib.hid (Below.touch HBB.out tq HBn.out (Nat.le_refl _))
  clear q tq
  have HX4 := Lib.hid (And.intro hx_ ht_)
  have HG5 := Lib.hid g_t5
  clear hx_ ht_ g_t5
  have f3 := HG.out.bk.frozen 3
  have c3 := HG.out.bk.cell 3
  have f5 := HG.out.bk.frozen 5
  have c5 := HG.out.bk.cell 5
  simp [spC, Sp.zero] at c3 c5
  replace HG := Lib.hid (HG.out.put (i := 5) (u := .int .i64 (x4)) (p' := ⟨x0 + 1, x1 + 1, x2 + 4, 1, 4, x4, [], 0, 0⟩) (by simp [spC, Sp.zero]) rfl)
  replace HRR := Lib.hid (HRR.out.far (p := ⟨M, 5, none⟩) HNM.out (.int .i64 (x4)))
  replace HBB := Lib.hid (HBB.out.setCell (p := ⟨M, 5, none⟩) n9 (.int .i64 (x4)))
  go_wp2_with fail
  clear f3 c3 f5 c5
  obtain ⟨n, t6, hx_, ht_, b_n, g_t6⟩ := HG5.out.next
  refine (dg_ueE HG.out.rg HN.out HG5.out hx_ ht_).mono ?_
  rintro e wc6 ⟨rfl, q, tq⟩
  replace HG := Lib.hid (HG.out.call q tq)
  replace HRR := Lib.hid (HRR.out.touch tq HRn.out)
  replace HBB := Lib.hid (Below.touch HBB.out tq HBn.out (Nat.le_refl _))
  clear q tq
  have HFIN := Lib.hid (HVV.out.trans (HF.out x4 t5 n t6 HX4.out.1 HX4.out.2 hx_ ht_))
  have HN0 := Lib.hid (fun q => HGD.out.2.2.2.2.n0 HX4.out.2 hx_ ht_ q)
  have HG6 := Lib.hid g_t6
  clear hx_ ht_ g_t6 HX4 HG5
  by_cases hn : n ≤ 4
  · replace HFIN := Lib.hid (HFIN.out.trans (if_neg (fun q => by omega)))
    obtain ⟨N, hN⟩ : ∃ N : Nat, N = n.toNat := ⟨_, rfl⟩
    have hNn : (N : Int) = n := by omega
    subst hNn
    have hN4 : N ≤ 4 := by omega
    have hov : ¬ 4 < (N : Int) := by omega
    replace HFIN := Lib.hid (show VV = finSp (sbit s) (8 * s.size) ⟨x0 + 1, x1 + 1, x2 + 4, 1, 4, x4, cyX (sbit s) (8 * s.size) N t6, 0, 0⟩ (cyS (sbit s) (8 * s.size) N t6) from HFIN.out)
    clear hN HN0
    obtain ⟨i0, hi, hz0, hz1, hz2⟩ := info_parts int_info
    go_wp2_with fail
    rw [show decide (4 < (N : Int)) = false from decide_eq_false (by omega)]
    go_loopw [8, 9] (fun i s9 wr => ∃ (kk : Nat) (v : Value), kk ≤ N ∧ i = .int .i64 kk ∧ GD wr h g gB M (R + 1) (8 * s.size) (sbit s) (cyS (sbit s) (8 * s.size) kk t6) ⟨x0 + 1, x1 + 1, x2 + 4, 1, 4, x4, cyX (sbit s) (8 * s.size) kk t6, 0, 0⟩ v ∧ Bk wr R 24 (spC .zero (.slice none 0 0)) ∧ Below w.heap.size w wr) (fun i _ _ => N - (intOf i).toNat)
    case atStart => exact ⟨0, .slice none 0 0, Nat.zero_le _, rfl, HG.out, HRR.out, HBB.out⟩
    case round =>
      clear HG HRR HBB
      obtain ⟨kk, v, hk, rfl, hG_, hR_, hB_⟩ := hrel
      obtain ⟨CY, hCY⟩ : ∃ CY, CY = cyX (sbit s) (8 * s.size) kk t6 := ⟨_, rfl⟩
      have hcl : CY.length = kk := by rw [hCY]; exact cyX_len _ _ _ _
      obtain ⟨T, hT⟩ : ∃ T, T = cyS (sbit s) (8 * s.size) kk t6 := ⟨_, rfl⟩
      have gT := HG6.out.cy kk
      rw [← hCY, ← hT] at hG_
      rw [← hT] at gT
      obtain ⟨A, c, rfl, hnc, _, _⟩ := own_slice hG_.own
      have HG := Lib.hid hG_
      have HRR := Lib.hid hR_
      have HBB := Lib.hid hB_
      have HGT6 := Lib.hid gT
      have HCT := Lib.hid (And.intro hCY hT)
      clear hG_ hR_ hB_ gT hCY hT
      subst hcl
      by_cases hlt : CY.length < N
      · have hlt' : (CY.length : Int) < (N : Int) := by omega
        have hk0 : (0 : Int) ≤ (CY.length : Int) := Int.natCast_nonneg _
        obtain ⟨xk, tk, hx_, ht_, bk_, g_tk⟩ := HGT6.out.nextS
        have HXT := Lib.hid (And.intro hx_ ht_)
        clear hx_ ht_ g_tk
        go_wp2_with fail
        refine (dg_seE HG.out.rg HN.out HGT6.out HXT.out.1 HXT.out.2).mono ?_
        rintro e wl ⟨rfl, q, tq⟩
        replace HG := Lib.hid (HG.out.call q tq)
        replace HRR := Lib.hid (HRR.out.touch tq HRn.out)
        replace HBB := Lib.hid (Below.touch HBB.out tq HBn.out (Nat.le_refl _))
        have hRl := HRR.out.lt
        clear q tq
        have c6 := HG.out.bk.cell 6
        simp [spC] at c6
        go_wp2_with (at_builtin; refine wpList_append_own_at (P := Try.prog) _ rfl _ _ 22 rfl (R + 1) 3 i0 (.int .i64 0) 1 8 Try.underlying22 hi hz0 hz1 hz2 rfl (by decide) _ CY.length (cyV CY) rfl (HG.out.own.alloc _) ⟨wl.heap.size, 0, none⟩ 1 1 [.int .i64 xk] rfl rfl (cellI_new wl xk _) (oneI_cell xk) (by unfold maxLen; omega) (by omega) (by simp; omega) ?_; intro v9 w9 ho9 hg9 _ hat9; clear c6; have hl := GD.lay (l := CY ++ [xk]) (HG.out.go ((Below.refl _ _).alloc (Nat.le_refl _) (.cells #[.int .i64 xk] 3))) (by rw [List.length_append, cyV_snoc]; exact ho9) hg9 hat9; obtain ⟨A9, c9, rfl, _, _, _⟩ := own_slice ho9; have f6 := hl.2.frozen 6; have c6 := hl.2.cell 6; simp [spC] at c6; have HL := Lib.hid hl.1; have HR9 := Lib.hid (((HRR.out.alloc (.cells #[.int .i64 xk] 3)).grown hg9 (fun q => by have := (HG.out.own.lt R q.symm).1; omega)).far (p := ⟨M, 6, none⟩) HNM.out (.slice A9 (CY.length + 1) c9)); have HB9 := Lib.hid (((HBB.out.alloc HBB.out.size (.cells #[.int .i64 xk] 3)).grown hg9 (by have := HBB.out.size; simp; omega) (fun k hk => by have := (HG.out.own.lt k hk).1; omega)).setCell (p := ⟨M, 6, none⟩) n9 (.slice A9 (CY.length + 1) c9)); clear hl ho9 hg9 hat9)
        go_roundw
        case rel =>
          refine ⟨CY.length + 1, .slice A9 (CY.length + 1) c9, by omega, by go_num, ?_, HR9.out, HB9.out⟩
          have hh := HL.out
          rw [← HXT.out.1, ← HXT.out.2] at hh
          have e1 : cyX (sbit s) (8 * s.size) (CY.length + 1) t6 = CY ++ [seX (sbit s) (8 * s.size) T] := by rw [HCT.out.2]; exact congrArg (· ++ _) HCT.out.1.symm
          have e2 : cyS (sbit s) (8 * s.size) (CY.length + 1) t6 = ueS (sbit s) (8 * s.size) T := by rw [HCT.out.2]; rfl
          rw [e1, e2]
          exact hh
        case measure => simp [intOf]; omega
      · obtain rfl : CY.length = N := by omega
        have hjj : ¬ (CY.length : Int) < (CY.length : Int) := by omega
        have hfin := HFIN.out
        rw [← HCT.out.1, ← HCT.out.2] at hfin
        replace HFIN := Lib.hid hfin
        clear hfin HCT
        have hlc : CY.length ≤ 4 := by omega
        go_wp2_with fail
        obtain ⟨x7, T1, hx_, ht_, b_x7, g_T1⟩ := HGT6.out.next
        refine (dg_ueE HG.out.rg HN.out HGT6.out hx_ ht_).mono ?_
        rintro e wc7 ⟨rfl, q, tq⟩
        replace HG := Lib.hid (HG.out.call q tq)
        replace HRR := Lib.hid (HRR.out.touch tq HRn.out)
        replace HBB := Lib.hid (Below.touch HBB.out tq HBn.out (Nat.le_refl _))
        clear q tq
        have HX7 := Lib.hid (And.intro hx_ ht_)
        have HGT := Lib.hid g_T1
        clear hx_ ht_ g_T1
        have f7 := HG.out.bk.frozen 7
        have c7 := HG.out.bk.cell 7
        simp [spC, Sp.zero] at c7
        replace HG := Lib.hid (HG.out.put (i := 7) (u := .int .i64 (x7)) (p' := ⟨x0 + 1, x1 + 1, x2 + 4, 1, 4, x4, CY, x7, 0⟩) (by simp [spC, Sp.zero]) rfl)
        replace HRR := Lib.hid (HRR.out.far (p := ⟨M, 7, none⟩) HNM.out (.int .i64 (x7)))
        replace HBB := Lib.hid (HBB.out.setCell (p := ⟨M, 7, none⟩) n9 (.int .i64 (x7)))
        go_wp2_with fail
        clear f7 c7
        obtain ⟨x8, T2, hx_, ht_, b_x8, g_T2⟩ := HGT.out.next
        refine (dg_ueE HG.out.rg HN.out HGT.out hx_ ht_).mono ?_
        rintro e wc8 ⟨rfl, q, tq⟩
        replace HG := Lib.hid (HG.out.call q tq)
        replace HRR := Lib.hid (HRR.out.touch tq HRn.out)
        replace HBB := Lib.hid (Below.touch HBB.out tq HBn.out (Nat.le_refl _))
        clear q tq
        obtain ⟨b, hb⟩ : ∃ b, (!T2.bad && ((trailR (sbit s) (8 * s.size) T2.a).1 : Int) == 0) = b := ⟨_, rfl⟩
        have hfin := finSp_form (p := ⟨x0 + 1, x1 + 1, x2 + 4, 1, 4, x4, CY, 0, 0⟩) HX7.out.1 HX7.out.2 hx_ ht_ hb
        rw [← HFIN.out] at hfin
        replace HFIN := Lib.hid hfin
        have HB_ := Lib.hid hb
        have HG2_ := Lib.hid g_T2
        clear hx_ ht_ hfin hb g_T2 HX7 HGT
        have HGP := HG
        have f8 := HG.out.bk.frozen 8
        have c8 := HG.out.bk.cell 8
        simp [spC, Sp.zero] at c8
        replace HG := Lib.hid (HG.out.put (i := 8) (u := .int .i64 (x8)) (p' := ⟨x0 + 1, x1 + 1, x2 + 4, 1, 4, x4, CY, x7, x8⟩) (by simp [spC, Sp.zero]) rfl)
        replace HRR := Lib.hid (HRR.out.far (p := ⟨M, 8, none⟩) HNM.out (.int .i64 (x8)))
        replace HBB := Lib.hid (HBB.out.setCell (p := ⟨M, 8, none⟩) n9 (.int .i64 (x8)))
        obtain ⟨bad, hbad⟩ : ∃ bad, bad = T2.bad := ⟨_, rfl⟩
        have d0 := HG.out.rg.1.cell 0
        have d1 := HG.out.rg.1.cell 1
        simp at d0 d1
        rw [← hbad] at d1
        have e0 := HGP.out.rg.1.cell 0
        have e1 := HGP.out.rg.1.cell 1
        simp at e0 e1
        rw [← hbad] at e1
        have HBAD := Lib.hid hbad
        clear hbad
        cases bad
        · go_wp2_with fail
          clear f8 c8 d0 d1 e0 e1
          refine (trailr_any g gB (8 * s.size) (sbit s) T2.a _ HG.out.rg.2.1 HN.out HG2_.out.1).mono ?_
          rintro e wd ⟨rfl, hq⟩
          have tq := (HG.out.rg.rd hq).2
          have HA := Lib.hid (HG.out.after tq)
          replace HRR := Lib.hid (HRR.out.touch tq HRn.out)
          replace HBB := Lib.hid (Below.touch HBB.out tq HBn.out (Nat.le_refl _))
          clear tq hq HG HGP
          obtain ⟨bt, hbt⟩ : ∃ bt, (((trailR (sbit s) (8 * s.size) T2.a).1 : Int) != 0) = bt := ⟨_, rfl⟩
          have hbb : b = !bt := by rw [← HB_.out, ← HBAD.out, ← hbt]; simp [bne]
          rw [hbb] at HFIN
          have hRlt := HRR.out.lt
          clear HB_ hbb
          cases bt
          · have hvv := HFIN.out
            rw [if_neg (by simp)] at hvv
            have HVV2 := Lib.hid hvv
            clear hvv
            have m0 := HA.out.1.cell 0
            have m1 := HA.out.1.cell 1
            have m2 := HA.out.1.cell 2
            have m3 := HA.out.1.cell 3
            have m4 := HA.out.1.cell 4
            have m5 := HA.out.1.cell 5
            have m6 := HA.out.1.cell 6
            have m7 := HA.out.1.cell 7
            have m8 := HA.out.1.cell 8
            simp [spC] at m0 m1 m2 m3 m4 m5 m6 m7 m8
            go_wp2_with fail
            clear hbt
            refine (maysp2_any ⟨x0 + 1, x1 + 1, x2 + 4, 1, 4, x4, CY, x7, x8⟩ A c _ (show SpAt _ _ ⟨x0 + 1, x1 + 1, x2 + 4, 1, 4, x4, CY, x7, x8⟩ A from SpAt.of_own HA.out.2) (by show CY.length ≤ _; omega)).mono ?_
            rintro e we ⟨rfl, hb5⟩
            replace HA := Lib.hid (And.intro (HA.out.1.go hb5) (own_go HA.out.2 hb5))
            replace HRR := Lib.hid (HRR.out.go hb5)
            replace HBB := Lib.hid (HBB.out.trans (hb5.mono HBB.out.size))
            clear hb5 m0 m1 m2 m3 m4 m5 m6 m7 m8 hRlt
            have hRlt := HRR.out.lt
            have m0 := HA.out.1.cell 0
            have m1 := HA.out.1.cell 1
            have m2 := HA.out.1.cell 2
            have m3 := HA.out.1.cell 3
            have m4 := HA.out.1.cell 4
            have m5 := HA.out.1.cell 5
            have m6 := HA.out.1.cell 6
            have m7 := HA.out.1.cell 7
            have m8 := HA.out.1.cell 8
            simp [spC] at m0 m1 m2 m3 m4 m5 m6 m7 m8
            cases hmy : maySp ⟨x0 + 1, x1 + 1, x2 + 4, 1, 4, x4, CY, x7, x8⟩
            · have hvv := HVV2.out
              rw [hmy, if_neg (by simp)] at hvv
              clear hmy
              have HVE := Lib.hid hvv
              clear hvv
              have hRlt := HRR.out.lt
              have c0 := HRR.out.cell 0
              have f0 := HRR.out.frozen 0
              have c1 := HRR.out.cell 1
              have f1 := HRR.out.frozen 1
              have c2 := HRR.out.cell 2
              have f2 := HRR.out.frozen 2
              have c3 := HRR.out.cell 3
              have f3 := HRR.out.frozen 3
              have c4 := HRR.out.cell 4
              have f4 := HRR.out.frozen 4
              have c5 := HRR.out.cell 5
              have f5 := HRR.out.frozen 5
              have c6 := HRR.out.cell 6
              have f6 := HRR.out.frozen 6
              have c7 := HRR.out.cell 7
              have f7 := HRR.out.frozen 7
              have c8 := HRR.out.cell 8
              have f8 := HRR.out.frozen 8
              simp [spC, Sp.zero] at c0 c1 c2 c3 c4 c5 c6 c7 c8
              go_wp2_with fail
              have hq := sps_put .zero (.slice none 0 0) HRR.out
              simp only [Sp.zero] at hq
              have HB9 := Lib.hid (Below.touch HBB.out hq.2 (fun i hi q => by omega) (Nat.le_refl _))
              generalize ((((((((we.setCell ⟨R, 0, none⟩ (.int .i64 0)).setCell ⟨R, 1, none⟩ (.int .i64 0)).setCell ⟨R, 2, none⟩ (.int .i64 0)).setCell ⟨R, 3, none⟩ (.int .i64 0)).setCell ⟨R, 4, none⟩ (.int .i64 0)).setCell ⟨R, 5, none⟩ (.int .i64 0)).setCell ⟨R, 6, none⟩ (.slice none 0 0)).setCell ⟨R, 7, none⟩ (.int .i64 0)).setCell ⟨R, 8, none⟩ (.int .i64 0) = w9 at hq HB9 ⊢
              have d0 := hq.1.cell 0
              have d1 := hq.1.cell 1
              have d2 := hq.1.cell 2
              have d3 := hq.1.cell 3
              have d4 := hq.1.cell 4
              have d5 := hq.1.cell 5
              have d6 := hq.1.cell 6
              have d7 := hq.1.cell 7
              have d8 := hq.1.cell 8
              simp [spC] at d0 d1 d2 d3 d4 d5 d6 d7 d8
              exact bodyPost_ret (v := .tuple #[.agg #[.int .i64 0, .int .i64 0, .int .i64 0, .int .i64 0, .int .i64 0, .int .i64 0, .slice none 0 0, .int .i64 0, .int .i64 0], .int .i64 301]) (by simp [results, Try.results14, go_sem, d0, d1, d2, d3, d4, d5, d6, d7, d8]) rfl (GPost.mk (.slice none 0 0) (by rw [HVE.out]; rfl) (by rw [HVE.out]; exact own_nil_int _ _) HB9.out)
            · have hvv := HVV2.out
              rw [hmy, if_pos rfl] at hvv
              have HVE := Lib.hid hvv
              clear hvv hmy
              have c0 := HRR.out.cell 0
              have f0 := HRR.out.frozen 0
              have c1 := HRR.out.cell 1
              have f1 := HRR.out.frozen 1
              have c2 := HRR.out.cell 2
              have f2 := HRR.out.frozen 2
              have c3 := HRR.out.cell 3
              have f3 := HRR.out.frozen 3
              have c4 := HRR.out.cell 4
              have f4 := HRR.out.frozen 4
              have c5 := HRR.out.cell 5
              have f5 := HRR.out.frozen 5
              have c6 := HRR.out.cell 6
              have f6 := HRR.out.frozen 6
              have c7 := HRR.out.cell 7
              have f7 := HRR.out.frozen 7
              have c8 := HRR.out.cell 8
              have f8 := HRR.out.frozen 8
              simp [spC, Sp.zero] at c0 c1 c2 c3 c4 c5 c6 c7 c8
              go_wp2_with fail
              have hq := sps_put ⟨x0 + 1, x1 + 1, x2 + 4, 1, 4, x4, CY, x7, x8⟩ (.slice A CY.length c) HRR.out
              simp only at hq
              have HOWN := Lib.hid (own_touch HA.out.2 hq.2 (fun k hk q => by have := (HA.out.2.lt k hk).1; omega))
              have HB9 := Lib.hid (Below.touch HBB.out hq.2 (fun i hi q => by omega) (Nat.le_refl _))
              generalize ((((((((we.setCell ⟨R, 0, none⟩ (.int .i64 (x0 + 1))).setCell ⟨R, 1, none⟩ (.int .i64 (x1 + 1))).setCell ⟨R, 2, none⟩ (.int .i64 (x2 + 4))).setCell ⟨R, 3, none⟩ (.int .i64 1)).setCell ⟨R, 4, none⟩ (.int .i64 (4))).setCell ⟨R, 5, none⟩ (.int .i64 x4)).setCell ⟨R, 6, none⟩ (.slice A CY.length c)).setCell ⟨R, 7, none⟩ (.int .i64 x7)).setCell ⟨R, 8, none⟩ (.int .i64 x8) = w9 at hq HOWN HB9 ⊢
              have d0 := hq.1.cell 0
              have d1 := hq.1.cell 1
              have d2 := hq.1.cell 2
              have d3 := hq.1.cell 3
              have d4 := hq.1.cell 4
              have d5 := hq.1.cell 5
              have d6 := hq.1.cell 6
              have d7 := hq.1.cell 7
              have d8 := hq.1.cell 8
              simp [spC] at d0 d1 d2 d3 d4 d5 d6 d7 d8
              exact bodyPost_ret (v := .tuple #[.agg #[.int .i64 (x0 + 1), .int .i64 (x1 + 1), .int .i64 (x2 + 4), .int .i64 1, .int .i64 (4), .int .i64 x4, .slice A CY.length c, .int .i64 x7, .int .i64 x8], .int .i64 0]) (by simp [results, Try.results14, go_sem, d0, d1, d2, d3, d4, d5, d6, d7, d8]) rfl (GPost.mk (.slice A CY.length c) (by rw [HVE.out]; rfl) (by rw [HVE.out]; exact own_less HOWN.out (by omega)) HB9.out)
          · have hvv := HFIN.out
            rw [if_pos (by simp)] at hvv
            have HVE := Lib.hid hvv
            clear hvv
            have hRlt := HRR.out.lt
            have c0 := HRR.out.cell 0
            have f0 := HRR.out.frozen 0
            have c1 := HRR.out.cell 1
            have f1 := HRR.out.frozen 1
            have c2 := HRR.out.cell 2
            have f2 := HRR.out.frozen 2
            have c3 := HRR.out.cell 3
            have f3 := HRR.out.frozen 3
            have c4 := HRR.out.cell 4
            have f4 := HRR.out.frozen 4
            have c5 := HRR.out.cell 5
            have f5 := HRR.out.frozen 5
            have c6 := HRR.out.cell 6
            have f6 := HRR.out.frozen 6
            have c7 := HRR.out.cell 7
            have f7 := HRR.out.frozen 7
            have c8 := HRR.out.cell 8
            have f8 := HRR.out.frozen 8
            simp [spC, Sp.zero] at c0 c1 c2 c3 c4 c5 c6 c7 c8
            go_wp2_with fail
            have hq := sps_put .zero (.slice none 0 0) HRR.out
            simp only [Sp.zero] at hq
            have HB9 := Lib.hid (Below.touch HBB.out hq.2 (fun i hi q => by omega) (Nat.le_refl _))
            generalize ((((((((wd.setCell ⟨R, 0, none⟩ (.int .i64 0)).setCell ⟨R, 1, none⟩ (.int .i64 0)).setCell ⟨R, 2, none⟩ (.int .i64 0)).setCell ⟨R, 3, none⟩ (.int .i64 0)).setCell ⟨R, 4, none⟩ (.int .i64 0)).setCell ⟨R, 5, none⟩ (.int .i64 0)).setCell ⟨R, 6, none⟩ (.slice none 0 0)).setCell ⟨R, 7, none⟩ (.int .i64 0)).setCell ⟨R, 8, none⟩ (.int .i64 0) = w9 at hq HB9 ⊢
            have d0 := hq.1.cell 0
            have d1 := hq.1.cell 1
            have d2 := hq.1.cell 2
            have d3 := hq.1.cell 3
            have d4 := hq.1.cell 4
            have d5 := hq.1.cell 5
            have d6 := hq.1.cell 6
            have d7 := hq.1.cell 7
            have d8 := hq.1.cell 8
            simp [spC] at d0 d1 d2 d3 d4 d5 d6 d7 d8
            exact bodyPost_ret (v := .tuple #[.agg #[.int .i64 0, .int .i64 0, .int .i64 0, .int .i64 0, .int .i64 0, .int .i64 0, .slice none 0 0, .int .i64 0, .int .i64 0], .int .i64 300]) (by simp [results, Try.results14, go_sem, d0, d1, d2, d3, d4, d5, d6, d7, d8]) rfl (GPost.mk (.slice none 0 0) (by rw [HVE.out]; rfl) (by rw [HVE.out]; exact own_nil_int _ _) HB9.out)
        · have hbb : b = false := by rw [← HB_.out, ← HBAD.out]; rfl
          rw [hbb] at HFIN
          have hvv := HFIN.out
          rw [if_pos rfl] at hvv
          clear HB_ hbb
          obtain ⟨wd, hwd⟩ : ∃ wd, wd = wc8.setCell ⟨M, 8, none⟩ (.int .i64 x8) := ⟨_, rfl⟩
          go_upto_region 25 with (fail)
          rw [← hwd] at HRR HBB
          rw [← hwd]
          clear hwd f8 c8 d0 d1 e0 e1 HG HGP
          have HVE := Lib.hid hvv
          clear hvv
          have hRlt := HRR.out.lt
          have c0 := HRR.out.cell 0
          have f0 := HRR.out.frozen 0
          have c1 := HRR.out.cell 1
          have f1 := HRR.out.frozen 1
          have c2 := HRR.out.cell 2
          have f2 := HRR.out.frozen 2
          have c3 := HRR.out.cell 3
          have f3 := HRR.out.frozen 3
          have c4 := HRR.out.cell 4
          have f4 := HRR.out.frozen 4
          have c5 := HRR.out.cell 5
          have f5 := HRR.out.frozen 5
          have c6 := HRR.out.cell 6
          have f6 := HRR.out.frozen 6
          have c7 := HRR.out.cell 7
          have f7 := HRR.out.frozen 7
          have c8 := HRR.out.cell 8
          have f8 := HRR.out.frozen 8
          simp [spC, Sp.zero] at c0 c1 c2 c3 c4 c5 c6 c7 c8
          go_wp2_with fail
          have hq := sps_put .zero (.slice none 0 0) HRR.out
          simp only [Sp.zero] at hq
          have HB9 := Lib.hid (Below.touch HBB.out hq.2 (fun i hi q => by omega) (Nat.le_refl _))
          generalize ((((((((wd.setCell ⟨R, 0, none⟩ (.int .i64 0)).setCell ⟨R, 1, none⟩ (.int .i64 0)).setCell ⟨R, 2, none⟩ (.int .i64 0)).setCell ⟨R, 3, none⟩ (.int .i64 0)).setCell ⟨R, 4, none⟩ (.int .i64 0)).setCell ⟨R, 5, none⟩ (.int .i64 0)).setCell ⟨R, 6, none⟩ (.slice none 0 0)).setCell ⟨R, 7, none⟩ (.int .i64 0)).setCell ⟨R, 8, none⟩ (.int .i64 0) = w9 at hq HB9 ⊢
          have d0 := hq.1.cell 0
          have d1 := hq.1.cell 1
          have d2 := hq.1.cell 2
          have d3 := hq.1.cell 3
          have d4 := hq.1.cell 4
          have d5 := hq.1.cell 5
          have d6 := hq.1.cell 6
          have d7 := hq.1.cell 7
          have d8 := hq.1.cell 8
          simp [spC] at d0 d1 d2 d3 d4 d5 d6 d7 d8
          exact bodyPost_ret (v := .tuple #[.agg #[.int .i64 0, .int .i64 0, .int .i64 0, .int .i64 0, .int .i64 0, .int .i64 0, .slice none 0 0, .int .i64 0, .int .i64 0], .int .i64 300]) (by simp [results, Try.results14, go_sem, d0, d1, d2, d3, d4, d5, d6, d7, d8]) rfl (GPost.mk (.slice none 0 0) (by rw [HVE.out]; rfl) (by rw [HVE.out]; exact own_nil_int _ _) HB9.out)
  · have hb6 : t6.bad = false := by
      cases q : t6.bad
      · rfl
      · have := HN0.out q; omega
    have hvv := HFIN.out.trans (if_pos ⟨hb6, by omega⟩)
    have hn0 : 0 < n := by omega
    have hn4 : 4 < n := by omega
    have d0 := HG.out.rg.1.cell 0
    have d1 := HG.out.rg.1.cell 1
    simp at d0 d1
    rw [hb6] at d1
    have HVV3 := Lib.hid hvv
    clear hvv HN0 hb6 hn
    go_wp2_with fail
    refine wp_loop_rounds 1 ?_
    rw [rounds_succ]
    have hvv := HVV3.out
    have HVE := Lib.hid hvv
    clear hvv
    have hRlt := HRR.out.lt
    have c0 := HRR.out.cell 0
    have f0 := HRR.out.frozen 0
    have c1 := HRR.out.cell 1
    have f1 := HRR.out.frozen 1
    have c2 := HRR.out.cell 2
    have f2 := HRR.out.frozen 2
    have c3 := HRR.out.cell 3
    have f3 := HRR.out.frozen 3
    have c4 := HRR.out.cell 4
    have f4 := HRR.out.frozen 4
    have c5 := HRR.out.cell 5
    have f5 := HRR.out.frozen 5
    have c6 := HRR.out.cell 6
    have f6 := HRR.out.frozen 6
    have c7 := HRR.out.cell 7
    have f7 := HRR.out.frozen 7
    have c8 := HRR.out.cell 8
    have f8 := HRR.out.frozen 8
    simp [spC, Sp.zero] at c0 c1 c2 c3 c4 c5 c6 c7 c8
    go_wp2_with fail
    have hq := sps_put .zero (.slice none 0 0) HRR.out
    simp only [Sp.zero] at hq
    have HB9 := Lib.hid (Below.touch HBB.out hq.2 (fun i hi q => by omega) (Nat.le_refl _))
    generalize ((((((((wc6.setCell ⟨R, 0, none⟩ (.int .i64 0)).setCell ⟨R, 1, none⟩ (.int .i64 0)).setCell ⟨R, 2, none⟩ (.int .i64 0)).setCell ⟨R, 3, none⟩ (.int .i64 0)).setCell ⟨R, 4, none⟩ (.int .i64 0)).setCell ⟨R, 5, none⟩ (.int .i64 0)).setCell ⟨R, 6, none⟩ (.slice none 0 0)).setCell ⟨R, 7, none⟩ (.int .i64 0)).setCell ⟨R, 8, none⟩ (.int .i64 0) = w9 at hq HB9 ⊢
    have d0 := hq.1.cell 0
    have d1 := hq.1.cell 1
    have d2 := hq.1.cell 2
    have d3 := hq.1.cell 3
    have d4 := hq.1.cell 4
    have d5 := hq.1.cell 5
    have d6 := hq.1.cell 6
    have d7 := hq.1.cell 7
    have d8 := hq.1.cell 8
    simp [spC] at d0 d1 d2 d3 d4 d5 d6 d7 d8
    exact bodyPost_ret (v := .tuple #[.agg #[.int .i64 0, .int .i64 0, .int .i64 0, .int .i64 0, .int .i64 0, .int .i64 0, .slice none 0 0, .int .i64 0, .int .i64 0], .int .i64 301]) (by simp [results, Try.results14, go_sem, d0, d1, d2, d3, d4, d5, d6, d7, d8]) rfl (GPost.mk (.slice none 0 0) (by rw [HVE.out]; rfl) (by rw [HVE.out]; exact own_nil_int _ _) HB9.out)
end Go.Proofs.Ytegfglpaabddlaa

namespace Go.Proofs.Ytegfglpaabddlaa
open Go.RowKit
set_option linter.unusedVariables false

theorem getsp2_any (s : ByteArray) (w : World) (hs : s.size ≤ 17592186044416) : Calls Try.prog 14 #[.string s] w (GPost (getSp (sbit s) (8 * s.size)) w) := by
  obtain ⟨x0, t1, e0, f1, b0, g1⟩ := (Good.start (f := sbit s) (N := 8 * s.size)).next
  obtain ⟨x1, t2, e1, f2, b1, g2⟩ := g1.next
  obtain ⟨x2, t3, e2, f3, b2, g3⟩ := g2.next
  obtain ⟨x3, t4, e3, f4, b3, g4⟩ := g3.next
  by_cases h0 : x3 = 0
  · exact getsp2_0 s w hs x0 x1 x2 x3 t1 t2 t3 t4 e0 f1 e1 f2 e2 f3 e3 f4 b0 b1 b2 g1 g2 g3 g4 h0 _ rfl
  · by_cases h1 : x3 = 1
    · exact getsp2_1 s w hs x0 x1 x2 x3 t1 t2 t3 t4 e0 f1 e1 f2 e2 f3 e3 f4 b0 b1 b2 g1 g2 g3 g4 h1 _ rfl
    · exact getsp2_2 s w hs x0 x1 x2 x3 t1 t2 t3 t4 e0 f1 e1 f2 e2 f3 e3 f4 b0 b1 b2 g1 g2 g3 g4 ⟨h0, h1⟩ _ rfl
end Go.Proofs.Ytegfglpaabddlaa
