/- The document's GetPps: the walk. Printed by gen-getpp2.py. -/
import Derived.Test.YtegfglpaabddlaaParM
import Derived.Test.YtegfglpaabddlaaParN
import Derived.Test.YtegfglpaabddlaaParD
namespace Go.Proofs.Ytegfglpaabddlaa
open Go.RowKit
set_option linter.unusedVariables false
set_option linter.unusedSimpArgs false

theorem dS_le {t u : St} {N : Nat} (h : t.a ≤ N) (g : u.a ≤ N) : (dS t u).a ≤ N := by unfold dS; split <;> assumption
theorem btS_le {f : Nat → Bool} {N : Nat} {t : St} (n : Int) (h : t.a ≤ N) : (btS f N n t).a ≤ N := bitsR_at n h
theorem ueS_le {f : Nat → Bool} {N : Nat} {t : St} (h : t.a ≤ N) : (ueS f N t).a ≤ N := (ueR_bd f N _ h).2.2.2.1
theorem k_le (f : Nat → Bool) (N : Nat) : (k1 f N).a ≤ N ∧ (k2 f N).a ≤ N ∧ (k3 f N).a ≤ N ∧ (k4 f N).a ≤ N ∧ (k5 f N).a ≤ N ∧ (k6 f N).a ≤ N ∧ (k7 f N).a ≤ N ∧ (k8 f N).a ≤ N ∧ (k9 f N).a ≤ N := by
  have h0 : k0.a ≤ N := Nat.zero_le _
  have h1 : (k1 f N).a ≤ N := dS_le h0 (btS_le 1 h0)
  have h2 : (k2 f N).a ≤ N := dS_le h1 (btS_le 1 h1)
  have h3 : (k3 f N).a ≤ N := dS_le h2 (btS_le 2 h2)
  have h4 : (k4 f N).a ≤ N := dS_le h3 (ueS_le h3)
  have h5 : (k5 f N).a ≤ N := dS_le h4 (ueS_le h4)
  have h6 : (k6 f N).a ≤ N := dS_le h5 (btS_le 1 h5)
  have h7 : (k7 f N).a ≤ N := dS_le h6 (btS_le 1 h6)
  have h8 : (k8 f N).a ≤ N := dS_le h7 (ueS_le h7)
  have h9 : (k9 f N).a ≤ N := dS_le h8 (ueS_le h8)
  exact ⟨h1, h2, h3, h4, h5, h6, h7, h8, h9⟩
theorem dX_bd {b : Bool} {x : Int} (h0 : 0 ≤ x) (h1 : x ≤ 2147483646) : 0 ≤ dX b x ∧ dX b x ≤ 2147483646 := by unfold dX; split <;> omega
theorem DG.far {w : World} {h g gB N : Nat} {f : Nat → Bool} {t : St} (H : DG w h g gB N f t) {M : Nat} (h1 : M ≠ h) (h2 : M ≠ g) (h3 : M ≠ gB) (i : Nat) (u : Value) : DG (w.setCell ⟨M, i, none⟩ u) h g gB N f t :=
  ⟨H.1.far (fun e => h1 e.symm) u, H.2.1.far h2 h3 i u, H.2.2⟩

theorem dg_b1 {w : World} {h g gB N : Nat} {f : Nat → Bool} {t : St} (H : DG w h g gB N f t) (hN : N ≤ 1125899906842624) (ha : t.a ≤ N) : Calls Try.prog 58 #[.pointer (some ⟨h, 0, none⟩), .int .i64 1] w fun r w' => r = .returned (.int .i64 (dX t.bad (btX f N 1 t))) ∧ DG w' h g gB N f (dS t (btS f N 1 t)) ∧ Touch (RGS h g) w w' := dg_bits H hN ha 1
theorem dg_b2 {w : World} {h g gB N : Nat} {f : Nat → Bool} {t : St} (H : DG w h g gB N f t) (hN : N ≤ 1125899906842624) (ha : t.a ≤ N) : Calls Try.prog 58 #[.pointer (some ⟨h, 0, none⟩), .int .i64 2] w fun r w' => r = .returned (.int .i64 (dX t.bad (btX f N 2 t))) ∧ DG w' h g gB N f (dS t (btS f N 2 t)) ∧ Touch (RGS h g) w w' := dg_bits H hN ha 2

set_option maxRecDepth 100000 in
set_option maxHeartbeats 6400000 in
theorem getpp2_any (s : ByteArray) (w : World) (hs : s.size ≤ 17592186044416) :
    Calls Try.prog 25 #[.string s] w fun e w' => e = .returned (.tuple #[.agg (ppV (getPp (sbit s) (8 * s.size)).1), .int .i64 (getPp (sbit s) (8 * s.size)).2]) ∧ Below w.heap.size w w' := by
  obtain ⟨VV, hVV⟩ : ∃ V, V = getPp (sbit s) (8 * s.size) := ⟨_, rfl⟩
  rw [← hVV]
  have HVV := Lib.hid (hVV.trans (getPp_k (sbit s) (8 * s.size)))
  clear hVV
  have HLE := Lib.hid (k_le (sbit s) (8 * s.size))
  have HN := Lib.hid (show 8 * s.size ≤ 1125899906842624 by omega)
  have hR0 := Bk.new w 43 (ppV .zero)
  have hb0 := (Below.refl w.heap.size w).alloc (Nat.le_refl _) (.cells (ppV .zero) 43)
  have HR0 := Lib.hid hR0
  have HB0 := Lib.hid hb0
  clear hR0 hb0
  go_enter Try.func25, Try.ntmps25
  go_wp2_with fail
  refine (openr_any s _ hs).mono ?_
  rintro e w1 ⟨gB, cp, rfl, hg1, hg2, hcells, hb1⟩
  rw [World.size_alloc] at hg1
  have hR1 := HR0.out.go hb1
  have hB1 := HB0.out.trans (hb1.mono HB0.out.size)
  have hR2 := ((hR1.alloc (.cells #[.slice (some ⟨gB, 0, none⟩) (8 * s.size) cp, .int .i64 0] 94)).alloc (.cells #[.pointer (some ⟨w1.heap.size, 0, none⟩), .bool false] 96)).alloc (.cells (ppV .zero) 43)
  have hsz1 := hB1.size
  have hB2 := ((hB1.alloc hsz1 (.cells #[.slice (some ⟨gB, 0, none⟩) (8 * s.size) cp, .int .i64 0] 94)).alloc (by simp; omega) (.cells #[.pointer (some ⟨w1.heap.size, 0, none⟩), .bool false] 96)).alloc (by simp; omega) (.cells (ppV .zero) 43)
  have hgk := ((Bk.new w1 94 #[.slice (some ⟨gB, 0, none⟩) (8 * s.size) cp, .int .i64 0]).alloc (.cells #[.pointer (some ⟨w1.heap.size, 0, none⟩), .bool false] 96)).alloc (.cells (ppV .zero) 43)
  have hhk := (Bk.new (w1.alloc (.cells #[.slice (some ⟨gB, 0, none⟩) (8 * s.size) cp, .int .i64 0] 94)) 96 #[.pointer (some ⟨w1.heap.size, 0, none⟩), .bool false]).alloc (.cells (ppV .zero) 43)
  have hmk := Bk.new ((w1.alloc (.cells #[.slice (some ⟨gB, 0, none⟩) (8 * s.size) cp, .int .i64 0] 94)).alloc (.cells #[.pointer (some ⟨w1.heap.size, 0, none⟩), .bool false] 96)) 43 (ppV .zero)
  rw [World.size_alloc] at hhk
  rw [World.size_alloc, World.size_alloc] at hmk
  have hbc : Below w1.heap.size w1 (((w1.alloc (.cells #[.slice (some ⟨gB, 0, none⟩) (8 * s.size) cp, .int .i64 0] 94)).alloc (.cells #[.pointer (some ⟨w1.heap.size, 0, none⟩), .bool false] 96)).alloc (.cells (ppV .zero) 43)) := (((Below.refl _ _).alloc (Nat.le_refl _) _).alloc (by simp) _).alloc (by simp; omega) _
  have hce : ∀ k, k < 8 * s.size → World.cell? _ ⟨gB, k, none⟩ = some (.int .u8 (bu (sbit s k))) := fun k hk => (hbc.cell (p := ⟨gB, k, none⟩) hg2).trans (hcells k hk)
  obtain ⟨g, hG⟩ : ∃ g, g = w1.heap.size := ⟨_, rfl⟩
  obtain ⟨h, hH⟩ : ∃ h, h = w1.heap.size + 1 := ⟨_, rfl⟩
  obtain ⟨M, hM⟩ : ∃ M, M = w1.heap.size + 1 + 1 := ⟨_, rfl⟩
  obtain ⟨R, hR⟩ : ∃ R, R = w.heap.size := ⟨_, rfl⟩
  have n1 : M ≠ h := by omega
  have n2 : M ≠ g := by omega
  have n3 : M ≠ gB := by omega
  have n4 : R ≠ h := by omega
  have n5 : R ≠ g := by omega
  have n6 : R ≠ M := by omega
  have n7 : w.heap.size ≤ g := by omega
  have n8 : w.heap.size ≤ h := by omega
  have n9 : w.heap.size ≤ M := by omega
  have n10 : gB ≠ g := by omega
  have n11 : h ≠ gB := by omega
  have n12 : w.heap.size ≤ R := by omega
  have HR := Lib.hid hR2
  have HB := Lib.hid hB2
  have HGK := Lib.hid hgk
  have HHK := Lib.hid hhk
  have HM := Lib.hid hmk
  have HCE := Lib.hid hce
  have HBC := Lib.hid hbc
  clear hg1 hcells hb1 hR1 hB1 hR2 hsz1 hB2 hgk hhk hmk hce hbc HR0 HB0
  go_wp2_with fail
  unfold ppV Pp.zero at HR HB HGK HHK HM HCE HBC
  simp only at HR HB HGK HHK HM HCE HBC
  generalize (((w1.alloc (.cells #[.slice (some ⟨gB, 0, none⟩) (8 * s.size) cp, .int .i64 0] 94)).alloc (.cells #[.pointer (some ⟨w1.heap.size, 0, none⟩), .bool false] 96)).alloc (.cells #[.bool false, .bool false, .int .i64 0, .int .i64 0, .int .i64 0, .bool false, .bool false, .int .i64 0, .int .i64 0] 43)) = wn at HR HB HGK HHK HM HCE HBC ⊢
  rw [← hG] at HGK HHK HM ⊢
  have hH2 : h = g + 1 := by omega
  have hM2 : M = h + 1 := by omega
  rw [← hH2] at HHK HM ⊢
  rw [← hM2] at HM ⊢
  rw [← hR] at HR ⊢
  clear hH2 hM2
  have hgl := HGK.out.lt
  have HD : Hid (DG wn h g gB (8 * s.size) (sbit s) k0) := Lib.hid ⟨HHK.out, ⟨⟨cp, HGK.out⟩, n10, by have := HBC.out.size; omega, HCE.out⟩, n11⟩
  have HEQ := Lib.hid (And.intro hG (And.intro hH (And.intro hM hR)))
  clear hG hH hM hR hg2 hgl HGK HHK HCE HBC
  have HM : Hid (Bk wn M 43 #[.bool false, .bool false, .int .i64 0, .int .i64 0, .int .i64 0, .bool false, .bool false, .int .i64 0, .int .i64 0]) := HM
  have HR : Hid (Bk wn R 43 #[.bool false, .bool false, .int .i64 0, .int .i64 0, .int .i64 0, .bool false, .bool false, .int .i64 0, .int .i64 0]) := HR
  refine (dg_b1 HD.out HN.out (Nat.zero_le _)).mono ?_
  rintro e wb ⟨rfl, hd, ht⟩
  have hd : DG wb h g gB (8 * s.size) (sbit s) (k1 (sbit s) (8 * s.size)) := hd
  obtain ⟨y0, hy0⟩ : ∃ y, y = dX k0.bad (btX (sbit s) (8 * s.size) 1 k0) := ⟨_, rfl⟩
  rw [← hy0]
  obtain ⟨x0, hx0⟩ : ∃ b, (y0 == 1) = b := ⟨_, rfl⟩
  have HY0 := Lib.hid hy0
  have hm := HM.out.touch ht (fun q => by rcases q with q | q <;> omega)
  have hr := HR.out.touch ht (fun q => by rcases q with q | q <;> omega)
  have hbb := Below.touch HB.out ht (fun i hi q => by rcases q with q | q <;> omega) (Nat.le_refl _)
  have cM := hm.cell 0
  have fM := hm.frozen 0
  simp at cM
  have HM : Hid (Bk _ M 43 #[.bool x0, .bool false, .int .i64 0, .int .i64 0, .int .i64 0, .bool false, .bool false, .int .i64 0, .int .i64 0]) := Lib.hid (hm.set_ 0 (.bool x0))
  have HR := Lib.hid (hr.far (p := ⟨M, 0, none⟩) n6 (.bool x0))
  have HD := Lib.hid (hd.far n1 n2 n3 0 (.bool x0))
  have HB := Lib.hid (hbb.setCell (p := ⟨M, 0, none⟩) n9 (.bool x0))
  clear hm hr hbb hd ht hy0
  have HX0 := Lib.hid hx0
  go_wp2_with fail
  generalize wb.setCell ⟨M, 0, none⟩ (.bool x0) = wn at HM HR HD HB ⊢
  clear cM fM hx0
  refine (dg_b1 HD.out HN.out (HLE.out.1)).mono ?_
  rintro e wb ⟨rfl, hd, ht⟩
  have hd : DG wb h g gB (8 * s.size) (sbit s) (k2 (sbit s) (8 * s.size)) := hd
  obtain ⟨y1, hy1⟩ : ∃ y, y = dX (k1 (sbit s) (8 * s.size)).bad (btX (sbit s) (8 * s.size) 1 (k1 (sbit s) (8 * s.size))) := ⟨_, rfl⟩
  rw [← hy1]
  obtain ⟨x1, hx1⟩ : ∃ b, (y1 == 1) = b := ⟨_, rfl⟩
  have HY1 := Lib.hid hy1
  have hm := HM.out.touch ht (fun q => by rcases q with q | q <;> omega)
  have hr := HR.out.touch ht (fun q => by rcases q with q | q <;> omega)
  have hbb := Below.touch HB.out ht (fun i hi q => by rcases q with q | q <;> omega) (Nat.le_refl _)
  have cM := hm.cell 1
  have fM := hm.frozen 1
  simp at cM
  have HM : Hid (Bk _ M 43 #[.bool x0, .bool x1, .int .i64 0, .int .i64 0, .int .i64 0, .bool false, .bool false, .int .i64 0, .int .i64 0]) := Lib.hid (hm.set_ 1 (.bool x1))
  have HR := Lib.hid (hr.far (p := ⟨M, 1, none⟩) n6 (.bool x1))
  have HD := Lib.hid (hd.far n1 n2 n3 1 (.bool x1))
  have HB := Lib.hid (hbb.setCell (p := ⟨M, 1, none⟩) n9 (.bool x1))
  clear hm hr hbb hd ht hy1
  have HX1 := Lib.hid hx1
  go_wp2_with fail
  generalize wb.setCell ⟨M, 1, none⟩ (.bool x1) = wn at HM HR HD HB ⊢
  clear cM fM hx1
  refine (dg_b2 HD.out HN.out (HLE.out.2.1)).mono ?_
  rintro e wb ⟨rfl, hd, ht⟩
  have hd : DG wb h g gB (8 * s.size) (sbit s) (k3 (sbit s) (8 * s.size)) := hd
  obtain ⟨y2, hy2⟩ : ∃ y, y = dX (k2 (sbit s) (8 * s.size)).bad (btX (sbit s) (8 * s.size) 2 (k2 (sbit s) (8 * s.size))) := ⟨_, rfl⟩
  rw [← hy2]
  have HY2 := Lib.hid hy2
  have hm := HM.out.touch ht (fun q => by rcases q with q | q <;> omega)
  have hr := HR.out.touch ht (fun q => by rcases q with q | q <;> omega)
  have hbb := Below.touch HB.out ht (fun i hi q => by rcases q with q | q <;> omega) (Nat.le_refl _)
  have cM := hm.cell 2
  have fM := hm.frozen 2
  simp at cM
  have HM : Hid (Bk _ M 43 #[.bool x0, .bool x1, .int .i64 y2, .int .i64 0, .int .i64 0, .bool false, .bool false, .int .i64 0, .int .i64 0]) := Lib.hid (hm.set_ 2 (.int .i64 y2))
  have HR := Lib.hid (hr.far (p := ⟨M, 2, none⟩) n6 (.int .i64 y2))
  have HD := Lib.hid (hd.far n1 n2 n3 2 (.int .i64 y2))
  have HB := Lib.hid (hbb.setCell (p := ⟨M, 2, none⟩) n9 (.int .i64 y2))
  clear hm hr hbb hd ht hy2
  go_wp2_with fail
  generalize wb.setCell ⟨M, 2, none⟩ (.int .i64 y2) = wn at HM HR HD HB ⊢
  clear cM fM
  refine (dg_ue HD.out HN.out (HLE.out.2.2.1)).mono ?_
  rintro e wb ⟨rfl, hd, ht⟩
  have hd : DG wb h g gB (8 * s.size) (sbit s) (k4 (sbit s) (8 * s.size)) := hd
  obtain ⟨y3, hy3⟩ : ∃ y, y = dX (k3 (sbit s) (8 * s.size)).bad (ueX (sbit s) (8 * s.size) (k3 (sbit s) (8 * s.size))) := ⟨_, rfl⟩
  rw [← hy3]
  have HY3 := Lib.hid hy3
  have hm := HM.out.touch ht (fun q => by rcases q with q | q <;> omega)
  have hr := HR.out.touch ht (fun q => by rcases q with q | q <;> omega)
  have hbb := Below.touch HB.out ht (fun i hi q => by rcases q with q | q <;> omega) (Nat.le_refl _)
  have cM := hm.cell 3
  have fM := hm.frozen 3
  simp at cM
  have HM : Hid (Bk _ M 43 #[.bool x0, .bool x1, .int .i64 y2, .int .i64 y3, .int .i64 0, .bool false, .bool false, .int .i64 0, .int .i64 0]) := Lib.hid (hm.set_ 3 (.int .i64 y3))
  have HR := Lib.hid (hr.far (p := ⟨M, 3, none⟩) n6 (.int .i64 y3))
  have HD := Lib.hid (hd.far n1 n2 n3 3 (.int .i64 y3))
  have HB := Lib.hid (hbb.setCell (p := ⟨M, 3, none⟩) n9 (.int .i64 y3))
  clear hm hr hbb hd ht hy3
  go_wp2_with fail
  generalize wb.setCell ⟨M, 3, none⟩ (.int .i64 y3) = wn at HM HR HD HB ⊢
  clear cM fM
  refine (dg_se HD.out HN.out (HLE.out.2.2.2.1)).mono ?_
  rintro e wb ⟨rfl, hd, ht⟩
  have hd : DG wb h g gB (8 * s.size) (sbit s) (k5 (sbit s) (8 * s.size)) := hd
  obtain ⟨y4, hy4⟩ : ∃ y, y = dX (k4 (sbit s) (8 * s.size)).bad (seX (sbit s) (8 * s.size) (k4 (sbit s) (8 * s.size))) := ⟨_, rfl⟩
  rw [← hy4]
  have HY4 := Lib.hid hy4
  have hm := HM.out.touch ht (fun q => by rcases q with q | q <;> omega)
  have hr := HR.out.touch ht (fun q => by rcases q with q | q <;> omega)
  have hbb := Below.touch HB.out ht (fun i hi q => by rcases q with q | q <;> omega) (Nat.le_refl _)
  have cM := hm.cell 4
  have fM := hm.frozen 4
  simp at cM
  have HM : Hid (Bk _ M 43 #[.bool x0, .bool x1, .int .i64 y2, .int .i64 y3, .int .i64 y4, .bool false, .bool false, .int .i64 0, .int .i64 0]) := Lib.hid (hm.set_ 4 (.int .i64 y4))
  have HR := Lib.hid (hr.far (p := ⟨M, 4, none⟩) n6 (.int .i64 y4))
  have HD := Lib.hid (hd.far n1 n2 n3 4 (.int .i64 y4))
  have HB := Lib.hid (hbb.setCell (p := ⟨M, 4, none⟩) n9 (.int .i64 y4))
  clear hm hr hbb hd ht hy4
  go_wp2_with fail
  generalize wb.setCell ⟨M, 4, none⟩ (.int .i64 y4) = wn at HM HR HD HB ⊢
  clear cM fM
  refine (dg_b1 HD.out HN.out (HLE.out.2.2.2.2.1)).mono ?_
  rintro e wb ⟨rfl, hd, ht⟩
  have hd : DG wb h g gB (8 * s.size) (sbit s) (k6 (sbit s) (8 * s.size)) := hd
  obtain ⟨y5, hy5⟩ : ∃ y, y = dX (k5 (sbit s) (8 * s.size)).bad (btX (sbit s) (8 * s.size) 1 (k5 (sbit s) (8 * s.size))) := ⟨_, rfl⟩
  rw [← hy5]
  obtain ⟨x5, hx5⟩ : ∃ b, (y5 == 1) = b := ⟨_, rfl⟩
  have HY5 := Lib.hid hy5
  have hm := HM.out.touch ht (fun q => by rcases q with q | q <;> omega)
  have hr := HR.out.touch ht (fun q => by rcases q with q | q <;> omega)
  have hbb := Below.touch HB.out ht (fun i hi q => by rcases q with q | q <;> omega) (Nat.le_refl _)
  have cM := hm.cell 5
  have fM := hm.frozen 5
  simp at cM
  have HM : Hid (Bk _ M 43 #[.bool x0, .bool x1, .int .i64 y2, .int .i64 y3, .int .i64 y4, .bool x5, .bool false, .int .i64 0, .int .i64 0]) := Lib.hid (hm.set_ 5 (.bool x5))
  have HR := Lib.hid (hr.far (p := ⟨M, 5, none⟩) n6 (.bool x5))
  have HD := Lib.hid (hd.far n1 n2 n3 5 (.bool x5))
  have HB := Lib.hid (hbb.setCell (p := ⟨M, 5, none⟩) n9 (.bool x5))
  clear hm hr hbb hd ht hy5
  have HX5 := Lib.hid hx5
  go_wp2_with fail
  generalize wb.setCell ⟨M, 5, none⟩ (.bool x5) = wn at HM HR HD HB ⊢
  clear cM fM hx5
  refine (dg_b1 HD.out HN.out (HLE.out.2.2.2.2.2.1)).mono ?_
  rintro e wb ⟨rfl, hd, ht⟩
  have hd : DG wb h g gB (8 * s.size) (sbit s) (k7 (sbit s) (8 * s.size)) := hd
  obtain ⟨y6, hy6⟩ : ∃ y, y = dX (k6 (sbit s) (8 * s.size)).bad (btX (sbit s) (8 * s.size) 1 (k6 (sbit s) (8 * s.size))) := ⟨_, rfl⟩
  rw [← hy6]
  obtain ⟨x6, hx6⟩ : ∃ b, (y6 == 1) = b := ⟨_, rfl⟩
  have HY6 := Lib.hid hy6
  have hm := HM.out.touch ht (fun q => by rcases q with q | q <;> omega)
  have hr := HR.out.touch ht (fun q => by rcases q with q | q <;> omega)
  have hbb := Below.touch HB.out ht (fun i hi q => by rcases q with q | q <;> omega) (Nat.le_refl _)
  have cM := hm.cell 6
  have fM := hm.frozen 6
  simp at cM
  have HM : Hid (Bk _ M 43 #[.bool x0, .bool x1, .int .i64 y2, .int .i64 y3, .int .i64 y4, .bool x5, .bool x6, .int .i64 0, .int .i64 0]) := Lib.hid (hm.set_ 6 (.bool x6))
  have HR := Lib.hid (hr.far (p := ⟨M, 6, none⟩) n6 (.bool x6))
  have HD := Lib.hid (hd.far n1 n2 n3 6 (.bool x6))
  have HB := Lib.hid (hbb.setCell (p := ⟨M, 6, none⟩) n9 (.bool x6))
  clear hm hr hbb hd ht hy6
  have HX6 := Lib.hid hx6
  go_wp2_with fail
  generalize wb.setCell ⟨M, 6, none⟩ (.bool x6) = wn at HM HR HD HB ⊢
  clear cM fM hx6
  refine (dg_ue HD.out HN.out (HLE.out.2.2.2.2.2.2.1)).mono ?_
  rintro e wb ⟨rfl, hd, ht⟩
  have hd : DG wb h g gB (8 * s.size) (sbit s) (k8 (sbit s) (8 * s.size)) := hd
  obtain ⟨y7, hy7⟩ : ∃ y, y = dX (k7 (sbit s) (8 * s.size)).bad (ueX (sbit s) (8 * s.size) (k7 (sbit s) (8 * s.size))) := ⟨_, rfl⟩
  rw [← hy7]
  have hb7 : 0 ≤ y7 ∧ y7 ≤ 2147483646 := by rw [hy7]; have q := ueR_bd (sbit s) (8 * s.size) (k7 (sbit s) (8 * s.size)).a (HLE.out.2.2.2.2.2.2.1); exact dX_bd q.1 q.2.1
  obtain ⟨p7, r7⟩ := hb7
  have HY7 := Lib.hid hy7
  have hm := HM.out.touch ht (fun q => by rcases q with q | q <;> omega)
  have hr := HR.out.touch ht (fun q => by rcases q with q | q <;> omega)
  have hbb := Below.touch HB.out ht (fun i hi q => by rcases q with q | q <;> omega) (Nat.le_refl _)
  have cM := hm.cell 7
  have fM := hm.frozen 7
  simp at cM
  have HM : Hid (Bk _ M 43 #[.bool x0, .bool x1, .int .i64 y2, .int .i64 y3, .int .i64 y4, .bool x5, .bool x6, .int .i64 (y7 + 1), .int .i64 0]) := Lib.hid (hm.set_ 7 (.int .i64 (y7 + 1)))
  have HR := Lib.hid (hr.far (p := ⟨M, 7, none⟩) n6 (.int .i64 (y7 + 1)))
  have HD := Lib.hid (hd.far n1 n2 n3 7 (.int .i64 (y7 + 1)))
  have HB := Lib.hid (hbb.setCell (p := ⟨M, 7, none⟩) n9 (.int .i64 (y7 + 1)))
  clear hm hr hbb hd ht hy7
  go_wp2_with fail
  generalize wb.setCell ⟨M, 7, none⟩ (.int .i64 (y7 + 1)) = wn at HM HR HD HB ⊢
  clear cM fM
  refine (dg_ue HD.out HN.out (HLE.out.2.2.2.2.2.2.2.1)).mono ?_
  rintro e wb ⟨rfl, hd, ht⟩
  have hd : DG wb h g gB (8 * s.size) (sbit s) (k9 (sbit s) (8 * s.size)) := hd
  obtain ⟨y8, hy8⟩ : ∃ y, y = dX (k8 (sbit s) (8 * s.size)).bad (ueX (sbit s) (8 * s.size) (k8 (sbit s) (8 * s.size))) := ⟨_, rfl⟩
  rw [← hy8]
  have hb8 : 0 ≤ y8 ∧ y8 ≤ 2147483646 := by rw [hy8]; have q := ueR_bd (sbit s) (8 * s.size) (k8 (sbit s) (8 * s.size)).a (HLE.out.2.2.2.2.2.2.2.1); exact dX_bd q.1 q.2.1
  obtain ⟨p8, r8⟩ := hb8
  have HY8 := Lib.hid hy8
  have hm := HM.out.touch ht (fun q => by rcases q with q | q <;> omega)
  have hr := HR.out.touch ht (fun q => by rcases q with q | q <;> omega)
  have hbb := Below.touch HB.out ht (fun i hi q => by rcases q with q | q <;> omega) (Nat.le_refl _)
  have cM := hm.cell 8
  have fM := hm.frozen 8
  simp at cM
  have HM : Hid (Bk _ M 43 #[.bool x0, .bool x1, .int .i64 y2, .int .i64 y3, .int .i64 y4, .bool x5, .bool x6, .int .i64 (y7 + 1), .int .i64 (y8 + 1)]) := Lib.hid (hm.set_ 8 (.int .i64 (y8 + 1)))
  have HR := Lib.hid (hr.far (p := ⟨M, 8, none⟩) n6 (.int .i64 (y8 + 1)))
  have HD := Lib.hid (hd.far n1 n2 n3 8 (.int .i64 (y8 + 1)))
  have HB := Lib.hid (hbb.setCell (p := ⟨M, 8, none⟩) n9 (.int .i64 (y8 + 1)))
  clear hm hr hbb hd ht hy8
  go_upto_region 12 with (fail)
  generalize wb.setCell ⟨M, 8, none⟩ (.int .i64 (y8 + 1)) = wn at HM HR HD HB ⊢
  clear cM fM
  obtain ⟨q7, h7⟩ : ∃ q, q = y7 + 1 := ⟨_, rfl⟩
  obtain ⟨q8, h8⟩ : ∃ q, q = y8 + 1 := ⟨_, rfl⟩
  have hp2 : rdPp2 (sbit s) (8 * s.size) = ⟨x0, x1, y2, y3, y4, x5, x6, q7, q8⟩ := by
    unfold rdPp2
    rw [← HY0.out, ← HY1.out, ← HY2.out, ← HY3.out, ← HY4.out, ← HY5.out, ← HY6.out, ← HY7.out, ← HY8.out, HX0.out, HX1.out, HX5.out, HX6.out, h7, h8]
  have HV2 := Lib.hid (hp2 ▸ HVV.out)
  rw [← h7, ← h8] at HM
  have d0 := HD.out.1.cell 0
  have d1 := HD.out.1.cell 1
  simp at d0 d1
  obtain ⟨bd, hbd⟩ : ∃ b, b = (k9 (sbit s) (8 * s.size)).bad := ⟨_, rfl⟩
  rw [← hbd] at d1
  have HBD := Lib.hid hbd
  rw [← h7, ← h8]
  clear h7 h8 hp2 hbd HVV HY0 HY1 HY2 HY3 HY4 HY5 HY6 HY7 HY8 HX0 HX1 HX5 HX6
  have HTR := Lib.hid (trailr_any g gB (8 * s.size) (sbit s) (k9 (sbit s) (8 * s.size)).a wn HD.out.2.1 HN.out HLE.out.2.2.2.2.2.2.2.2)
  cases bd
  · go_wp2_with fail
    refine HTR.out.mono ?_
    rintro e w3 ⟨rfl, hq⟩
    have ht := (HD.out.rd hq).2
    have HM3 := Lib.hid (HM.out.touch ht (fun q => by rcases q with q | q <;> omega))
    have HR3 := Lib.hid (HR.out.touch ht (fun q => by rcases q with q | q <;> omega))
    have HB3 := Lib.hid (Below.touch HB.out ht (fun i hi q => by rcases q with q | q <;> omega) (Nat.le_refl _))
    obtain ⟨b, hb⟩ : ∃ b, (((trailR (sbit s) (8 * s.size) (k9 (sbit s) (8 * s.size)).a).1 : Int) != 0) = b := ⟨_, rfl⟩
    have HTB := Lib.hid hb
    clear hq ht d0 d1 HTR HM HR HB
    cases b
    · have hg : VV = if mayPp ⟨x0, x1, y2, y3, y4, x5, x6, q7, q8⟩ = true then (⟨x0, x1, y2, y3, y4, x5, x6, q7, q8⟩, 0) else (.zero, 301) := by
        have h1 := HTB.out
        have h2 := HBD.out
        rw [HV2.out]
        refine if_neg ?_
        rintro (q | q)
        · rw [← h2] at q; cases q
        · rw [bne_eq_false_iff_eq] at h1; omega
      have HG0 := Lib.hid hg
      clear hg HTB
      have m0 := HM3.out.cell 0
      have m1 := HM3.out.cell 1
      have m2 := HM3.out.cell 2
      have m3 := HM3.out.cell 3
      have m4 := HM3.out.cell 4
      have m5 := HM3.out.cell 5
      have m6 := HM3.out.cell 6
      have m7 := HM3.out.cell 7
      have m8 := HM3.out.cell 8
      simp at m0 m1 m2 m3 m4 m5 m6 m7 m8
      go_wp2_with fail
      clear hb
      refine (maypp2_any ⟨x0, x1, y2, y3, y4, x5, x6, q7, q8⟩ _).mono ?_
      rintro e w5 ⟨rfl, hb5⟩
      have HR5 := Lib.hid (HR3.out.go hb5)
      have HM5 := Lib.hid (HM3.out.go hb5)
      have HB5 := Lib.hid (HB3.out.trans (hb5.mono HB3.out.size))
      clear hb5 m0 m1 m2 m3 m4 m5 m6 m7 m8 HR3 HM3 HB3
      have m0 := HM5.out.cell 0
      have m1 := HM5.out.cell 1
      have m2 := HM5.out.cell 2
      have m3 := HM5.out.cell 3
      have m4 := HM5.out.cell 4
      have m5 := HM5.out.cell 5
      have m6 := HM5.out.cell 6
      have m7 := HM5.out.cell 7
      have m8 := HM5.out.cell 8
      simp at m0 m1 m2 m3 m4 m5 m6 m7 m8
      cases hmy : mayPp ⟨x0, x1, y2, y3, y4, x5, x6, q7, q8⟩
      · have hg : VV = (.zero, 301) := by rw [HG0.out, hmy]; rfl
        have HG := Lib.hid hg
        clear hg hmy
        have c0 := HR5.out.cell 0
        have f0 := HR5.out.frozen 0
        have c1 := HR5.out.cell 1
        have f1 := HR5.out.frozen 1
        have c2 := HR5.out.cell 2
        have f2 := HR5.out.frozen 2
        have c3 := HR5.out.cell 3
        have f3 := HR5.out.frozen 3
        have c4 := HR5.out.cell 4
        have f4 := HR5.out.frozen 4
        have c5 := HR5.out.cell 5
        have f5 := HR5.out.frozen 5
        have c6 := HR5.out.cell 6
        have f6 := HR5.out.frozen 6
        have c7 := HR5.out.cell 7
        have f7 := HR5.out.frozen 7
        have c8 := HR5.out.cell 8
        have f8 := HR5.out.frozen 8
        simp at c0 c1 c2 c3 c4 c5 c6 c7 c8
        go_wp2_with fail
        have hq := pp_put (p0 := .zero) .zero HR5.out
        simp only [Pp.zero] at hq
        generalize (((((((((w5.setCell ⟨R, 0, none⟩ (.bool false)).setCell ⟨R, 1, none⟩ (.bool false)).setCell ⟨R, 2, none⟩ (.int .i64 0)).setCell ⟨R, 3, none⟩ (.int .i64 0)).setCell ⟨R, 4, none⟩ (.int .i64 0)).setCell ⟨R, 5, none⟩ (.bool false)).setCell ⟨R, 6, none⟩ (.bool false)).setCell ⟨R, 7, none⟩ (.int .i64 0)).setCell ⟨R, 8, none⟩ (.int .i64 0)) = w9 at hq ⊢
        have hb9 := Below.touch HB5.out hq.2 (fun i hi q => by omega) (Nat.le_refl _)
        have HB9 := Lib.hid hb9
        clear c0 c1 c2 c3 c4 c5 c6 c7 c8 f0 f1 f2 f3 f4 f5 f6 f7 f8
        have d0 := hq.1.cell 0
        have d1 := hq.1.cell 1
        have d2 := hq.1.cell 2
        have d3 := hq.1.cell 3
        have d4 := hq.1.cell 4
        have d5 := hq.1.cell 5
        have d6 := hq.1.cell 6
        have d7 := hq.1.cell 7
        have d8 := hq.1.cell 8
        simp [ppV, Pp.zero] at d0 d1 d2 d3 d4 d5 d6 d7 d8
        clear hb9
        exact bodyPost_ret (v := .tuple #[.agg #[.bool false, .bool false, .int .i64 0, .int .i64 0, .int .i64 0, .bool false, .bool false, .int .i64 0, .int .i64 0], .int .i64 301]) (by simp [results, Try.results25, go_sem, d0, d1, d2, d3, d4, d5, d6, d7, d8]) rfl ⟨by rw [HG.out]; rfl, HB9.out⟩
      · have hg : VV = (⟨x0, x1, y2, y3, y4, x5, x6, q7, q8⟩, 0) := by rw [HG0.out, hmy]; rfl
        have HG := Lib.hid hg
        clear hg hmy
        have c0 := HR5.out.cell 0
        have f0 := HR5.out.frozen 0
        have c1 := HR5.out.cell 1
        have f1 := HR5.out.frozen 1
        have c2 := HR5.out.cell 2
        have f2 := HR5.out.frozen 2
        have c3 := HR5.out.cell 3
        have f3 := HR5.out.frozen 3
        have c4 := HR5.out.cell 4
        have f4 := HR5.out.frozen 4
        have c5 := HR5.out.cell 5
        have f5 := HR5.out.frozen 5
        have c6 := HR5.out.cell 6
        have f6 := HR5.out.frozen 6
        have c7 := HR5.out.cell 7
        have f7 := HR5.out.frozen 7
        have c8 := HR5.out.cell 8
        have f8 := HR5.out.frozen 8
        simp at c0 c1 c2 c3 c4 c5 c6 c7 c8
        go_wp2_with fail
        have hq := pp_put (p0 := .zero) ⟨x0, x1, y2, y3, y4, x5, x6, q7, q8⟩ HR5.out
        simp only at hq
        generalize (((((((((w5.setCell ⟨R, 0, none⟩ (.bool x0)).setCell ⟨R, 1, none⟩ (.bool x1)).setCell ⟨R, 2, none⟩ (.int .i64 y2)).setCell ⟨R, 3, none⟩ (.int .i64 y3)).setCell ⟨R, 4, none⟩ (.int .i64 y4)).setCell ⟨R, 5, none⟩ (.bool x5)).setCell ⟨R, 6, none⟩ (.bool x6)).setCell ⟨R, 7, none⟩ (.int .i64 q7)).setCell ⟨R, 8, none⟩ (.int .i64 q8)) = w9 at hq ⊢
        have hb9 := Below.touch HB5.out hq.2 (fun i hi q => by omega) (Nat.le_refl _)
        have HB9 := Lib.hid hb9
        clear c0 c1 c2 c3 c4 c5 c6 c7 c8 f0 f1 f2 f3 f4 f5 f6 f7 f8
        have d0 := hq.1.cell 0
        have d1 := hq.1.cell 1
        have d2 := hq.1.cell 2
        have d3 := hq.1.cell 3
        have d4 := hq.1.cell 4
        have d5 := hq.1.cell 5
        have d6 := hq.1.cell 6
        have d7 := hq.1.cell 7
        have d8 := hq.1.cell 8
        simp [ppV, Pp.zero] at d0 d1 d2 d3 d4 d5 d6 d7 d8
        clear hb9
        exact bodyPost_ret (v := .tuple #[.agg #[.bool x0, .bool x1, .int .i64 y2, .int .i64 y3, .int .i64 y4, .bool x5, .bool x6, .int .i64 q7, .int .i64 q8], .int .i64 0]) (by simp [results, Try.results25, go_sem, d0, d1, d2, d3, d4, d5, d6, d7, d8]) rfl ⟨by rw [HG.out]; rfl, HB9.out⟩
    · have hg : VV = (.zero, 300) := by
        have h1 := HTB.out
        rw [HV2.out]
        refine if_pos (.inr ?_)
        rw [bne_iff_ne] at h1
        omega
      have HG := Lib.hid hg
      clear hg HTB
      have c0 := HR3.out.cell 0
      have f0 := HR3.out.frozen 0
      have c1 := HR3.out.cell 1
      have f1 := HR3.out.frozen 1
      have c2 := HR3.out.cell 2
      have f2 := HR3.out.frozen 2
      have c3 := HR3.out.cell 3
      have f3 := HR3.out.frozen 3
      have c4 := HR3.out.cell 4
      have f4 := HR3.out.frozen 4
      have c5 := HR3.out.cell 5
      have f5 := HR3.out.frozen 5
      have c6 := HR3.out.cell 6
      have f6 := HR3.out.frozen 6
      have c7 := HR3.out.cell 7
      have f7 := HR3.out.frozen 7
      have c8 := HR3.out.cell 8
      have f8 := HR3.out.frozen 8
      simp at c0 c1 c2 c3 c4 c5 c6 c7 c8
      go_wp2_with fail
      have hq := pp_put (p0 := .zero) .zero HR3.out
      simp only [Pp.zero] at hq
      generalize (((((((((w3.setCell ⟨R, 0, none⟩ (.bool false)).setCell ⟨R, 1, none⟩ (.bool false)).setCell ⟨R, 2, none⟩ (.int .i64 0)).setCell ⟨R, 3, none⟩ (.int .i64 0)).setCell ⟨R, 4, none⟩ (.int .i64 0)).setCell ⟨R, 5, none⟩ (.bool false)).setCell ⟨R, 6, none⟩ (.bool false)).setCell ⟨R, 7, none⟩ (.int .i64 0)).setCell ⟨R, 8, none⟩ (.int .i64 0)) = w9 at hq ⊢
      have hb9 := Below.touch HB3.out hq.2 (fun i hi q => by omega) (Nat.le_refl _)
      have HB9 := Lib.hid hb9
      clear c0 c1 c2 c3 c4 c5 c6 c7 c8 f0 f1 f2 f3 f4 f5 f6 f7 f8
      have d0 := hq.1.cell 0
      have d1 := hq.1.cell 1
      have d2 := hq.1.cell 2
      have d3 := hq.1.cell 3
      have d4 := hq.1.cell 4
      have d5 := hq.1.cell 5
      have d6 := hq.1.cell 6
      have d7 := hq.1.cell 7
      have d8 := hq.1.cell 8
      simp [ppV, Pp.zero] at d0 d1 d2 d3 d4 d5 d6 d7 d8
      clear hb9
      exact bodyPost_ret (v := .tuple #[.agg #[.bool false, .bool false, .int .i64 0, .int .i64 0, .int .i64 0, .bool false, .bool false, .int .i64 0, .int .i64 0], .int .i64 300]) (by simp [results, Try.results25, go_sem, d0, d1, d2, d3, d4, d5, d6, d7, d8]) rfl ⟨by rw [HG.out]; rfl, HB9.out⟩
  · have hg : VV = (.zero, 300) := by rw [HV2.out]; exact if_pos (.inl HBD.out.symm)
    have HG := Lib.hid hg
    clear hg HTR
    have c0 := HR.out.cell 0
    have f0 := HR.out.frozen 0
    have c1 := HR.out.cell 1
    have f1 := HR.out.frozen 1
    have c2 := HR.out.cell 2
    have f2 := HR.out.frozen 2
    have c3 := HR.out.cell 3
    have f3 := HR.out.frozen 3
    have c4 := HR.out.cell 4
    have f4 := HR.out.frozen 4
    have c5 := HR.out.cell 5
    have f5 := HR.out.frozen 5
    have c6 := HR.out.cell 6
    have f6 := HR.out.frozen 6
    have c7 := HR.out.cell 7
    have f7 := HR.out.frozen 7
    have c8 := HR.out.cell 8
    have f8 := HR.out.frozen 8
    simp at c0 c1 c2 c3 c4 c5 c6 c7 c8
    go_wp2_with fail
    have hq := pp_put (p0 := .zero) .zero HR.out
    simp only [Pp.zero] at hq
    generalize (((((((((wn.setCell ⟨R, 0, none⟩ (.bool false)).setCell ⟨R, 1, none⟩ (.bool false)).setCell ⟨R, 2, none⟩ (.int .i64 0)).setCell ⟨R, 3, none⟩ (.int .i64 0)).setCell ⟨R, 4, none⟩ (.int .i64 0)).setCell ⟨R, 5, none⟩ (.bool false)).setCell ⟨R, 6, none⟩ (.bool false)).setCell ⟨R, 7, none⟩ (.int .i64 0)).setCell ⟨R, 8, none⟩ (.int .i64 0)) = w9 at hq ⊢
    have hb9 := Below.touch HB.out hq.2 (fun i hi q => by omega) (Nat.le_refl _)
    have HB9 := Lib.hid hb9
    clear c0 c1 c2 c3 c4 c5 c6 c7 c8 f0 f1 f2 f3 f4 f5 f6 f7 f8
    have d0 := hq.1.cell 0
    have d1 := hq.1.cell 1
    have d2 := hq.1.cell 2
    have d3 := hq.1.cell 3
    have d4 := hq.1.cell 4
    have d5 := hq.1.cell 5
    have d6 := hq.1.cell 6
    have d7 := hq.1.cell 7
    have d8 := hq.1.cell 8
    simp [ppV, Pp.zero] at d0 d1 d2 d3 d4 d5 d6 d7 d8
    clear hb9
    exact bodyPost_ret (v := .tuple #[.agg #[.bool false, .bool false, .int .i64 0, .int .i64 0, .int .i64 0, .bool false, .bool false, .int .i64 0, .int .i64 0], .int .i64 300]) (by simp [results, Try.results25, go_sem, d0, d1, d2, d3, d4, d5, d6, d7, d8]) rfl ⟨by rw [HG.out]; rfl, HB9.out⟩
end Go.Proofs.Ytegfglpaabddlaa
