/- HeadKeys: what a key's header may have, and another's. Printed by gen-lawk.py. -/
import Derived.Test.YtjokibagciehlaaHeaZ
import Derived.Deep.DeepCutAuto
import Derived.Test.YtjokibagciehlaaMask
namespace Go.Proofs.Ytjokibagciehlaa
open Go.RowKit
set_option linter.unusedVariables false
set_option linter.unusedSimpArgs false

attribute [local go_sem] and_7 and_1
def kB (x : Int) : Hd := { tH with fn := x }
def kC (x : Int) : Hd := { tH with id := x }
def kD : Hd := { tH with longKey := true }
def kE : Hd := { tH with ops := [⟨5, 0, 0⟩] }
def kF : Hd := { tH with type := 0, a0 := 1 }
theorem key_b {x r : Int} {key : Bool} (hx : 1 ≤ x ∧ x ≤ 8) (hr : r = 0 ∨ r = 1) : mayHd (kB x) tS tP r key = !key := by
  have h : x = 1 ∨ x = 2 ∨ x = 3 ∨ x = 4 ∨ x = 5 ∨ x = 6 ∨ x = 7 ∨ x = 8 := by omega
  rcases hr with rfl | rfl <;> rcases h with rfl | rfl | rfl | rfl | rfl | rfl | rfl | rfl <;> cases key <;> decide
theorem key_c {x r : Int} {key : Bool} (hx : 1 ≤ x ∧ x ≤ 8) (hr : r = 0 ∨ r = 1) : mayHd (kC x) tS tP r key = key := by
  have h : x = 1 ∨ x = 2 ∨ x = 3 ∨ x = 4 ∨ x = 5 ∨ x = 6 ∨ x = 7 ∨ x = 8 := by omega
  rcases hr with rfl | rfl <;> rcases h with rfl | rfl | rfl | rfl | rfl | rfl | rfl | rfl <;> cases key <;> decide
theorem key_d {key ref : Bool} : mayHd kD tS tP (if ref = true then 1 else 0) key = (key && ref) := by cases key <;> cases ref <;> decide
theorem key_e {key ref : Bool} : mayHd kE tS tP (if ref = true then 1 else 0) key = (!key && ref) := by cases key <;> cases ref <;> decide
theorem key_f {r : Int} {key : Bool} (hr : r = 0 ∨ r = 1) : mayHd kF tS tP r key = !key := by rcases hr with rfl | rfl <;> cases key <;> decide
theorem hnil0 (w : World) (h : Hd) (e : h.ls = ⟨[], [], [], [], []⟩) (q : Ha) : HdAt w w.heap.size h q := by
  obtain ⟨c1, c2, c3, c4, c5, c6, c7, c8, c9, m0, m1, c12, c13, w0, w1, c16, ops, c18, c19, c20, c21⟩ := h
  injection e with e1 e2 e3 e4 e5
  simp only at e1 e2 e3 e4 e5
  subst e1 e2 e3 e4 e5
  exact ⟨RwAt.nil _ _ _ _ _, RwAt.nil _ _ _ _ _, RwAt.nil _ _ _ _ _, RwAt.nil _ _ _ _ _, RwAt.nil _ _ _ _ _⟩
theorem hlen0 (h : Hd) (e : h.ls = ⟨[], [], [], [], []⟩) : HdLen h := by
  obtain ⟨c1, c2, c3, c4, c5, c6, c7, c8, c9, m0, m1, c12, c13, w0, w1, c16, ops, c18, c19, c20, c21⟩ := h
  injection e with e1 e2 e3 e4 e5
  simp only at e1 e2 e3 e4 e5
  subst e1 e2 e3 e4 e5
  exact ⟨by simp, by simp, by simp, by simp, by simp⟩
theorem ops_one (v : World) (b : Nat) (h : Bk v b 37 #[.int .i64 5, .int .i64 0, .int .i64 0]) : RwAt v v.heap.size (some ⟨b, 0, none⟩) 3 moF [(⟨5, 0, 0⟩ : Mo)] := fun _ => ⟨_, rfl, h.lt, fun k hk => by
  have hk0 : k = 0 := by simp at hk; omega
  subst hk0
  refine ⟨h.cell 0, fun j h0 hj => ?_⟩
  have h12 : j = 1 ∨ j = 2 := by omega
  rcases h12 with rfl | rfl
  · exact h.cell 1
  · exact h.cell 2⟩
/-- a box of a copy -/
theorem copy_new (w : World) : Bk ((w.alloc (.cells (hdV Hd.zero Ha.zero) 32)).setRow w.heap.size (hdV tH Ha.zero)) w.heap.size 32 (hdV tH Ha.zero) ∧ Below w.heap.size w ((w.alloc (.cells (hdV Hd.zero Ha.zero) 32)).setRow w.heap.size (hdV tH Ha.zero)) :=
  ⟨bk_setRow (Bk.new w 32 (hdV Hd.zero Ha.zero)), (touch_setRow (Touch.of_new (S := fun _ => False) ((Below.refl w.heap.size w).alloc (Nat.le_refl _) (.cells (hdV Hd.zero Ha.zero) 32))) _ _ (by omega)).below (fun _ h => h.elim) (Nat.le_refl _)⟩
set_option maxRecDepth 100000 in
set_option maxHeartbeats 12800000 in
theorem walk_HeadKeys (a0 : Int) (a1 : Int) (w : World) (w_a0 : (Lit.int .i64 a0).wf = true) (w_a1 : (Lit.int .i64 a1).wf = true) :
    Calls Try.prog 3 #[.int .i64 a0, .int .i64 a1] w fun e w' => e = .returned (.bool true) ∧ Below w.heap.size w w' := by
  clear w_a0 w_a1
  have b0 : 0 ≤ a1 % 8 := Int.emod_nonneg _ (by decide)
  have b1 : a1 % 8 < 8 := Int.emod_lt_of_pos _ (by decide)
  have HBD := Lib.hid (And.intro b0 b1)
  go_enter Try.func3, Try.ntmps3
  go_wp2_with fail
  refine (awake_any w).mono ?_
  rintro e wa ⟨rfl, hba⟩
  have HBA := Lib.hid hba
  clear hba
  go_upto_region 3 with fail
  refine wp_region_lit ?_
  refine tiny_run (N := 118) 21 20 22 23 24 5 6 7 rfl rfl rfl rfl rfl rfl rfl rfl rfl rfl rfl rfl rfl rfl rfl rfl rfl rfl rfl rfl rfl rfl rfl rfl rfl rfl rfl rfl rfl rfl rfl rfl rfl rfl (by decide) (by decide) ?_
  intro w1 hb1
  have HN := Lib.hid (Tn.new (HBA.out.trans (hb1.mono HBA.out.size)))
  obtain ⟨n, hn⟩ : ∃ n, w1.heap.size = n := ⟨_, rfl⟩
  obtain ⟨w4, hw4⟩ : ∃ w4, tnW w1 = w4 := ⟨_, rfl⟩
  rw [hw4, hn] at HN ⊢
  clear hw4 hb1 hn HBA
  go_upto_region 5 with fail
  obtain ⟨x, hx⟩ : ∃ x, 1 + a1 % 8 = x := ⟨_, rfl⟩
  have hxb : 1 ≤ x ∧ x ≤ 8 := by omega
  try rw [hx]
  clear b0 b1 HBD
  have HXB := Lib.hid hxb
  clear hxb hx
  refine wp_region_lit ?_
  refine wpl_val rfl (run_load_row rfl rfl (load_head HN.out.k3)) ?_
  refine wpl_val rfl (run_load_row rfl rfl (load_sps HN.out.k1)) ?_
  refine wpl_val rfl (run_load_row rfl rfl (load_pps HN.out.k2)) ?_
  refine wpl_call rfl (f := 10) (args := #[.agg (hdV tH Ha.zero), .agg (spV tS none 0), .agg (ppV tP), .int .i64 1, .bool true]) (by kernel_rfl) ?_
  refine ((show mayHd tH tS tP 1 true = true by decide) ▸ mayhd_any tH Ha.zero tS none 0 tP 1 true w4 (hnil0 _ tH rfl _) (hlen0 tH rfl) (Rd.zero w4 w4.heap.size none _ : Rd w4 w4.heap.size none 0 _) (by decide)).mono ?_
  rintro e v0 ⟨rfl, hb⟩
  refine ⟨_, rfl, ?_⟩
  have HN := Lib.hid (HN.out.go hb)
  clear hb
  go_upto_region 6 with fail
  refine wp_region_lit ?_
  refine wpl_val rfl (run_load_row rfl rfl (load_head HN.out.k3)) ?_
  refine wpl_val rfl (run_alloc_head _ _ _ rfl) ?_
  obtain ⟨kn, hbn⟩ := copy_new v0
  refine wpList_store_row rfl _ _ _ rfl v0.heap.size (hdV tH Ha.zero) rfl rfl _ _ (Bk.new v0 32 (hdV Hd.zero Ha.zero)) (by kernel_rfl) rfl (hd_one _ _) ?_
  obtain ⟨u0, hu⟩ : ∃ u, (v0.alloc (.cells (hdV Hd.zero Ha.zero) 32)).setRow v0.heap.size (hdV tH Ha.zero) = u := ⟨_, rfl⟩
  rw [hu] at kn hbn ⊢
  clear hu
  obtain ⟨bB, hbs⟩ : ∃ b, v0.heap.size = b := ⟨_, rfl⟩
  have hgeB : w.heap.size ≤ bB := by have := HN.out.below.size; omega
  have hgt : n + 1 + 1 < bB := by have := HN.out.k3.lt; omega
  rw [hbs] at kn hbn ⊢
  replace HN := Lib.hid (HN.out.go (hbs ▸ hbn))
  have KN := Lib.hid kn
  clear kn hbn hbs
  have c3 := KN.out.cell 3
  have f3 := KN.out.frozen 3
  simp [hdV, tH, Hd.zero] at c3
  go_upto_region 8 with fail
  obtain ⟨v1, hv⟩ : ∃ v, (u0.setCell ⟨bB, 3, none⟩ (.int .i64 x)) = v := ⟨_, rfl⟩
  rw [hv]
  have KB : Hid (Bk v1 bB 32 (hdV (kB x) Ha.zero)) := Lib.hid (hv ▸ (KN.out.set_ 3 (.int .i64 x)))
  replace HN : Hid (Tn w v1 n tS tP tH Ha.zero) := Lib.hid (hv ▸ ⟨(HN.out.k1.far (p := ⟨bB, 3, none⟩) (by show n ≠ bB; omega) (.int .i64 x)), (HN.out.k2.far (p := ⟨bB, 3, none⟩) (by show n + 1 ≠ bB; omega) (.int .i64 x)), (HN.out.k3.far (p := ⟨bB, 3, none⟩) (by show n + 1 + 1 ≠ bB; omega) (.int .i64 x)), (HN.out.below.setCell (by show w.heap.size ≤ bB; omega) (.int .i64 x)), HN.out.ge⟩)
  have hneB : n + 1 + 1 < bB := hgt
  clear hgt hv KN c3 f3
  have hltB : bB < v1.heap.size := KB.out.lt
  go_upto_region 8 with fail
  refine wp_region_lit ?_
  refine wpl_val rfl (run_load_row rfl rfl (load_head HN.out.k3)) ?_
  refine wpl_val rfl (run_alloc_head _ _ _ rfl) ?_
  obtain ⟨kn, hbn⟩ := copy_new v1
  refine wpList_store_row rfl _ _ _ rfl v1.heap.size (hdV tH Ha.zero) rfl rfl _ _ (Bk.new v1 32 (hdV Hd.zero Ha.zero)) (by kernel_rfl) rfl (hd_one _ _) ?_
  obtain ⟨u1, hu⟩ : ∃ u, (v1.alloc (.cells (hdV Hd.zero Ha.zero) 32)).setRow v1.heap.size (hdV tH Ha.zero) = u := ⟨_, rfl⟩
  rw [hu] at kn hbn ⊢
  clear hu
  obtain ⟨bC, hbs⟩ : ∃ b, v1.heap.size = b := ⟨_, rfl⟩
  have hgeC : w.heap.size ≤ bC := by have := HN.out.below.size; omega
  have hgt : n + 1 + 1 < bC := by have := HN.out.k3.lt; omega
  rw [hbs] at kn hbn ⊢
  have hoBC : bB < bC := by have := KB.out.lt; omega
  replace HN := Lib.hid (HN.out.go (hbs ▸ hbn))
  replace KB := Lib.hid (KB.out.go (hbs ▸ hbn))
  have KN := Lib.hid kn
  clear kn hbn hbs
  have c4 := KN.out.cell 4
  have f4 := KN.out.frozen 4
  simp [hdV, tH, Hd.zero] at c4
  go_upto_region 10 with fail
  obtain ⟨v2, hv⟩ : ∃ v, (u1.setCell ⟨bC, 4, none⟩ (.int .i64 x)) = v := ⟨_, rfl⟩
  rw [hv]
  have KC : Hid (Bk v2 bC 32 (hdV (kC x) Ha.zero)) := Lib.hid (hv ▸ (KN.out.set_ 4 (.int .i64 x)))
  replace HN : Hid (Tn w v2 n tS tP tH Ha.zero) := Lib.hid (hv ▸ ⟨(HN.out.k1.far (p := ⟨bC, 4, none⟩) (by show n ≠ bC; omega) (.int .i64 x)), (HN.out.k2.far (p := ⟨bC, 4, none⟩) (by show n + 1 ≠ bC; omega) (.int .i64 x)), (HN.out.k3.far (p := ⟨bC, 4, none⟩) (by show n + 1 + 1 ≠ bC; omega) (.int .i64 x)), (HN.out.below.setCell (by show w.heap.size ≤ bC; omega) (.int .i64 x)), HN.out.ge⟩)
  replace KB := Lib.hid (hv ▸ (KB.out.far (p := ⟨bC, 4, none⟩) (by show bB ≠ bC; omega) (.int .i64 x)) : Bk v2 bB 32 (hdV (kB x) Ha.zero))
  have hneC : n + 1 + 1 < bC := hgt
  clear hgt hv KN c4 f4
  have hltC : bC < v2.heap.size := KC.out.lt
  go_upto_region 10 with fail
  refine wp_region_lit ?_
  refine wpl_val rfl (run_load_row rfl rfl (load_head HN.out.k3)) ?_
  refine wpl_val rfl (run_alloc_head _ _ _ rfl) ?_
  obtain ⟨kn, hbn⟩ := copy_new v2
  refine wpList_store_row rfl _ _ _ rfl v2.heap.size (hdV tH Ha.zero) rfl rfl _ _ (Bk.new v2 32 (hdV Hd.zero Ha.zero)) (by kernel_rfl) rfl (hd_one _ _) ?_
  obtain ⟨u2, hu⟩ : ∃ u, (v2.alloc (.cells (hdV Hd.zero Ha.zero) 32)).setRow v2.heap.size (hdV tH Ha.zero) = u := ⟨_, rfl⟩
  rw [hu] at kn hbn ⊢
  clear hu
  obtain ⟨bD, hbs⟩ : ∃ b, v2.heap.size = b := ⟨_, rfl⟩
  have hgeD : w.heap.size ≤ bD := by have := HN.out.below.size; omega
  have hgt : n + 1 + 1 < bD := by have := HN.out.k3.lt; omega
  rw [hbs] at kn hbn ⊢
  have hoBD : bB < bD := by have := KB.out.lt; omega
  have hoCD : bC < bD := by have := KC.out.lt; omega
  replace HN := Lib.hid (HN.out.go (hbs ▸ hbn))
  replace KB := Lib.hid (KB.out.go (hbs ▸ hbn))
  replace KC := Lib.hid (KC.out.go (hbs ▸ hbn))
  have KN := Lib.hid kn
  clear kn hbn hbs
  have c15 := KN.out.cell 15
  have f15 := KN.out.frozen 15
  simp [hdV, tH, Hd.zero] at c15
  go_upto_region 12 with fail
  obtain ⟨v3, hv⟩ : ∃ v, (u2.setCell ⟨bD, 15, none⟩ (.bool true)) = v := ⟨_, rfl⟩
  rw [hv]
  have KD : Hid (Bk v3 bD 32 (hdV (kD) Ha.zero)) := Lib.hid (hv ▸ (KN.out.set_ 15 (.bool true)))
  replace HN : Hid (Tn w v3 n tS tP tH Ha.zero) := Lib.hid (hv ▸ ⟨(HN.out.k1.far (p := ⟨bD, 15, none⟩) (by show n ≠ bD; omega) (.bool true)), (HN.out.k2.far (p := ⟨bD, 15, none⟩) (by show n + 1 ≠ bD; omega) (.bool true)), (HN.out.k3.far (p := ⟨bD, 15, none⟩) (by show n + 1 + 1 ≠ bD; omega) (.bool true)), (HN.out.below.setCell (by show w.heap.size ≤ bD; omega) (.bool true)), HN.out.ge⟩)
  replace KB := Lib.hid (hv ▸ (KB.out.far (p := ⟨bD, 15, none⟩) (by show bB ≠ bD; omega) (.bool true)) : Bk v3 bB 32 (hdV (kB x) Ha.zero))
  replace KC := Lib.hid (hv ▸ (KC.out.far (p := ⟨bD, 15, none⟩) (by show bC ≠ bD; omega) (.bool true)) : Bk v3 bC 32 (hdV (kC x) Ha.zero))
  have hneD : n + 1 + 1 < bD := hgt
  clear hgt hv KN c15 f15
  have hltD : bD < v3.heap.size := KD.out.lt
  go_upto_region 12 with fail
  refine wp_region_lit ?_
  refine wpl_val rfl (run_load_row rfl rfl (load_head HN.out.k3)) ?_
  refine wpl_val rfl (run_alloc_head _ _ _ rfl) ?_
  obtain ⟨kn, hbn⟩ := copy_new v3
  refine wpList_store_row rfl _ _ _ rfl v3.heap.size (hdV tH Ha.zero) rfl rfl _ _ (Bk.new v3 32 (hdV Hd.zero Ha.zero)) (by kernel_rfl) rfl (hd_one _ _) ?_
  obtain ⟨u3, hu⟩ : ∃ u, (v3.alloc (.cells (hdV Hd.zero Ha.zero) 32)).setRow v3.heap.size (hdV tH Ha.zero) = u := ⟨_, rfl⟩
  rw [hu] at kn hbn ⊢
  clear hu
  obtain ⟨bE, hbs⟩ : ∃ b, v3.heap.size = b := ⟨_, rfl⟩
  have hgeE : w.heap.size ≤ bE := by have := HN.out.below.size; omega
  have hgt : n + 1 + 1 < bE := by have := HN.out.k3.lt; omega
  rw [hbs] at kn hbn ⊢
  have hoBE : bB < bE := by have := KB.out.lt; omega
  have hoCE : bC < bE := by have := KC.out.lt; omega
  have hoDE : bD < bE := by have := KD.out.lt; omega
  replace HN := Lib.hid (HN.out.go (hbs ▸ hbn))
  replace KB := Lib.hid (KB.out.go (hbs ▸ hbn))
  replace KC := Lib.hid (KC.out.go (hbs ▸ hbn))
  replace KD := Lib.hid (KD.out.go (hbs ▸ hbn))
  have KN := Lib.hid kn
  clear kn hbn hbs
  have c16 := KN.out.cell 16
  have f16 := KN.out.frozen 16
  simp [hdV, tH, Hd.zero] at c16
  have hbl : bE < u3.heap.size := KN.out.lt
  have hbne : ¬ bE = u3.heap.size := by omega
  go_upto_region 14 with fail
  obtain ⟨bO, hbO⟩ : ∃ b, u3.heap.size = b := ⟨_, rfl⟩
  rw [hbO] at hbl ⊢
  have KO := bO
  obtain ⟨u4, hu4⟩ : ∃ v, u3.setCell ⟨bE, 16, none⟩ (.slice (some ⟨bO, 0, none⟩) 1 1) = v := ⟨_, rfl⟩
  rw [hu4]
  have hsz : u4.heap.size = bO := by rw [← hu4, ← hbO]; exact World.size_setCell _ _ _
  have k1 : Bk u4 bE 32 (hdV kE { Ha.zero with ops := some ⟨bO, 0, none⟩, cops := 1 }) := hu4 ▸ KN.out.set_ 16 (.slice (some ⟨bO, 0, none⟩) 1 1)
  replace HN : Hid (Tn w u4 n tS tP tH Ha.zero) := Lib.hid (hu4 ▸ ⟨(HN.out.k1.far (p := ⟨bE, 16, none⟩) (by show n ≠ bE; omega) (.slice (some ⟨bO, 0, none⟩) 1 1)), (HN.out.k2.far (p := ⟨bE, 16, none⟩) (by show n + 1 ≠ bE; omega) (.slice (some ⟨bO, 0, none⟩) 1 1)), (HN.out.k3.far (p := ⟨bE, 16, none⟩) (by show n + 1 + 1 ≠ bE; omega) (.slice (some ⟨bO, 0, none⟩) 1 1)), (HN.out.below.setCell (by show w.heap.size ≤ bE; omega) (.slice (some ⟨bO, 0, none⟩) 1 1)), HN.out.ge⟩)
  replace KB := Lib.hid (hu4 ▸ (KB.out.far (p := ⟨bE, 16, none⟩) (by show bB ≠ bE; omega) (.slice (some ⟨bO, 0, none⟩) 1 1)) : Bk u4 bB 32 (hdV (kB x) Ha.zero))
  replace KC := Lib.hid (hu4 ▸ (KC.out.far (p := ⟨bE, 16, none⟩) (by show bC ≠ bE; omega) (.slice (some ⟨bO, 0, none⟩) 1 1)) : Bk u4 bC 32 (hdV (kC x) Ha.zero))
  replace KD := Lib.hid (hu4 ▸ (KD.out.far (p := ⟨bE, 16, none⟩) (by show bD ≠ bE; omega) (.slice (some ⟨bO, 0, none⟩) 1 1)) : Bk u4 bD 32 (hdV (kD) Ha.zero))
  clear KO
  have KO := Lib.hid (hsz ▸ Bk.new u4 37 #[.int .i64 5, .int .i64 0, .int .i64 0] : Bk (u4.alloc (.cells #[.int .i64 5, .int .i64 0, .int .i64 0] 37)) bO 37 #[.int .i64 5, .int .i64 0, .int .i64 0])
  have hb4 := (Below.refl u4.heap.size u4).alloc (Nat.le_refl _) (.cells #[.int .i64 5, .int .i64 0, .int .i64 0] 37)
  obtain ⟨v4, hv⟩ : ∃ v, u4.alloc (.cells #[.int .i64 5, .int .i64 0, .int .i64 0] 37) = v := ⟨_, rfl⟩
  rw [hv] at hb4 KO ⊢
  replace HN := Lib.hid (HN.out.go hb4)
  have KE := Lib.hid (k1.go hb4)
  replace KB := Lib.hid (KB.out.go hb4)
  replace KC := Lib.hid (KC.out.go hb4)
  replace KD := Lib.hid (KD.out.go hb4)
  have hEO : bE < bO := hbl
  have hltO : bO < v4.heap.size := KO.out.lt
  clear hb4 k1 hbO hu4 hsz hbl hbne
  have hneE : n + 1 + 1 < bE := hgt
  clear hgt hv KN c16 f16
  have hltE : bE < v4.heap.size := KE.out.lt
  go_upto_region 14 with fail
  refine wp_region_lit ?_
  refine wpl_val rfl (run_load_row rfl rfl (load_head HN.out.k3)) ?_
  refine wpl_val rfl (run_alloc_head _ _ _ rfl) ?_
  obtain ⟨kn, hbn⟩ := copy_new v4
  refine wpList_store_row rfl _ _ _ rfl v4.heap.size (hdV tH Ha.zero) rfl rfl _ _ (Bk.new v4 32 (hdV Hd.zero Ha.zero)) (by kernel_rfl) rfl (hd_one _ _) ?_
  obtain ⟨u4, hu⟩ : ∃ u, (v4.alloc (.cells (hdV Hd.zero Ha.zero) 32)).setRow v4.heap.size (hdV tH Ha.zero) = u := ⟨_, rfl⟩
  rw [hu] at kn hbn ⊢
  clear hu
  obtain ⟨bF, hbs⟩ : ∃ b, v4.heap.size = b := ⟨_, rfl⟩
  have hgeF : w.heap.size ≤ bF := by have := HN.out.below.size; omega
  have hgt : n + 1 + 1 < bF := by have := HN.out.k3.lt; omega
  rw [hbs] at kn hbn ⊢
  have hoBF : bB < bF := by have := KB.out.lt; omega
  have hoCF : bC < bF := by have := KC.out.lt; omega
  have hoDF : bD < bF := by have := KD.out.lt; omega
  have hoEF : bE < bF := by have := KE.out.lt; omega
  have hoOF : bO < bF := by have := KO.out.lt; omega
  replace HN := Lib.hid (HN.out.go (hbs ▸ hbn))
  replace KB := Lib.hid (KB.out.go (hbs ▸ hbn))
  replace KC := Lib.hid (KC.out.go (hbs ▸ hbn))
  replace KD := Lib.hid (KD.out.go (hbs ▸ hbn))
  replace KE := Lib.hid (KE.out.go (hbs ▸ hbn))
  replace KO := Lib.hid (KO.out.go (hbs ▸ hbn))
  have KN := Lib.hid kn
  clear kn hbn hbs
  have c2 := KN.out.cell 2
  have f2 := KN.out.frozen 2
  simp [hdV, tH, Hd.zero] at c2
  have c7 := KN.out.cell 7
  have f7 := KN.out.frozen 7
  simp [hdV, tH, Hd.zero] at c7
  go_upto_region 17 with fail
  obtain ⟨v5, hv⟩ : ∃ v, ((u4.setCell ⟨bF, 2, none⟩ (.int .i64 0)).setCell ⟨bF, 7, none⟩ (.int .i64 1)) = v := ⟨_, rfl⟩
  rw [hv]
  have KF : Hid (Bk v5 bF 32 (hdV (kF) Ha.zero)) := Lib.hid (hv ▸ ((KN.out.set_ 2 (.int .i64 0)).set_ 7 (.int .i64 1)))
  replace HN : Hid (Tn w v5 n tS tP tH Ha.zero) := Lib.hid (hv ▸ ⟨((HN.out.k1.far (p := ⟨bF, 2, none⟩) (by show n ≠ bF; omega) (.int .i64 0)).far (p := ⟨bF, 7, none⟩) (by show n ≠ bF; omega) (.int .i64 1)), ((HN.out.k2.far (p := ⟨bF, 2, none⟩) (by show n + 1 ≠ bF; omega) (.int .i64 0)).far (p := ⟨bF, 7, none⟩) (by show n + 1 ≠ bF; omega) (.int .i64 1)), ((HN.out.k3.far (p := ⟨bF, 2, none⟩) (by show n + 1 + 1 ≠ bF; omega) (.int .i64 0)).far (p := ⟨bF, 7, none⟩) (by show n + 1 + 1 ≠ bF; omega) (.int .i64 1)), ((HN.out.below.setCell (by show w.heap.size ≤ bF; omega) (.int .i64 0)).setCell (by show w.heap.size ≤ bF; omega) (.int .i64 1)), HN.out.ge⟩)
  replace KB := Lib.hid (hv ▸ ((KB.out.far (p := ⟨bF, 2, none⟩) (by show bB ≠ bF; omega) (.int .i64 0)).far (p := ⟨bF, 7, none⟩) (by show bB ≠ bF; omega) (.int .i64 1)) : Bk v5 bB 32 (hdV (kB x) Ha.zero))
  replace KC := Lib.hid (hv ▸ ((KC.out.far (p := ⟨bF, 2, none⟩) (by show bC ≠ bF; omega) (.int .i64 0)).far (p := ⟨bF, 7, none⟩) (by show bC ≠ bF; omega) (.int .i64 1)) : Bk v5 bC 32 (hdV (kC x) Ha.zero))
  replace KD := Lib.hid (hv ▸ ((KD.out.far (p := ⟨bF, 2, none⟩) (by show bD ≠ bF; omega) (.int .i64 0)).far (p := ⟨bF, 7, none⟩) (by show bD ≠ bF; omega) (.int .i64 1)) : Bk v5 bD 32 (hdV (kD) Ha.zero))
  replace KE := Lib.hid (hv ▸ ((KE.out.far (p := ⟨bF, 2, none⟩) (by show bE ≠ bF; omega) (.int .i64 0)).far (p := ⟨bF, 7, none⟩) (by show bE ≠ bF; omega) (.int .i64 1)) : Bk v5 bE 32 (hdV (kE) { Ha.zero with ops := some ⟨bO, 0, none⟩, cops := 1 }))
  replace KO := Lib.hid (hv ▸ ((KO.out.far (p := ⟨bF, 2, none⟩) (by show bO ≠ bF; omega) (.int .i64 0)).far (p := ⟨bF, 7, none⟩) (by show bO ≠ bF; omega) (.int .i64 1)) : Bk v5 bO 37 #[.int .i64 5, .int .i64 0, .int .i64 0])
  have hneF : n + 1 + 1 < bF := hgt
  clear hgt hv KN c2 f2 c7 f7
  have hltF : bF < v5.heap.size := KF.out.lt
  go_upto_region 18 with fail
  obtain ⟨key, hkey⟩ : ∃ k, (a0 % 2 == 0) = k := ⟨_, rfl⟩
  obtain ⟨ref, href⟩ : ∃ k, (bits BinOp.and IntKind.i64 a0 2 == 0) = k := ⟨_, rfl⟩
  rw [hkey, href]
  clear hkey href
  have HCB : Hid (∀ (r : Int) (v : World), r = 0 ∨ r = 1 → Calls Try.prog 10 #[.agg (hdV (kB x) Ha.zero), .agg (spV tS none 0), .agg (ppV tP), .int .i64 r, .bool key] v fun e w' => e = .returned (.bool (!key)) ∧ Below v.heap.size v w') := Lib.hid fun r v hr => key_b HXB.out hr ▸ mayhd_any (kB x) Ha.zero tS none 0 tP r key v (hnil0 _ (kB x) rfl _) (hlen0 (kB x) rfl) (Rd.zero v v.heap.size none _ : Rd v v.heap.size none 0 _) (by decide)
  have HCC : Hid (∀ (r : Int) (v : World), r = 0 ∨ r = 1 → Calls Try.prog 10 #[.agg (hdV (kC x) Ha.zero), .agg (spV tS none 0), .agg (ppV tP), .int .i64 r, .bool key] v fun e w' => e = .returned (.bool key) ∧ Below v.heap.size v w') := Lib.hid fun r v hr => by
    have h := mayhd_any (kC x) Ha.zero tS none 0 tP r key v (hnil0 _ (kC x) rfl _) (hlen0 (kC x) rfl) (Rd.zero v v.heap.size none _ : Rd v v.heap.size none 0 _) (by decide)
    rw [key_c HXB.out hr] at h
    exact h
  have HCD : Hid (∀ (v : World), Calls Try.prog 10 #[.agg (hdV kD Ha.zero), .agg (spV tS none 0), .agg (ppV tP), .int .i64 (if ref = true then 1 else 0), .bool key] v fun e w' => e = .returned (.bool (key && ref)) ∧ Below v.heap.size v w') := Lib.hid fun v => by
    have h := mayhd_any kD Ha.zero tS none 0 tP (if ref = true then 1 else 0) key v (hnil0 _ kD rfl _) (hlen0 kD rfl) (Rd.zero v v.heap.size none _ : Rd v v.heap.size none 0 _) (by decide)
    rw [key_d] at h
    exact h
  have HCE : Hid (∀ (v : World), Bk v bO 37 #[.int .i64 5, .int .i64 0, .int .i64 0] → Calls Try.prog 10 #[.agg (hdV kE { Ha.zero with ops := some ⟨bO, 0, none⟩, cops := 1 }), .agg (spV tS none 0), .agg (ppV tP), .int .i64 (if ref = true then 1 else 0), .bool key] v fun e w' => e = .returned (.bool (!key && ref)) ∧ Below v.heap.size v w') := Lib.hid fun v hk => by
    have h := mayhd_any kE { Ha.zero with ops := some ⟨bO, 0, none⟩, cops := 1 } tS none 0 tP (if ref = true then 1 else 0) key v ⟨RwAt.nil _ _ _ _ _, RwAt.nil _ _ _ _ _, RwAt.nil _ _ _ _ _, RwAt.nil _ _ _ _ _, ops_one v bO hk⟩ ⟨by decide, by decide, by decide, by decide, by decide⟩ (Rd.zero v v.heap.size none _ : Rd v v.heap.size none 0 _) (by decide)
    rw [key_e] at h
    exact h
  have HCF : Hid (∀ (r : Int) (v : World), r = 0 ∨ r = 1 → Calls Try.prog 10 #[.agg (hdV kF Ha.zero), .agg (spV tS none 0), .agg (ppV tP), .int .i64 r, .bool key] v fun e w' => e = .returned (.bool (!key)) ∧ Below v.heap.size v w') := Lib.hid fun r v hr => by
    have h := mayhd_any kF Ha.zero tS none 0 tP r key v (hnil0 _ kF rfl _) (hlen0 kF rfl) (Rd.zero v v.heap.size none _ : Rd v v.heap.size none 0 _) (by decide)
    rw [key_f hr] at h
    exact h
  cases key <;> cases ref
  all_goals (
    try simp only [Bool.false_eq_true, if_false, if_true] at HCD HCE
    go_upto_region 21 with fail
    simp only [List.append]
    refine wp_region_lit ?_
    go_wp2_with (first | (go_at_call 11; refine (num_any _ _).mono ?_; rintro e w' ⟨rfl, rfl⟩) | (go_at_call 10; refine (HCB.out _ _ (by first | exact Or.inl rfl | exact Or.inr rfl)).mono ?_; rintro e w' ⟨rfl, hb⟩; replace HN := Lib.hid (HN.out.go hb); replace KC := Lib.hid (KC.out.go hb); replace KD := Lib.hid (KD.out.go hb); replace KE := Lib.hid (KE.out.go hb); replace KO := Lib.hid (KO.out.go hb); replace KF := Lib.hid (KF.out.go hb); clear hb HCB) | (go_at_call 10; refine (HCC.out _ _ (by first | exact Or.inl rfl | exact Or.inr rfl)).mono ?_; rintro e w' ⟨rfl, hb⟩; replace HN := Lib.hid (HN.out.go hb); replace KD := Lib.hid (KD.out.go hb); replace KE := Lib.hid (KE.out.go hb); replace KO := Lib.hid (KO.out.go hb); replace KF := Lib.hid (KF.out.go hb); clear hb HCC) | (go_at_call 10; refine (HCD.out _).mono ?_; rintro e w' ⟨rfl, hb⟩; replace HN := Lib.hid (HN.out.go hb); replace KE := Lib.hid (KE.out.go hb); replace KO := Lib.hid (KO.out.go hb); replace KF := Lib.hid (KF.out.go hb); clear hb HCD) | (go_at_call 10; refine (HCE.out _ KO.out).mono ?_; rintro e w' ⟨rfl, hb⟩; replace HN := Lib.hid (HN.out.go hb); replace KO := Lib.hid (KO.out.go hb); replace KF := Lib.hid (KF.out.go hb); clear hb HCE) | (go_at_call 10; refine (HCF.out _ _ (by first | exact Or.inl rfl | exact Or.inr rfl)).mono ?_; rintro e w' ⟨rfl, hb⟩; replace HN := Lib.hid (HN.out.go hb); clear hb HCF) | (refine wpList_load_rowG (by rfl) _ _ rfl n rfl _ _ (0, 0) _ HN.out.k1 Try.underlying25 rfl (by kernel_rfl) ?_) | (refine wpList_load_rowG (by rfl) _ _ rfl (n + 1) rfl _ _ (0, 0) _ HN.out.k2 Try.underlying27 rfl (by kernel_rfl) ?_) | (refine wpList_load_rowG (by rfl) _ _ rfl bB rfl _ _ (0, 0) _ KB.out Try.underlying32 rfl (by kernel_rfl) ?_; clear KB) | (refine wpList_load_rowG (by rfl) _ _ rfl bC rfl _ _ (0, 0) _ KC.out Try.underlying32 rfl (by kernel_rfl) ?_; clear KC) | (refine wpList_load_rowG (by rfl) _ _ rfl bD rfl _ _ (0, 0) _ KD.out Try.underlying32 rfl (by kernel_rfl) ?_; clear KD) | (refine wpList_load_rowG (by rfl) _ _ rfl bE rfl _ _ (0, 0) _ KE.out Try.underlying32 rfl (by kernel_rfl) ?_; clear KE) | (refine wpList_load_rowG (by rfl) _ _ rfl bF rfl _ _ (0, 0) _ KF.out Try.underlying32 rfl (by kernel_rfl) ?_; clear KF))
    go_ret
    exact ⟨by first | rfl | (simp; done), HN.out.below⟩)
end Go.Proofs.Ytjokibagciehlaa
