/- HeadBack: there and back. Printed by gen-lawb.py. -/
import Derived.Test.YtjokibagciehlaaHeaZ
import Derived.Deep.DeepCutAuto
import Derived.Test.YtjokibagciehlaaMask
import Derived.Test.YtjokibagciehlaaRow
import Derived.Test.YtjokibagciehlaaHeaK
import Derived.Test.YtjokibagciehlaaStructs1
namespace Go.Proofs.Ytjokibagciehlaa
open Go.RowKit
set_option linter.unusedVariables false
set_option linter.unusedSimpArgs false

attribute [local go_sem] and_255

theorem md_in {n : Nat} {V : Nat → Nat → Value} {zk zv : Nat → Int} (h0 : ∀ k, k < n → V k 0 = .int .i64 (zk k)) (h1 : ∀ k, k < n → V k 1 = .int .i64 (zv k)) : ∀ k, k < n → ∀ j, j < 2 → V k j = mdF ⟨zk k, zv k⟩ j := fun k hk j hj => by
  rcases (by omega : j = 0 ∨ j = 1) with rfl | rfl
  · exact h0 k hk
  · exact h1 k hk
theorem mo_in {n : Nat} {V : Nat → Nat → Value} {zk za zb : Nat → Int} (h0 : ∀ k, k < n → V k 0 = .int .i64 (zk k)) (h1 : ∀ k, k < n → V k 1 = .int .i64 (za k)) (h2 : ∀ k, k < n → V k 2 = .int .i64 (zb k)) : ∀ k, k < n → ∀ j, j < 3 → V k j = moF ⟨zk k, za k, zb k⟩ j := fun k hk j hj => by
  rcases (by omega : j = 0 ∨ j = 1 ∨ j = 2) with rfl | rfl | rfl
  · exact h0 k hk
  · exact h1 k hk
  · exact h2 k hk
theorem wt_in {n : Nat} {V : Nat → Nat → Value} {z0 z1 z2 z3 z4 z5 : Nat → Int} (h0 : ∀ k, k < n → V k 0 = .int .i64 (z0 k)) (h1 : ∀ k, k < n → V k 1 = .int .i64 (z1 k)) (h2 : ∀ k, k < n → V k 2 = .int .i64 (z2 k)) (h3 : ∀ k, k < n → V k 3 = .int .i64 (z3 k)) (h4 : ∀ k, k < n → V k 4 = .int .i64 (z4 k)) (h5 : ∀ k, k < n → V k 5 = .int .i64 (z5 k)) :
    ∀ k, k < n → ∀ j, j < 6 → V k j = wtF ⟨z0 k, z1 k, z2 k, z3 k, z4 k, z5 k⟩ j := fun k hk j hj => by
  rcases (by omega : j = 0 ∨ j = 1 ∨ j = 2 ∨ j = 3 ∨ j = 4 ∨ j = 5) with rfl | rfl | rfl | rfl | rfl | rfl
  · exact h0 k hk
  · exact h1 k hk
  · exact h2 k hk
  · exact h3 k hk
  · exact h4 k hk
  · exact h5 k hk
theorem SpAt.arg {w : World} {A : Option Addr} {n : Nat} {z : Nat → Int} {p : Sp} (h : Ri w w.heap.size A n z) (hp : p.cy = (List.range n).map z) : SpAt w w.heap.size p A := by
  unfold SpAt
  rw [hp]
  have e : ((List.range n).map z).length = n := by simp
  rw [e]
  exact Rd.congr h fun k hk => by simp [hk]

theorem lies_pack (b : List Bool) : Lies (sbit (packS b)) (8 * (packS b).size) 0 b :=
  ⟨by rw [packS_size]; omega, fun i _ => by rw [Nat.zero_add, sbit_pack]⟩

theorem get_back {w : World} {g : Nat} {st : ByteArray} (h : Hd) (sq : Sp) (A : Option Addr) (c : Nat) (p : Pp) (ref : Int) (key : Bool) (hm : mayHd h sq p ref key = true) (hr : Rr w g st 0) (hs : st.size ≤ 140737488351232) (hsp : SpAt w g sq A) (hn : sq.cy.length ≤ 1152921504606846976) (hL : Lies (sbit st) (8 * st.size) 0 (hdL h sq p ref key)) :
    Calls Try.prog 18 #[.pointer (some ⟨g, 0, none⟩), .agg (spV sq A c), .agg (ppV p), .int .i64 ref, .bool key] w fun e w' => ∃ q, e = .returned (.tuple #[.agg (hdV h q), .int .i64 0]) ∧ RPost w g st (hdL h sq p ref key).length w' ∧ RwsR w w' h.ls q 5 := by
  have := hget_any sq A c p ref key hr hs (Nat.zero_le _) hsp hn
  rw [getHd_back hm hL, Nat.zero_add] at this
  exact this
section
variable {w : World} (h : Hd) (q : Ha) (sq : Sp) (A : Option Addr) (c : Nat) (p : Pp) (ref : Int) (key : Bool) (tail : Int) (H : HdAt w w.heap.size h q) (L : HdLen h) (hsp : SpAt w w.heap.size sq A) (hn : sq.cy.length ≤ 1152921504606846976)
include H L hsp hn
set_option maxRecDepth 100000 in
set_option maxHeartbeats 12800000 in
theorem back_no (hm : mayHd h sq p ref key = false) :
    Calls Try.prog 7 #[.agg (hdV h q), .agg (spV sq A c), .agg (ppV p), .int .i64 ref, .bool key, .int .i64 tail] w fun e w' => e = .returned (.bool true) ∧ Below w.heap.size w w' := by
  have HPN := Lib.hid (fun (w3 : World) (hb : Below w.heap.size w w3) ad => put_no (w := w3) h q sq A c p ref key (H.go hb) L (Rd.go hsp hb) hn ad hm)
  have HM := Lib.hid (fun (w3 : World) (hb : Below w.heap.size w w3) => hm ▸ mayhd_any h q sq A c p ref key w3 (H.go hb) L (Rd.go hsp hb) hn)
  clear hm
  have HX := Lib.hid (Bx.new w h q sq A c p)
  clear H L hsp hn
  obtain ⟨w3, hw3⟩ : ∃ w3, w3 = (((w.alloc (.cells (hdV h q) 32)).alloc (.cells (spV sq A c) 25)).alloc (.cells (ppV p) 27)) := ⟨_, rfl⟩
  rw [← hw3] at HX
  simp only [hdV, spV, ppV] at hw3 ⊢
  go_enter Try.func7, Try.ntmps7
  go_upto_region 1 with fail
  rw [← hw3]
  clear hw3
  go_wp2_with fail
  refine (awake_any w3).mono ?_
  rintro e wa ⟨rfl, hb⟩
  replace HX := Lib.hid (HX.out.go hb)
  clear hb
  go_wp2_with fail
  refine (st_new wa).mono ?_
  rintro e wn ⟨rfl, hst⟩
  have HXA := HX
  replace HX := Lib.hid (HX.out.go hst.2.2.1)
  have HW := Lib.hid hst
  have HGE := Lib.hid HXA.out.below.size
  obtain ⟨g, hg⟩ : ∃ g, wa.heap.size = g := ⟨_, rfl⟩
  rw [hg] at HW ⊢
  have HG := Lib.hid hg
  clear hst hg
  go_upto_region 4 with fail
  refine wp_region_lit ?_
  refine wpl_val rfl (run_move rfl rfl) ?_
  refine wpl_val rfl (run_load_row rfl rfl (load_head HX.out.k1)) ?_
  refine wpl_val rfl (run_load_row rfl rfl (load_sps HX.out.k2)) ?_
  refine wpl_val rfl (run_load_row rfl rfl (load_pps HX.out.k3)) ?_
  refine wpl_val rfl (run_move rfl rfl) ?_
  refine wpl_val rfl (run_move rfl rfl) ?_
  refine wpl_call rfl (f := 13) (args := #[.pointer (some ⟨g, 0, none⟩), .agg (hdV h q), .agg (spV sq A c), .agg (ppV p), .int .i64 ref, .bool key]) (by kernel_rfl) ?_
  refine (HPN.out wn HX.out.below _).mono ?_
  rintro e w5 ⟨rfl, hb⟩
  refine ⟨_, rfl, ?_⟩
  replace HX := Lib.hid (HX.out.go hb)
  replace HW := Lib.hid (HW.out.go hb)
  clear hb HPN HXA
  go_wp2_with (go_at_call 11; refine (num_any _ _).mono ?_; rintro e w' ⟨rfl, rfl⟩)
  refine (st_len HW.out (n := 0) rfl).mono ?_
  rintro e w' ⟨rfl, rfl⟩
  go_wp2_with (first | (refine wpList_load_rowG (by rfl) _ _ rfl w.heap.size rfl _ _ (0, 0) _ HX.out.k1 Try.underlying32 rfl (by kernel_rfl) ?_) | (refine wpList_load_rowG (by rfl) _ _ rfl (w.heap.size + 1) rfl _ _ (0, 0) _ HX.out.k2 Try.underlying25 rfl (by kernel_rfl) ?_) | (refine wpList_load_rowG (by rfl) _ _ rfl (w.heap.size + 1 + 1) rfl _ _ (0, 0) _ HX.out.k3 Try.underlying27 rfl (by kernel_rfl) ?_))
  refine (HM.out _ HX.out.below).mono ?_
  rintro e w6 ⟨rfl, hb⟩
  replace HX := Lib.hid (HX.out.go hb)
  clear hb HM
  go_wp2_with fail
  go_ret
  exact ⟨rfl, HX.out.below⟩
set_option maxRecDepth 100000 in
set_option maxHeartbeats 12800000 in
theorem back_yes (hm : mayHd h sq p ref key = true) (away : ∀ A, A = q.m0 ∨ A = q.m1 ∨ A = q.w0 ∨ A = q.w1 ∨ A = q.ops → ∀ ad, A = some ad → ad.block < w.heap.size) :
    Calls Try.prog 7 #[.agg (hdV h q), .agg (spV sq A c), .agg (ppV p), .int .i64 ref, .bool key, .int .i64 tail] w fun e w' => e = .returned (.bool true) ∧ Below w.heap.size w w' := by
  have HO := mayHd_iff hm
  have hlen := hdL_len HO
  have HPY := Lib.hid (fun (w3 : World) (hb : Below w.heap.size w w3) (base g : Nat) (hw : Wr w3 base g (.slice none 0 0) []) (hg : base ≤ w3.heap.size) (hwg : w.heap.size ≤ g) => put_yes (w := w3) h q sq A c p ref key (H.go hb) L (Rd.go hsp hb) hn base (.slice none 0 0) [] hw hg (by simp) hm (fun A hA ad e => by
    have h1 := away A hA ad e
    refine ⟨fun hq => ?_, Nat.lt_of_lt_of_le h1 hb.size⟩
    rcases hq with hq | hq
    · omega
    · cases hq))
  have HBK := Lib.hid (fun (w3 : World) (g : Nat) (st : ByteArray) (hr : Rr w3 g st 0) (hs : st.size ≤ 140737488351232) (hsp : SpAt w3 g sq A) (hL : Lies (sbit st) (8 * st.size) 0 (hdL h sq p ref key)) => get_back h sq A c p ref key hm hr hs hsp hn hL)
  have HSP := Lib.hid (fun (w3 : World) (hb : Below w.heap.size w w3) => (Rd.go hsp hb : SpAt w3 w3.heap.size sq A))
  have HSH := Lib.hid (fun (w3 : World) (hb : Below w.heap.size w w3) (r : Ha) (H' : HdAt w3 w3.heap.size h r) => samehd_yes h r q w3 H' (H.go hb) L)
  obtain ⟨B, hB⟩ : ∃ B, B = hdL h sq p ref key := ⟨_, rfl⟩
  rw [← hB] at hlen HBK
  simp only [List.nil_append] at HPY
  rw [← hB] at HPY
  clear hm HO away hB
  have HX := Lib.hid (Bx.new w h q sq A c p)
  clear H L hsp hn
  obtain ⟨w3, hw3⟩ : ∃ w3, w3 = (((w.alloc (.cells (hdV h q) 32)).alloc (.cells (spV sq A c) 25)).alloc (.cells (ppV p) 27)) := ⟨_, rfl⟩
  rw [← hw3] at HX
  simp only [hdV, spV, ppV] at hw3 ⊢
  go_enter Try.func7, Try.ntmps7
  go_upto_region 1 with fail
  rw [← hw3]
  clear hw3
  go_wp2_with fail
  refine (awake_any w3).mono ?_
  rintro e wa ⟨rfl, hb⟩
  replace HX := Lib.hid (HX.out.go hb)
  clear hb
  go_wp2_with fail
  refine (st_new wa).mono ?_
  rintro e wn ⟨rfl, hst⟩
  have HXA := HX
  replace HX := Lib.hid (HX.out.go hst.2.2.1)
  have HW := Lib.hid hst
  have HGE := Lib.hid HXA.out.below.size
  obtain ⟨g, hg⟩ : ∃ g, wa.heap.size = g := ⟨_, rfl⟩
  rw [hg] at HW ⊢
  have HG := Lib.hid hg
  clear hst hg
  go_upto_region 4 with fail
  refine wp_region_lit ?_
  refine wpl_val rfl (run_move rfl rfl) ?_
  refine wpl_val rfl (run_load_row rfl rfl (load_head HX.out.k1)) ?_
  refine wpl_val rfl (run_load_row rfl rfl (load_sps HX.out.k2)) ?_
  refine wpl_val rfl (run_load_row rfl rfl (load_pps HX.out.k3)) ?_
  refine wpl_val rfl (run_move rfl rfl) ?_
  refine wpl_val rfl (run_move rfl rfl) ?_
  refine wpl_call rfl (f := 13) (args := #[.pointer (some ⟨g, 0, none⟩), .agg (hdV h q), .agg (spV sq A c), .agg (ppV p), .int .i64 ref, .bool key]) (by kernel_rfl) ?_
  have HPY2 := HPY.out wn HX.out.below wa.heap.size g HW.out.1 HW.out.2.2.1.size (by have := HGE.out; have := HG.out; omega)
  refine HPY2.mono ?_
  rintro e w5 ⟨rfl, hq⟩
  refine ⟨_, rfl, ?_⟩
  have hst := HW.out.put hq (M' := 40000) hlen
  obtain ⟨v', hw⟩ := hst
  have HW := Lib.hid hw
  replace HX := Lib.hid (HXA.out.go hw.2.2.1)
  clear hq hw HPY HPY2
  go_wp2_with (go_at_call 11; refine (num_any _ _).mono ?_; rintro e w' ⟨rfl, rfl⟩)
  refine (st_len HW.out (n := B.length) rfl).mono ?_
  rintro e w' ⟨rfl, rfl⟩
  go_wp2_with fail
  have hT := Int.emod_nonneg tail (show (256 : Int) ≠ 0 by decide)
  have hT2 := Int.emod_lt_of_pos tail (show (0 : Int) < 256 by decide)
  ((with_reducible refine (st_bits HW.out (by omega) (tail % 256) 8 (by omega) (by omega) (by omega) (by simp; omega)).mono ?_))
  rintro e w6 ⟨rfl, v6, hw⟩
  obtain ⟨S, hS⟩ : ∃ S, packS (B ++ dig (tail % 256).toNat (8 : Int).toNat) = S := ⟨_, rfl⟩
  have hLi : Lies (sbit S) (8 * S.size) 0 B := hS ▸ (lies_pack _).left
  have hSz : S.size ≤ 6000 := by rw [← hS, packS_size, List.length_append, dig_len]; simp; omega
  have HW := Lib.hid hw
  have HXW := Lib.hid (HXA.out.go hw.2.2.1)
  have HS := Lib.hid hS
  have HLI := Lib.hid hLi
  replace HX := HXW
  clear hw hT hT2 hS hLi HXA
  go_wp2_with fail
  refine (st_bytes HW.out HS.out).mono ?_
  rintro e w' ⟨rfl, rfl⟩
  go_wp2_with fail
  refine (st_open S w6).mono ?_
  rintro e wo ⟨rfl, hr⟩
  have HR := Lib.hid hr
  have HSo := Lib.hid (Rd.below (HSP.out w6 HX.out.below) hr.2.2 (Nat.le_refl _))
  replace HX := Lib.hid (HX.out.go hr.2.2)
  obtain ⟨gr, hgr⟩ : ∃ g, w6.heap.size = g := ⟨_, rfl⟩
  have HC := Lib.hid (HBK.out wo w6.heap.size S hr.1 (by omega) HSo.out HLI.out)
  rw [hgr] at HR HC ⊢
  clear hr HSo hgr HSP HBK HLI HS HW
  go_upto_region 10 with fail
  refine wp_region_lit ?_
  refine wpl_val rfl (run_move rfl rfl) ?_
  refine wpl_val rfl (run_load_row rfl rfl (load_sps HX.out.k2)) ?_
  refine wpl_val rfl (run_load_row rfl rfl (load_pps HX.out.k3)) ?_
  refine wpl_val rfl (run_move rfl rfl) ?_
  refine wpl_val rfl (run_move rfl rfl) ?_
  refine wpl_call rfl (f := 18) (args := #[.pointer (some ⟨gr, 0, none⟩), .agg (spV sq A c), .agg (ppV p), .int .i64 ref, .bool key]) (by kernel_rfl) ?_
  refine HC.out.mono ?_
  rintro e w7 ⟨q', rfl, hrp, hrw⟩
  refine ⟨_, rfl, ?_⟩
  have hr7 := HR.out.then hrp
  replace HX := Lib.hid (HXW.out.go hr7.2.2)
  have HD := Lib.hid hrw.hd
  have HR7 := Lib.hid hr7
  clear hrp hrw hr7 HC HR HXW
  simp only [Act.put, List.setIfInBounds_toArray, List.set_cons_zero, List.set_cons_succ]
  refine wpl_val rfl (run_move rfl rfl) ?_
  simp only [Act.put, List.setIfInBounds_toArray, List.set_cons_zero, List.set_cons_succ]
  refine wpl_val rfl (run_ext0 (v := .agg (hdV h q')) (u := .int .i64 0) rfl rfl) ?_
  simp only [Act.put, List.setIfInBounds_toArray, List.set_cons_zero, List.set_cons_succ]
  refine wpl_val rfl (run_ext1 (v := .agg (hdV h q')) (u := .int .i64 0) rfl rfl) ?_
  simp only [Act.put, List.setIfInBounds_toArray, List.set_cons_zero, List.set_cons_succ]
  refine wpl_val rfl (run_alloc_head _ _ _ rfl) ?_
  simp only [Act.put, List.setIfInBounds_toArray, List.set_cons_zero, List.set_cons_succ]
  refine wpList_store_row rfl _ _ _ rfl w7.heap.size (hdV h q') rfl rfl _ _ (Bk.new w7 _ _) (by kernel_rfl) rfl (hd_one _ _) ?_
  obtain ⟨w8, hw8⟩ : ∃ w8, (w7.alloc (.cells (hdV Hd.zero Ha.zero) 32)).setRow w7.heap.size (hdV h q') = w8 := ⟨_, rfl⟩
  have hb8 : Below w7.heap.size w7 w8 := hw8 ▸ (touch_setRow (Touch.of_new (S := fun _ => False) ((Below.refl _ _).alloc (Nat.le_refl _) _)) _ _ (by omega)).below (fun _ h => h.elim) (Nat.le_refl _)
  have KX := Lib.hid ((hw8 ▸ bk_setRow (Bk.new w7 _ _)) : Bk w8 w7.heap.size 32 (hdV h q'))
  rw [hw8]
  replace HX := Lib.hid (HX.out.go hb8)
  replace HD := Lib.hid (HD.out.go hb8)
  replace HR7 := Lib.hid (HR7.out.go hb8)
  clear hb8 hw8
  go_wp2_with (first | (go_at_call 11; refine (num_any _ _).mono ?_; rintro e w' ⟨rfl, rfl⟩) | (refine wpList_load_rowG (by rfl) _ _ rfl w7.heap.size rfl _ _ (0, 0) _ KX.out Try.underlying32 rfl (by kernel_rfl) ?_) | (refine wpList_load_rowG (by rfl) _ _ rfl w.heap.size rfl _ _ (0, 0) _ HX.out.k1 Try.underlying32 rfl (by kernel_rfl) ?_) | (refine wpList_load_rowG (by rfl) _ _ rfl (w.heap.size + 1) rfl _ _ (0, 0) _ HX.out.k2 Try.underlying25 rfl (by kernel_rfl) ?_) | (refine wpList_load_rowG (by rfl) _ _ rfl (w.heap.size + 1 + 1) rfl _ _ (0, 0) _ HX.out.k3 Try.underlying27 rfl (by kernel_rfl) ?_))
  refine (HSH.out w8 HX.out.below q' HD.out).mono ?_
  rintro e w9 ⟨rfl, hb⟩
  replace HX := Lib.hid (HX.out.go hb)
  replace HR7 := Lib.hid (HR7.out.go hb)
  clear hb HSH
  go_wp2_with fail
  refine (at_any gr S B.length w9 HR7.out.1).mono ?_
  rintro e w' ⟨rfl, rfl⟩
  go_wp2_with fail
  go_ret
  exact ⟨rfl, HX.out.below⟩
  end
theorem walk_HeadBack (a0_First : Int) (a0_Count : Int) (a0_Type : Int) (a0_FrameNum : Int) (a0_Id : Int) (a0_Poc : Int) (a0_Spatial : Bool) (a0_Active0 : Int) (a0_Active1 : Int) (a0_Mods0 : Option Addr) (len_a0_Mods0 cap_a0_Mods0 : Nat) (V_a0_Mods0 : Nat → Nat → Value) (z_a0_Mods0_Kind : Nat → Int) (z_a0_Mods0_V : Nat → Int) (a0_Mods1 : Option Addr) (len_a0_Mods1 cap_a0_Mods1 : Nat) (V_a0_Mods1 : Nat → Nat → Value) (z_a0_Mods1_Kind : Nat → Int) (z_a0_Mods1_V : Nat → Int) (a0_Log : Int) (a0_LogC : Int) (a0_Weights0 : Option Addr) (len_a0_Weights0 cap_a0_Weights0 : Nat) (V_a0_Weights0 : Nat → Nat → Value) (z_a0_Weights0_Scale_0 : Nat → Int) (z_a0_Weights0_Scale_1 : Nat → Int) (z_a0_Weights0_Scale_2 : Nat → Int) (z_a0_Weights0_Offset_0 : Nat → Int) (z_a0_Weights0_Offset_1 : Nat → Int) (z_a0_Weights0_Offset_2 : Nat → Int) (a0_Weights1 : Option Addr) (len_a0_Weights1 cap_a0_Weights1 : Nat) (V_a0_Weights1 : Nat → Nat → Value) (z_a0_Weights1_Scale_0 : Nat → Int) (z_a0_Weights1_Scale_1 : Nat → Int) (z_a0_Weights1_Scale_2 : Nat → Int) (z_a0_Weights1_Offset_0 : Nat → Int) (z_a0_Weights1_Offset_1 : Nat → Int) (z_a0_Weights1_Offset_2 : Nat → Int) (a0_LongKey : Bool) (a0_Ops : Option Addr) (len_a0_Ops cap_a0_Ops : Nat) (V_a0_Ops : Nat → Nat → Value) (z_a0_Ops_Kind : Nat → Int) (z_a0_Ops_A : Nat → Int) (z_a0_Ops_B : Nat → Int) (a0_Qp : Int) (a0_Off : Bool) (a0_A : Int) (a0_B : Int) (a1_Wide : Int) (a1_High : Int) (a1_FrameBits : Int) (a1_PocType : Int) (a1_PocBits : Int) (a1_NonRef : Int) (a1_Cycle : Option Addr) (len_a1_Cycle cap_a1_Cycle : Nat) (z_a1_Cycle : Nat → Int) (a1_Refs : Int) (a1_Delay : Int) (a2_Cabac : Bool) (a2_Weighted : Bool) (a2_BiPred : Int) (a2_Qp : Int) (a2_ChromaQp : Int) (a2_Constrained : Bool) (a2_Deblock : Bool) (a2_Active0 : Int) (a2_Active1 : Int) (a3 : Int) (a4 : Bool) (a5 : Int) (w : World) (w_a0_First : (Lit.int .i64 a0_First).wf = true) (w_a0_Count : (Lit.int .i64 a0_Count).wf = true) (w_a0_Type : (Lit.int .i64 a0_Type).wf = true) (w_a0_FrameNum : (Lit.int .i64 a0_FrameNum).wf = true) (w_a0_Id : (Lit.int .i64 a0_Id).wf = true) (w_a0_Poc : (Lit.int .i64 a0_Poc).wf = true) (w_a0_Active0 : (Lit.int .i64 a0_Active0).wf = true) (w_a0_Active1 : (Lit.int .i64 a0_Active1).wf = true) (r_a0_Mods0 : RowsOf w a0_Mods0 len_a0_Mods0 cap_a0_Mods0 2 V_a0_Mods0) (e_a0_Mods0_Kind : ∀ k, k < len_a0_Mods0 → V_a0_Mods0 k 0 = .int .i64 (z_a0_Mods0_Kind k)) (w_a0_Mods0_Kind : ∀ k, (Lit.int .i64 (z_a0_Mods0_Kind k)).wf = true) (e_a0_Mods0_V : ∀ k, k < len_a0_Mods0 → V_a0_Mods0 k 1 = .int .i64 (z_a0_Mods0_V k)) (w_a0_Mods0_V : ∀ k, (Lit.int .i64 (z_a0_Mods0_V k)).wf = true) (s_a0_Mods0 : cap_a0_Mods0 * 16 ≤ 140737488351232) (lt_a0_Mods0 : ∀ ad, a0_Mods0 = some ad → ad.block < w.heap.size) (r_a0_Mods1 : RowsOf w a0_Mods1 len_a0_Mods1 cap_a0_Mods1 2 V_a0_Mods1) (e_a0_Mods1_Kind : ∀ k, k < len_a0_Mods1 → V_a0_Mods1 k 0 = .int .i64 (z_a0_Mods1_Kind k)) (w_a0_Mods1_Kind : ∀ k, (Lit.int .i64 (z_a0_Mods1_Kind k)).wf = true) (e_a0_Mods1_V : ∀ k, k < len_a0_Mods1 → V_a0_Mods1 k 1 = .int .i64 (z_a0_Mods1_V k)) (w_a0_Mods1_V : ∀ k, (Lit.int .i64 (z_a0_Mods1_V k)).wf = true) (s_a0_Mods1 : cap_a0_Mods1 * 16 ≤ 140737488351232) (lt_a0_Mods1 : ∀ ad, a0_Mods1 = some ad → ad.block < w.heap.size) (w_a0_Log : (Lit.int .i64 a0_Log).wf = true) (w_a0_LogC : (Lit.int .i64 a0_LogC).wf = true) (r_a0_Weights0 : RowsOf w a0_Weights0 len_a0_Weights0 cap_a0_Weights0 6 V_a0_Weights0) (e_a0_Weights0_Scale_0 : ∀ k, k < len_a0_Weights0 → V_a0_Weights0 k 0 = .int .i64 (z_a0_Weights0_Scale_0 k)) (w_a0_Weights0_Scale_0 : ∀ k, (Lit.int .i64 (z_a0_Weights0_Scale_0 k)).wf = true) (e_a0_Weights0_Scale_1 : ∀ k, k < len_a0_Weights0 → V_a0_Weights0 k 1 = .int .i64 (z_a0_Weights0_Scale_1 k)) (w_a0_Weights0_Scale_1 : ∀ k, (Lit.int .i64 (z_a0_Weights0_Scale_1 k)).wf = true) (e_a0_Weights0_Scale_2 : ∀ k, k < len_a0_Weights0 → V_a0_Weights0 k 2 = .int .i64 (z_a0_Weights0_Scale_2 k)) (w_a0_Weights0_Scale_2 : ∀ k, (Lit.int .i64 (z_a0_Weights0_Scale_2 k)).wf = true) (e_a0_Weights0_Offset_0 : ∀ k, k < len_a0_Weights0 → V_a0_Weights0 k 3 = .int .i64 (z_a0_Weights0_Offset_0 k)) (w_a0_Weights0_Offset_0 : ∀ k, (Lit.int .i64 (z_a0_Weights0_Offset_0 k)).wf = true) (e_a0_Weights0_Offset_1 : ∀ k, k < len_a0_Weights0 → V_a0_Weights0 k 4 = .int .i64 (z_a0_Weights0_Offset_1 k)) (w_a0_Weights0_Offset_1 : ∀ k, (Lit.int .i64 (z_a0_Weights0_Offset_1 k)).wf = true) (e_a0_Weights0_Offset_2 : ∀ k, k < len_a0_Weights0 → V_a0_Weights0 k 5 = .int .i64 (z_a0_Weights0_Offset_2 k)) (w_a0_Weights0_Offset_2 : ∀ k, (Lit.int .i64 (z_a0_Weights0_Offset_2 k)).wf = true) (s_a0_Weights0 : cap_a0_Weights0 * 48 ≤ 140737488351232) (lt_a0_Weights0 : ∀ ad, a0_Weights0 = some ad → ad.block < w.heap.size) (r_a0_Weights1 : RowsOf w a0_Weights1 len_a0_Weights1 cap_a0_Weights1 6 V_a0_Weights1) (e_a0_Weights1_Scale_0 : ∀ k, k < len_a0_Weights1 → V_a0_Weights1 k 0 = .int .i64 (z_a0_Weights1_Scale_0 k)) (w_a0_Weights1_Scale_0 : ∀ k, (Lit.int .i64 (z_a0_Weights1_Scale_0 k)).wf = true) (e_a0_Weights1_Scale_1 : ∀ k, k < len_a0_Weights1 → V_a0_Weights1 k 1 = .int .i64 (z_a0_Weights1_Scale_1 k)) (w_a0_Weights1_Scale_1 : ∀ k, (Lit.int .i64 (z_a0_Weights1_Scale_1 k)).wf = true) (e_a0_Weights1_Scale_2 : ∀ k, k < len_a0_Weights1 → V_a0_Weights1 k 2 = .int .i64 (z_a0_Weights1_Scale_2 k)) (w_a0_Weights1_Scale_2 : ∀ k, (Lit.int .i64 (z_a0_Weights1_Scale_2 k)).wf = true) (e_a0_Weights1_Offset_0 : ∀ k, k < len_a0_Weights1 → V_a0_Weights1 k 3 = .int .i64 (z_a0_Weights1_Offset_0 k)) (w_a0_Weights1_Offset_0 : ∀ k, (Lit.int .i64 (z_a0_Weights1_Offset_0 k)).wf = true) (e_a0_Weights1_Offset_1 : ∀ k, k < len_a0_Weights1 → V_a0_Weights1 k 4 = .int .i64 (z_a0_Weights1_Offset_1 k)) (w_a0_Weights1_Offset_1 : ∀ k, (Lit.int .i64 (z_a0_Weights1_Offset_1 k)).wf = true) (e_a0_Weights1_Offset_2 : ∀ k, k < len_a0_Weights1 → V_a0_Weights1 k 5 = .int .i64 (z_a0_Weights1_Offset_2 k)) (w_a0_Weights1_Offset_2 : ∀ k, (Lit.int .i64 (z_a0_Weights1_Offset_2 k)).wf = true) (s_a0_Weights1 : cap_a0_Weights1 * 48 ≤ 140737488351232) (lt_a0_Weights1 : ∀ ad, a0_Weights1 = some ad → ad.block < w.heap.size) (r_a0_Ops : RowsOf w a0_Ops len_a0_Ops cap_a0_Ops 3 V_a0_Ops) (e_a0_Ops_Kind : ∀ k, k < len_a0_Ops → V_a0_Ops k 0 = .int .i64 (z_a0_Ops_Kind k)) (w_a0_Ops_Kind : ∀ k, (Lit.int .i64 (z_a0_Ops_Kind k)).wf = true) (e_a0_Ops_A : ∀ k, k < len_a0_Ops → V_a0_Ops k 1 = .int .i64 (z_a0_Ops_A k)) (w_a0_Ops_A : ∀ k, (Lit.int .i64 (z_a0_Ops_A k)).wf = true) (e_a0_Ops_B : ∀ k, k < len_a0_Ops → V_a0_Ops k 2 = .int .i64 (z_a0_Ops_B k)) (w_a0_Ops_B : ∀ k, (Lit.int .i64 (z_a0_Ops_B k)).wf = true) (s_a0_Ops : cap_a0_Ops * 24 ≤ 140737488351232) (lt_a0_Ops : ∀ ad, a0_Ops = some ad → ad.block < w.heap.size) (w_a0_Qp : (Lit.int .i64 a0_Qp).wf = true) (w_a0_A : (Lit.int .i64 a0_A).wf = true) (w_a0_B : (Lit.int .i64 a0_B).wf = true) (w_a1_Wide : (Lit.int .i64 a1_Wide).wf = true) (w_a1_High : (Lit.int .i64 a1_High).wf = true) (w_a1_FrameBits : (Lit.int .i64 a1_FrameBits).wf = true) (w_a1_PocType : (Lit.int .i64 a1_PocType).wf = true) (w_a1_PocBits : (Lit.int .i64 a1_PocBits).wf = true) (w_a1_NonRef : (Lit.int .i64 a1_NonRef).wf = true) (w_a1_Cycle : IntsArg w a1_Cycle len_a1_Cycle cap_a1_Cycle z_a1_Cycle) (w_a1_Refs : (Lit.int .i64 a1_Refs).wf = true) (w_a1_Delay : (Lit.int .i64 a1_Delay).wf = true) (w_a2_BiPred : (Lit.int .i64 a2_BiPred).wf = true) (w_a2_Qp : (Lit.int .i64 a2_Qp).wf = true) (w_a2_ChromaQp : (Lit.int .i64 a2_ChromaQp).wf = true) (w_a2_Active0 : (Lit.int .i64 a2_Active0).wf = true) (w_a2_Active1 : (Lit.int .i64 a2_Active1).wf = true) (w_a3 : (Lit.int .i64 a3).wf = true) (w_a5 : (Lit.int .i64 a5).wf = true) :
    Calls Try.prog 7 #[.agg #[.int .i64 a0_First, .int .i64 a0_Count, .int .i64 a0_Type, .int .i64 a0_FrameNum, .int .i64 a0_Id, .int .i64 a0_Poc, .bool a0_Spatial, .int .i64 a0_Active0, .int .i64 a0_Active1, .slice a0_Mods0 len_a0_Mods0 cap_a0_Mods0, .slice a0_Mods1 len_a0_Mods1 cap_a0_Mods1, .int .i64 a0_Log, .int .i64 a0_LogC, .slice a0_Weights0 len_a0_Weights0 cap_a0_Weights0, .slice a0_Weights1 len_a0_Weights1 cap_a0_Weights1, .bool a0_LongKey, .slice a0_Ops len_a0_Ops cap_a0_Ops, .int .i64 a0_Qp, .bool a0_Off, .int .i64 a0_A, .int .i64 a0_B], .agg #[.int .i64 a1_Wide, .int .i64 a1_High, .int .i64 a1_FrameBits, .int .i64 a1_PocType, .int .i64 a1_PocBits, .int .i64 a1_NonRef, .slice a1_Cycle len_a1_Cycle cap_a1_Cycle, .int .i64 a1_Refs, .int .i64 a1_Delay], .agg #[.bool a2_Cabac, .bool a2_Weighted, .int .i64 a2_BiPred, .int .i64 a2_Qp, .int .i64 a2_ChromaQp, .bool a2_Constrained, .bool a2_Deblock, .int .i64 a2_Active0, .int .i64 a2_Active1], .int .i64 a3, .bool a4, .int .i64 a5] w fun e w' => e = .returned (.bool true) ∧ Below w.heap.size w w' := by
  have R_m0 := rows_rw (f := mdF) (by decide) r_a0_Mods0 (fun k => (⟨z_a0_Mods0_Kind k, z_a0_Mods0_V k⟩ : Md)) (md_in e_a0_Mods0_Kind e_a0_Mods0_V)
  have N_m0 := r_a0_Mods0.2.2
  obtain ⟨l_m0, h_m0⟩ : ∃ l, (List.range len_a0_Mods0).map (fun k => (⟨z_a0_Mods0_Kind k, z_a0_Mods0_V k⟩ : Md)) = l := ⟨_, rfl⟩
  rw [h_m0] at R_m0
  have E_m0 : len_a0_Mods0 = l_m0.length := by rw [← h_m0]; simp
  have M_m0 : l_m0.length ≤ 281474976710656 := by omega
  clear r_a0_Mods0 h_m0 e_a0_Mods0_Kind e_a0_Mods0_V w_a0_Mods0_Kind w_a0_Mods0_V
  subst E_m0
  have R_m1 := rows_rw (f := mdF) (by decide) r_a0_Mods1 (fun k => (⟨z_a0_Mods1_Kind k, z_a0_Mods1_V k⟩ : Md)) (md_in e_a0_Mods1_Kind e_a0_Mods1_V)
  have N_m1 := r_a0_Mods1.2.2
  obtain ⟨l_m1, h_m1⟩ : ∃ l, (List.range len_a0_Mods1).map (fun k => (⟨z_a0_Mods1_Kind k, z_a0_Mods1_V k⟩ : Md)) = l := ⟨_, rfl⟩
  rw [h_m1] at R_m1
  have E_m1 : len_a0_Mods1 = l_m1.length := by rw [← h_m1]; simp
  have M_m1 : l_m1.length ≤ 281474976710656 := by omega
  clear r_a0_Mods1 h_m1 e_a0_Mods1_Kind e_a0_Mods1_V w_a0_Mods1_Kind w_a0_Mods1_V
  subst E_m1
  have R_w0 := rows_rw (f := wtF) (by decide) r_a0_Weights0 (fun k => (⟨z_a0_Weights0_Scale_0 k, z_a0_Weights0_Scale_1 k, z_a0_Weights0_Scale_2 k, z_a0_Weights0_Offset_0 k, z_a0_Weights0_Offset_1 k, z_a0_Weights0_Offset_2 k⟩ : Wt)) (wt_in e_a0_Weights0_Scale_0 e_a0_Weights0_Scale_1 e_a0_Weights0_Scale_2 e_a0_Weights0_Offset_0 e_a0_Weights0_Offset_1 e_a0_Weights0_Offset_2)
  have N_w0 := r_a0_Weights0.2.2
  obtain ⟨l_w0, h_w0⟩ : ∃ l, (List.range len_a0_Weights0).map (fun k => (⟨z_a0_Weights0_Scale_0 k, z_a0_Weights0_Scale_1 k, z_a0_Weights0_Scale_2 k, z_a0_Weights0_Offset_0 k, z_a0_Weights0_Offset_1 k, z_a0_Weights0_Offset_2 k⟩ : Wt)) = l := ⟨_, rfl⟩
  rw [h_w0] at R_w0
  have E_w0 : len_a0_Weights0 = l_w0.length := by rw [← h_w0]; simp
  have M_w0 : l_w0.length ≤ 281474976710656 := by omega
  clear r_a0_Weights0 h_w0 e_a0_Weights0_Scale_0 e_a0_Weights0_Scale_1 e_a0_Weights0_Scale_2 e_a0_Weights0_Offset_0 e_a0_Weights0_Offset_1 e_a0_Weights0_Offset_2 w_a0_Weights0_Scale_0 w_a0_Weights0_Scale_1 w_a0_Weights0_Scale_2 w_a0_Weights0_Offset_0 w_a0_Weights0_Offset_1 w_a0_Weights0_Offset_2
  subst E_w0
  have R_w1 := rows_rw (f := wtF) (by decide) r_a0_Weights1 (fun k => (⟨z_a0_Weights1_Scale_0 k, z_a0_Weights1_Scale_1 k, z_a0_Weights1_Scale_2 k, z_a0_Weights1_Offset_0 k, z_a0_Weights1_Offset_1 k, z_a0_Weights1_Offset_2 k⟩ : Wt)) (wt_in e_a0_Weights1_Scale_0 e_a0_Weights1_Scale_1 e_a0_Weights1_Scale_2 e_a0_Weights1_Offset_0 e_a0_Weights1_Offset_1 e_a0_Weights1_Offset_2)
  have N_w1 := r_a0_Weights1.2.2
  obtain ⟨l_w1, h_w1⟩ : ∃ l, (List.range len_a0_Weights1).map (fun k => (⟨z_a0_Weights1_Scale_0 k, z_a0_Weights1_Scale_1 k, z_a0_Weights1_Scale_2 k, z_a0_Weights1_Offset_0 k, z_a0_Weights1_Offset_1 k, z_a0_Weights1_Offset_2 k⟩ : Wt)) = l := ⟨_, rfl⟩
  rw [h_w1] at R_w1
  have E_w1 : len_a0_Weights1 = l_w1.length := by rw [← h_w1]; simp
  have M_w1 : l_w1.length ≤ 281474976710656 := by omega
  clear r_a0_Weights1 h_w1 e_a0_Weights1_Scale_0 e_a0_Weights1_Scale_1 e_a0_Weights1_Scale_2 e_a0_Weights1_Offset_0 e_a0_Weights1_Offset_1 e_a0_Weights1_Offset_2 w_a0_Weights1_Scale_0 w_a0_Weights1_Scale_1 w_a0_Weights1_Scale_2 w_a0_Weights1_Offset_0 w_a0_Weights1_Offset_1 w_a0_Weights1_Offset_2
  subst E_w1
  have R_op := rows_rw (f := moF) (by decide) r_a0_Ops (fun k => (⟨z_a0_Ops_Kind k, z_a0_Ops_A k, z_a0_Ops_B k⟩ : Mo)) (mo_in e_a0_Ops_Kind e_a0_Ops_A e_a0_Ops_B)
  have N_op := r_a0_Ops.2.2
  obtain ⟨l_op, h_op⟩ : ∃ l, (List.range len_a0_Ops).map (fun k => (⟨z_a0_Ops_Kind k, z_a0_Ops_A k, z_a0_Ops_B k⟩ : Mo)) = l := ⟨_, rfl⟩
  rw [h_op] at R_op
  have E_op : len_a0_Ops = l_op.length := by rw [← h_op]; simp
  have M_op : l_op.length ≤ 281474976710656 := by omega
  clear r_a0_Ops h_op e_a0_Ops_Kind e_a0_Ops_A e_a0_Ops_B w_a0_Ops_Kind w_a0_Ops_A w_a0_Ops_B
  subst E_op
  obtain ⟨hri, _, hnc, hc8, _⟩ := w_a1_Cycle
  obtain ⟨cy, hcy⟩ : ∃ l, l = (List.range len_a1_Cycle).map z_a1_Cycle := ⟨_, rfl⟩
  have hs : SpAt w w.heap.size ⟨a1_Wide, a1_High, a1_FrameBits, a1_PocType, a1_PocBits, a1_NonRef, cy, a1_Refs, a1_Delay⟩ a1_Cycle := SpAt.arg hri hcy
  have hcl : len_a1_Cycle = cy.length := by rw [hcy]; simp
  have hn : cy.length ≤ 1152921504606846976 := by omega
  clear hcy hri
  subst hcl
  have HD : HdAt w w.heap.size ⟨a0_First, a0_Count, a0_Type, a0_FrameNum, a0_Id, a0_Poc, a0_Spatial, a0_Active0, a0_Active1, l_m0, l_m1, a0_Log, a0_LogC, l_w0, l_w1, a0_LongKey, l_op, a0_Qp, a0_Off, a0_A, a0_B⟩ ⟨a0_Mods0, cap_a0_Mods0, a0_Mods1, cap_a0_Mods1, a0_Weights0, cap_a0_Weights0, a0_Weights1, cap_a0_Weights1, a0_Ops, cap_a0_Ops⟩ := ⟨R_m0, R_m1, R_w0, R_w1, R_op⟩
  have HL : HdLen ⟨a0_First, a0_Count, a0_Type, a0_FrameNum, a0_Id, a0_Poc, a0_Spatial, a0_Active0, a0_Active1, l_m0, l_m1, a0_Log, a0_LogC, l_w0, l_w1, a0_LongKey, l_op, a0_Qp, a0_Off, a0_A, a0_B⟩ := ⟨M_m0, M_m1, M_w0, M_w1, M_op⟩
  have away : ∀ A, A = a0_Mods0 ∨ A = a0_Mods1 ∨ A = a0_Weights0 ∨ A = a0_Weights1 ∨ A = a0_Ops → ∀ ad, A = some ad → ad.block < w.heap.size := by
    rintro A (rfl | rfl | rfl | rfl | rfl) ad e
    · exact lt_a0_Mods0 ad e
    · exact lt_a0_Mods1 ad e
    · exact lt_a0_Weights0 ad e
    · exact lt_a0_Weights1 ad e
    · exact lt_a0_Ops ad e
  cases hm : mayHd ⟨a0_First, a0_Count, a0_Type, a0_FrameNum, a0_Id, a0_Poc, a0_Spatial, a0_Active0, a0_Active1, l_m0, l_m1, a0_Log, a0_LogC, l_w0, l_w1, a0_LongKey, l_op, a0_Qp, a0_Off, a0_A, a0_B⟩ ⟨a1_Wide, a1_High, a1_FrameBits, a1_PocType, a1_PocBits, a1_NonRef, cy, a1_Refs, a1_Delay⟩ ⟨a2_Cabac, a2_Weighted, a2_BiPred, a2_Qp, a2_ChromaQp, a2_Constrained, a2_Deblock, a2_Active0, a2_Active1⟩ a3 a4
  · exact back_no ⟨a0_First, a0_Count, a0_Type, a0_FrameNum, a0_Id, a0_Poc, a0_Spatial, a0_Active0, a0_Active1, l_m0, l_m1, a0_Log, a0_LogC, l_w0, l_w1, a0_LongKey, l_op, a0_Qp, a0_Off, a0_A, a0_B⟩ ⟨a0_Mods0, cap_a0_Mods0, a0_Mods1, cap_a0_Mods1, a0_Weights0, cap_a0_Weights0, a0_Weights1, cap_a0_Weights1, a0_Ops, cap_a0_Ops⟩ ⟨a1_Wide, a1_High, a1_FrameBits, a1_PocType, a1_PocBits, a1_NonRef, cy, a1_Refs, a1_Delay⟩ a1_Cycle cap_a1_Cycle ⟨a2_Cabac, a2_Weighted, a2_BiPred, a2_Qp, a2_ChromaQp, a2_Constrained, a2_Deblock, a2_Active0, a2_Active1⟩ a3 a4 a5 HD HL hs hn hm
  · exact back_yes ⟨a0_First, a0_Count, a0_Type, a0_FrameNum, a0_Id, a0_Poc, a0_Spatial, a0_Active0, a0_Active1, l_m0, l_m1, a0_Log, a0_LogC, l_w0, l_w1, a0_LongKey, l_op, a0_Qp, a0_Off, a0_A, a0_B⟩ ⟨a0_Mods0, cap_a0_Mods0, a0_Mods1, cap_a0_Mods1, a0_Weights0, cap_a0_Weights0, a0_Weights1, cap_a0_Weights1, a0_Ops, cap_a0_Ops⟩ ⟨a1_Wide, a1_High, a1_FrameBits, a1_PocType, a1_PocBits, a1_NonRef, cy, a1_Refs, a1_Delay⟩ a1_Cycle cap_a1_Cycle ⟨a2_Cabac, a2_Weighted, a2_BiPred, a2_Qp, a2_ChromaQp, a2_Constrained, a2_Deblock, a2_Active0, a2_Active1⟩ a3 a4 a5 HD HL hs hn hm away
end Go.Proofs.Ytjokibagciehlaa
