/- The document's PutPps. Printed by gen-putpp2.py. -/
import Derived.Test.YtegfglpaabddlaaParD
import Derived.Test.YtegfglpaabddlaaParY
import Derived.Test.YtegfglpaabddlaaBitQ
import Derived.Test.YtegfglpaabddlaaBitK
import Derived.StillTailTactics
import Derived.Deep.RegionHeld3
import Derived.Deep.AppendLies
namespace Go.Proofs.Ytegfglpaabddlaa
open Go.RowKit
set_option linter.unusedVariables false
set_option linter.unusedSimpArgs false

theorem flag2_any (b : Bool) (w : World) : Calls Try.prog 54 #[.bool b] w fun e w' => e = .returned (.int .i64 (bu b)) ∧ w' = w := by
  cases b
  all_goals
    go_enter Try.func54, Try.ntmps54
    go_wp2_with fail
    go_ret
    exact ⟨rfl, rfl⟩
theorem bu_u8 (b : Bool) : IntKind.u8.wrap (bu b) = bu b := by cases b <;> rfl
theorem own_bits (w : World) (l : List Bool) (h : l.length ≤ 100) : (w.alloc (.cells (bitsV l).toArray 5)).ownsRow w.heap.size 5 1 (.slice (some ⟨w.heap.size, 0, none⟩) l.length l.length) l.length (bitsV l) := by
  have := World.ownsRow_lit (base := w.heap.size) (e := 5) (size := 1) w (bitsV l).toArray l.length (Nat.le_refl _) (by unfold maxLen; omega) (by simp [bitsV])
  simpa using this
theorem trL_le (b : List Bool) : (trL b).length ≤ b.length + 8 := by
  have := trL_len b
  omega
theorem putpp2_no {p : Pp} (h : mayPp p = false) (w : World) : Calls Try.prog 23 #[.agg (ppV p)] w fun e w' => e = .returned (.tuple #[.string ⟨#[]⟩, .int .i64 301]) ∧ Below w.heap.size w w' := by
  have hM := maypp2_any p (w.alloc (.cells (ppV p) 43))
  rw [h] at hM
  have hb := (Below.refl w.heap.size w).alloc (Nat.le_refl _) (.cells (ppV p) 43)
  obtain ⟨p0, p1, p2, p3, p4, p5, p6, p7, p8⟩ := p
  simp only [ppV] at *
  have HM := Lib.hid hM
  have HB := Lib.hid hb
  clear hM hb h
  go_enter Try.func23, Try.ntmps23
  go_wp2_with fail
  refine HM.out.mono ?_
  rintro e w1 ⟨rfl, hb⟩
  replace HB := Lib.hid (HB.out.trans (hb.mono HB.out.size))
  clear hb
  go_wp2_with fail
  go_ret2
  exact ⟨rfl, HB.out⟩

set_option maxRecDepth 100000 in
set_option maxHeartbeats 6400000 in
theorem putpp2_0 (p0 p1 : Bool) (p3 p4 : Int) (p5 p6 : Bool) (p7 p8 : Int) (h : PpOk ⟨p0, p1, 0, p3, p4, p5, p6, p7, p8⟩) (w : World) :
    Calls Try.prog 23 #[.agg (ppV ⟨p0, p1, 0, p3, p4, p5, p6, p7, p8⟩)] w fun e w' => e = .returned (.tuple #[.string (packS (trL (ppL ⟨p0, p1, 0, p3, p4, p5, p6, p7, p8⟩))), .int .i64 0]) ∧ Below w.heap.size w w' := by
  have hM := maypp2_any ⟨p0, p1, 0, p3, p4, p5, p6, p7, p8⟩ (w.alloc (.cells (ppV ⟨p0, p1, 0, p3, p4, p5, p6, p7, p8⟩) 43))
  rw [(mayPp_iff _).2 h] at hM
  have hB0 := (Below.refl w.heap.size w).alloc (Nat.le_refl _) (.cells (ppV ⟨p0, p1, 0, p3, p4, p5, p6, p7, p8⟩) 43)
  have hP0 := Bk.new w 43 (ppV ⟨p0, p1, 0, p3, p4, p5, p6, p7, p8⟩)
  obtain ⟨_, ⟨q1, q2⟩, ⟨c1, c2⟩, ⟨d1, d2⟩, ⟨e1, e2⟩⟩ := h
  simp only at q1 q2 c1 c2 d1 d2 e1 e2
  have hu3 := ue2_any p3.toNat
  have hu7 := ue2_any (p7 - 1).toNat
  have hu8 := ue2_any (p8 - 1).toNat
  have hs4 := se2_any p4
  rw [show ((p3.toNat : Nat) : Int) = p3 by omega] at hu3
  rw [show (((p7 - 1).toNat : Nat) : Int) = p7 - 1 by omega] at hu7
  rw [show (((p8 - 1).toNat : Nat) : Int) = p8 - 1 by omega] at hu8
  have l3 := ueL_le (x := p3.toNat) (by omega)
  have l7 := ueL_le (x := (p7 - 1).toNat) (by omega)
  have l8 := ueL_le (x := (p8 - 1).toNat) (by omega)
  have l4 := seL_le (x := p4) (by omega) (by omega)
  have hL : ppL ⟨p0, p1, 0, p3, p4, p5, p6, p7, p8⟩ = [p0, p1, false, false] ++ ueL p3.toNat ++ seL p4 ++ [p5, p6] ++ ueL (p7 - 1).toNat ++ ueL (p8 - 1).toNat := by
    have e : dig (0 : Int).toNat 2 = [false, false] := by decide
    simp only [ppL, e]
    simp
  rw [hL]
  clear hL
  obtain ⟨SS, hSS⟩ : ∃ S, S = packS (trL ([p0, p1, false, false] ++ ueL p3.toNat ++ seL p4 ++ [p5, p6] ++ ueL (p7 - 1).toNat ++ ueL (p8 - 1).toNat)) := ⟨_, rfl⟩
  rw [← hSS]
  generalize ueL p3.toNat = L3 at *
  generalize ueL (p7 - 1).toNat = L7 at *
  generalize ueL (p8 - 1).toNat = L8 at *
  generalize seL p4 = L4 at *
  have HSS := Lib.hid hSS
  clear hSS
  have u0 := bu_u8 p0
  have u1 := bu_u8 p1
  have u5 := bu_u8 p5
  have u6 := bu_u8 p6
  have F0 := Lib.hid (flag2_any p0)
  have F1 := Lib.hid (flag2_any p1)
  have F5 := Lib.hid (flag2_any p5)
  have F6 := Lib.hid (flag2_any p6)
  have HU3 := Lib.hid (fun w => hu3 w (by omega))
  have HU7 := Lib.hid (fun w => hu7 w (by omega))
  have HU8 := Lib.hid (fun w => hu8 w (by omega))
  have HS4 := Lib.hid (fun w => hs4 w (by omega))
  simp only [ppV] at *
  have HM := Lib.hid hM
  have HB := Lib.hid hB0
  have HP := Lib.hid hP0
  clear hM hB0 hP0 hu3 hu7 hu8 hs4
  go_enter Try.func23, Try.ntmps23
  go_wp2_with fail
  refine HM.out.mono ?_
  rintro e w1 ⟨rfl, hb⟩
  replace HP := Lib.hid (HP.out.go hb)
  replace HB := Lib.hid (HB.out.trans (hb.mono HB.out.size))
  clear hb HM
  have k0 := HP.out.cell 0
  have k1 := HP.out.cell 1
  have k2 := HP.out.cell 2
  simp at k0 k1 k2
  go_wp2_with fail
  refine wp_region_still_tail 16 (by kernel_rfl) (by kernel_rfl) ?_
  simp only [List.take_succ_cons, List.take_zero, List.drop_succ_cons, List.drop_zero]
  change wpStill _ _ (World.drew _) (fun a' => wpList _ _ _ _ a' (World.drew _)) _ _
  repeat still_step
  still_call (F0.out _)
  repeat still_step
  still_call (F1.out _)
  repeat still_step
  refine wpStill_nil ?_
  change wpList _ _ _ _ _ (World.drew _)
  have k3 := HP.out.cell 3
  simp at k3
  have hgP := HP.out.lt
  have HGP := Lib.hid hgP
  go_wp2_with fail
  have hz := own_bits w1 [p0, p1, false, false] (by simp)
  obtain ⟨wz, hwz⟩ : ∃ wz, wz = (w1.alloc (.cells #[.int .u8 (bu p0), .int .u8 (bu p1), .int .u8 0, .int .u8 0] 5)).drew := ⟨_, rfl⟩
  have hG : BGrow wz w1.heap.size (.slice (some ⟨w1.heap.size, 0, none⟩) 4 4) [p0, p1, false, false] (.slice (some ⟨w1.heap.size, 0, none⟩) 4 4) wz := BGrow.refl (by rw [hwz]; exact own_drew hz)
  have hbz : w1.heap.size ≤ wz.heap.size := by rw [hwz]; simp
  have HPZ : Hid (Bk wz w.heap.size 43 #[.bool p0, .bool p1, .int .i64 0, .int .i64 p3, .int .i64 p4, .bool p5, .bool p6, .int .i64 p7, .int .i64 p8]) := Lib.hid (by rw [hwz]; exact (HP.out.alloc _).drew)
  have HBZ : Hid (Below w.heap.size w wz) := Lib.hid (by rw [hwz]; exact (HB.out.alloc HB.out.size _).drew)
  rw [← hwz]
  have HG := Lib.hid hG
  clear hG hz hwz HP HB k0 k1 k2 k3
  obtain ⟨M, hM⟩ : ∃ M, M = w1.heap.size := ⟨_, rfl⟩
  rw [← hM] at HG hbz hgP ⊢
  have HMM := Lib.hid hM
  clear hM
  obtain ⟨V0, hV0⟩ : ∃ V, V = Value.slice (some ⟨M, 0, none⟩) 4 4 := ⟨_, rfl⟩
  rw [← hV0] at HG
  have hVo : V0.ownBlock = some M := by rw [hV0]; rfl
  have HVo := Lib.hid hVo
  rw [← hV0]
  clear hV0 hVo
  have HT : Hid (∀ w' : World, Touch (fun k => V0.ownBlock = some k) wz w' → Bk w' w.heap.size 43 #[.bool p0, .bool p1, .int .i64 0, .int .i64 p3, .int .i64 p4, .bool p5, .bool p6, .int .i64 p7, .int .i64 p8]) := Lib.hid (fun w' ht => HPZ.out.touch ht (fun q => by rw [HVo.out] at q; injection q; omega))
  refine (HU3.out _).mono ?_
  rintro e wc1 ⟨vd1, rfl, hvd, hbd⟩
  go_wp2_with (at_builtin; refine wpList_app rfl _ _ rfl M V0 _ vd1 ([p0, p1, false, false]) L3 rfl rfl HG.out (by have := HG.out.2.1.size; omega) hbd hvd (by simp only [List.length_append, List.length_cons, List.length_nil]; omega) ?_; intro v2 wx2 hG; have kk := HT.out _ hG.2.1; have k4 := kk.cell 4; simp at k4)
  replace HG := Lib.hid hG
  clear hG hvd hbd
  have k4' := k4
  refine (HS4.out _).mono ?_
  rintro e wc2 ⟨vd2, rfl, hvd, hbd⟩
  go_wp2_with (at_builtin; refine wpList_app rfl _ _ rfl M V0 _ vd2 ([p0, p1, false, false] ++ L3) L4 rfl rfl HG.out (by have := HG.out.2.1.size; omega) hbd hvd (by simp only [List.length_append, List.length_cons, List.length_nil]; omega) ?_; intro v3 wx3 hG; have kk := HT.out _ hG.2.1; have k5 := kk.cell 5; have k6 := kk.cell 6; simp at k5 k6)
  replace HG := Lib.hid hG
  clear hG hvd hbd
  obtain ⟨i0, hi, hz0, hz1, hz2⟩ := info_parts u8_info
  have hbs : M ≤ wx3.heap.size := by have := HG.out.2.1.size; omega
  have hgx : w.heap.size < wx3.heap.size := by omega
  have hgo : some w.heap.size ≠ v3.ownBlock := fun e => by have := (HG.out.1.lt _ e.symm).1; omega
  have hlen : ([p0, p1, false, false] ++ L3 ++ L4).length ≤ 200 := by simp only [List.length_append, List.length_cons, List.length_nil]; omega
  obtain ⟨LB, hLB⟩ : ∃ L, L = [p0, p1, false, false] ++ L3 ++ L4 := ⟨_, rfl⟩
  rw [← hLB] at HG hlen
  have HLB := Lib.hid hLB
  clear hLB
  go_region_held3 (fun w' => w'.cell? ⟨w.heap.size, 5, none⟩ = some (.bool p5) ∧ w'.cell? ⟨w.heap.size, 6, none⟩ = some (.bool p6))
    (first
      | (refine ⟨?_, ?_⟩; · (simp only [World.cell?_drew]; exact k5); · (simp only [World.cell?_drew]; exact k6))
      | (go_split_ands; refine ⟨?_, ?_⟩; · ((try simp only [World.cell?_drew]); rw [World.cell?_alloc_lt _ _ _ (by simpa using hgx)]; exact k5); · ((try simp only [World.cell?_drew]); rw [World.cell?_alloc_lt _ _ _ (by simpa using hgx)]; exact k6))
      | (go_split_ands; refine ⟨(hg1.cell_far _ (by simp; omega) hgo).trans (by assumption), (hg1.cell_far _ (by simp; omega) hgo).trans (by assumption)⟩)
      | go_keep)
    (first
      | (go_at_call 54; refine (flag2_any _ _).mono ?_; rintro e w' ⟨rfl, rfl⟩)
      | (refine step_append_lies _ (by rfl) _ _ 56 (by rfl) M 5 i0 (.int .u8 0) 1 1 Try.underlying56 hi hz0 hz1 hz2 rfl (by omega) _ LB.length _ (by rfl) ((HG.out.1.alloc _).drew) ⟨wx3.heap.size, 0, none⟩ 2 2 [.int .u8 (bu p5), .int .u8 (bu p6)] (by rfl) (by rfl) (World.news_of_block (cs := #[.int .u8 (bu p5), .int .u8 (bu p6)]) (t := 5) (fr := (0, 0)) (heap_alloc_new wx3 _)) (by simp [Value.oneCell']) (by omega) (by unfold maxLen; omega) (by omega) (by simp; omega) (wx3.heap.size + 1) (by simp) ?_; intro gg cap w6 hown1 hg1 hat hlt1))
  have hG6 : BGrow wz M V0 (LB ++ [p5, p6]) (.slice (some ⟨gg, 0, none⟩) (LB.length + 2) cap) w6 := (HG.out.go ((Below.refl _ _).alloc (Nat.le_refl _) (.cells #[.int .u8 (bu p5), .int .u8 (bu p6)] 5)).drew).app (by rw [List.length_append, bitsV_append]; exact hown1) hg1 (N := wx3.heap.size + 1) (by rcases hat with q | q; exact .inl q.symm; exact .inr (by rw [q]; rfl)) (by simp)
  have kk := HT.out _ hG6.2.1
  have k7 := kk.cell 7
  have k8 := kk.cell 8
  simp at k7 k8
  replace HG := Lib.hid hG6
  clear hG6 hown1 hg1 hat hlt1 hgo hgx hbs kk
  obtain ⟨v4, hv4⟩ : ∃ v, v = Value.slice (some ⟨gg, 0, none⟩) (LB.length + 2) cap := ⟨_, rfl⟩
  rw [← hv4] at HG ⊢
  clear hv4
  go_wp2_with fail
  refine (HU7.out _).mono ?_
  rintro e wc4 ⟨vd4, rfl, hvd, hbd⟩
  go_wp2_with (at_builtin; refine wpList_app rfl _ _ rfl M V0 _ vd4 (LB ++ [p5, p6]) L7 rfl rfl HG.out (by have := HG.out.2.1.size; omega) hbd hvd (by simp only [List.length_append, List.length_cons, List.length_nil]; omega) ?_; intro v5 wx5 hG; have kk := HT.out _ hG.2.1; have k8 := kk.cell 8; simp at k8)
  replace HG := Lib.hid hG
  clear hG hvd hbd
  refine (HU8.out _).mono ?_
  rintro e wc5 ⟨vd5, rfl, hvd, hbd⟩
  go_wp2_with (at_builtin; refine wpList_app rfl _ _ rfl M V0 _ vd5 (LB ++ [p5, p6] ++ L7) L8 rfl rfl HG.out (by have := HG.out.2.1.size; omega) hbd hvd (by simp only [List.length_append, List.length_cons, List.length_nil]; omega) ?_; intro v6 wx6 hG; have kk := HT.out _ hG.2.1; skip)
  replace HG := Lib.hid hG
  clear hG hvd hbd
  have hlenB : (LB ++ [p5, p6] ++ L7 ++ L8).length ≤ 400 := by simp only [List.length_append, List.length_cons, List.length_nil]; omega
  have hbs : M ≤ wx6.heap.size := by have := HG.out.2.1.size; omega
  obtain ⟨BB, hBB⟩ : ∃ L, L = LB ++ [p5, p6] ++ L7 ++ L8 := ⟨_, rfl⟩
  rw [← hBB] at HG hlenB
  have HBB := Lib.hid hBB
  clear hBB
  refine (trail2_any M v6 _ wx6 HG.out.1 hbs (by omega)).mono ?_
  rintro e wt ⟨vt, rfl, hGt⟩
  have hbt : Below w.heap.size w wt := (Below.touch (Below.touch HBZ.out HG.out.2.1 (fun i hi q => by rw [HVo.out] at q; injection q; omega) (Nat.le_refl _)) hGt.2.1 (fun i hi q => by have := (HG.out.1.lt _ q).1; omega) (Nat.le_refl _))
  obtain ⟨A, c, rfl, _, _, hrd⟩ := Rd.bits hGt.1
  have HBT := Lib.hid hbt
  have HRD := Lib.hid hrd
  have hlt8 := trL_le BB
  have hlt9 : (trL BB).length ≤ 1100000 := by omega
  obtain ⟨TB, hTB⟩ : ∃ L, L = trL BB := ⟨_, rfl⟩
  rw [← hTB] at HRD hlt9
  rw [← hTB]
  have HTB := Lib.hid hTB
  clear hlt8 hTB
  clear hbt hrd hGt
  go_wp2_with fail
  refine (pack_any A c wt.heap.size TB wt HRD.out (Nat.le_refl _) hlt9).mono ?_
  rintro e wp ⟨rfl, hb⟩
  replace HBT := Lib.hid (HBT.out.trans (hb.mono HBT.out.size))
  clear hb HRD
  go_wp2_with fail
  go_ret2
  have e9 : packS TB = SS := by rw [HSS.out, HTB.out, HBB.out, HLB.out]; try simp
  exact ⟨by rw [← e9]; rfl, HBT.out⟩
set_option maxRecDepth 100000 in
set_option maxHeartbeats 6400000 in
theorem putpp2_1 (p0 p1 : Bool) (p3 p4 : Int) (p5 p6 : Bool) (p7 p8 : Int) (h : PpOk ⟨p0, p1, 1, p3, p4, p5, p6, p7, p8⟩) (w : World) :
    Calls Try.prog 23 #[.agg (ppV ⟨p0, p1, 1, p3, p4, p5, p6, p7, p8⟩)] w fun e w' => e = .returned (.tuple #[.string (packS (trL (ppL ⟨p0, p1, 1, p3, p4, p5, p6, p7, p8⟩))), .int .i64 0]) ∧ Below w.heap.size w w' := by
  have hM := maypp2_any ⟨p0, p1, 1, p3, p4, p5, p6, p7, p8⟩ (w.alloc (.cells (ppV ⟨p0, p1, 1, p3, p4, p5, p6, p7, p8⟩) 43))
  rw [(mayPp_iff _).2 h] at hM
  have hB0 := (Below.refl w.heap.size w).alloc (Nat.le_refl _) (.cells (ppV ⟨p0, p1, 1, p3, p4, p5, p6, p7, p8⟩) 43)
  have hP0 := Bk.new w 43 (ppV ⟨p0, p1, 1, p3, p4, p5, p6, p7, p8⟩)
  obtain ⟨_, ⟨q1, q2⟩, ⟨c1, c2⟩, ⟨d1, d2⟩, ⟨e1, e2⟩⟩ := h
  simp only at q1 q2 c1 c2 d1 d2 e1 e2
  have hu3 := ue2_any p3.toNat
  have hu7 := ue2_any (p7 - 1).toNat
  have hu8 := ue2_any (p8 - 1).toNat
  have hs4 := se2_any p4
  rw [show ((p3.toNat : Nat) : Int) = p3 by omega] at hu3
  rw [show (((p7 - 1).toNat : Nat) : Int) = p7 - 1 by omega] at hu7
  rw [show (((p8 - 1).toNat : Nat) : Int) = p8 - 1 by omega] at hu8
  have l3 := ueL_le (x := p3.toNat) (by omega)
  have l7 := ueL_le (x := (p7 - 1).toNat) (by omega)
  have l8 := ueL_le (x := (p8 - 1).toNat) (by omega)
  have l4 := seL_le (x := p4) (by omega) (by omega)
  have hL : ppL ⟨p0, p1, 1, p3, p4, p5, p6, p7, p8⟩ = [p0, p1, false, true] ++ ueL p3.toNat ++ seL p4 ++ [p5, p6] ++ ueL (p7 - 1).toNat ++ ueL (p8 - 1).toNat := by
    have e : dig (1 : Int).toNat 2 = [false, true] := by decide
    simp only [ppL, e]
    simp
  rw [hL]
  clear hL
  obtain ⟨SS, hSS⟩ : ∃ S, S = packS (trL ([p0, p1, false, true] ++ ueL p3.toNat ++ seL p4 ++ [p5, p6] ++ ueL (p7 - 1).toNat ++ ueL (p8 - 1).toNat)) := ⟨_, rfl⟩
  rw [← hSS]
  generalize ueL p3.toNat = L3 at *
  generalize ueL (p7 - 1).toNat = L7 at *
  generalize ueL (p8 - 1).toNat = L8 at *
  generalize seL p4 = L4 at *
  have HSS := Lib.hid hSS
  clear hSS
  have u0 := bu_u8 p0
  have u1 := bu_u8 p1
  have u5 := bu_u8 p5
  have u6 := bu_u8 p6
  have F0 := Lib.hid (flag2_any p0)
  have F1 := Lib.hid (flag2_any p1)
  have F5 := Lib.hid (flag2_any p5)
  have F6 := Lib.hid (flag2_any p6)
  have HU3 := Lib.hid (fun w => hu3 w (by omega))
  have HU7 := Lib.hid (fun w => hu7 w (by omega))
  have HU8 := Lib.hid (fun w => hu8 w (by omega))
  have HS4 := Lib.hid (fun w => hs4 w (by omega))
  simp only [ppV] at *
  have HM := Lib.hid hM
  have HB := Lib.hid hB0
  have HP := Lib.hid hP0
  clear hM hB0 hP0 hu3 hu7 hu8 hs4
  go_enter Try.func23, Try.ntmps23
  go_wp2_with fail
  refine HM.out.mono ?_
  rintro e w1 ⟨rfl, hb⟩
  replace HP := Lib.hid (HP.out.go hb)
  replace HB := Lib.hid (HB.out.trans (hb.mono HB.out.size))
  clear hb HM
  have k0 := HP.out.cell 0
  have k1 := HP.out.cell 1
  have k2 := HP.out.cell 2
  simp at k0 k1 k2
  go_wp2_with fail
  refine wp_region_still_tail 16 (by kernel_rfl) (by kernel_rfl) ?_
  simp only [List.take_succ_cons, List.take_zero, List.drop_succ_cons, List.drop_zero]
  change wpStill _ _ (World.drew _) (fun a' => wpList _ _ _ _ a' (World.drew _)) _ _
  repeat still_step
  still_call (F0.out _)
  repeat still_step
  still_call (F1.out _)
  repeat still_step
  refine wpStill_nil ?_
  change wpList _ _ _ _ _ (World.drew _)
  have k3 := HP.out.cell 3
  simp at k3
  have hgP := HP.out.lt
  have HGP := Lib.hid hgP
  go_wp2_with fail
  have hz := own_bits w1 [p0, p1, false, true] (by simp)
  obtain ⟨wz, hwz⟩ : ∃ wz, wz = (w1.alloc (.cells #[.int .u8 (bu p0), .int .u8 (bu p1), .int .u8 0, .int .u8 1] 5)).drew := ⟨_, rfl⟩
  have hG : BGrow wz w1.heap.size (.slice (some ⟨w1.heap.size, 0, none⟩) 4 4) [p0, p1, false, true] (.slice (some ⟨w1.heap.size, 0, none⟩) 4 4) wz := BGrow.refl (by rw [hwz]; exact own_drew hz)
  have hbz : w1.heap.size ≤ wz.heap.size := by rw [hwz]; simp
  have HPZ : Hid (Bk wz w.heap.size 43 #[.bool p0, .bool p1, .int .i64 1, .int .i64 p3, .int .i64 p4, .bool p5, .bool p6, .int .i64 p7, .int .i64 p8]) := Lib.hid (by rw [hwz]; exact (HP.out.alloc _).drew)
  have HBZ : Hid (Below w.heap.size w wz) := Lib.hid (by rw [hwz]; exact (HB.out.alloc HB.out.size _).drew)
  rw [← hwz]
  have HG := Lib.hid hG
  clear hG hz hwz HP HB k0 k1 k2 k3
  obtain ⟨M, hM⟩ : ∃ M, M = w1.heap.size := ⟨_, rfl⟩
  rw [← hM] at HG hbz hgP ⊢
  have HMM := Lib.hid hM
  clear hM
  obtain ⟨V0, hV0⟩ : ∃ V, V = Value.slice (some ⟨M, 0, none⟩) 4 4 := ⟨_, rfl⟩
  rw [← hV0] at HG
  have hVo : V0.ownBlock = some M := by rw [hV0]; rfl
  have HVo := Lib.hid hVo
  rw [← hV0]
  clear hV0 hVo
  have HT : Hid (∀ w' : World, Touch (fun k => V0.ownBlock = some k) wz w' → Bk w' w.heap.size 43 #[.bool p0, .bool p1, .int .i64 1, .int .i64 p3, .int .i64 p4, .bool p5, .bool p6, .int .i64 p7, .int .i64 p8]) := Lib.hid (fun w' ht => HPZ.out.touch ht (fun q => by rw [HVo.out] at q; injection q; omega))
  refine (HU3.out _).mono ?_
  rintro e wc1 ⟨vd1, rfl, hvd, hbd⟩
  go_wp2_with (at_builtin; refine wpList_app rfl _ _ rfl M V0 _ vd1 ([p0, p1, false, true]) L3 rfl rfl HG.out (by have := HG.out.2.1.size; omega) hbd hvd (by simp only [List.length_append, List.length_cons, List.length_nil]; omega) ?_; intro v2 wx2 hG; have kk := HT.out _ hG.2.1; have k4 := kk.cell 4; simp at k4)
  replace HG := Lib.hid hG
  clear hG hvd hbd
  have k4' := k4
  refine (HS4.out _).mono ?_
  rintro e wc2 ⟨vd2, rfl, hvd, hbd⟩
  go_wp2_with (at_builtin; refine wpList_app rfl _ _ rfl M V0 _ vd2 ([p0, p1, false, true] ++ L3) L4 rfl rfl HG.out (by have := HG.out.2.1.size; omega) hbd hvd (by simp only [List.length_append, List.length_cons, List.length_nil]; omega) ?_; intro v3 wx3 hG; have kk := HT.out _ hG.2.1; have k5 := kk.cell 5; have k6 := kk.cell 6; simp at k5 k6)
  replace HG := Lib.hid hG
  clear hG hvd hbd
  obtain ⟨i0, hi, hz0, hz1, hz2⟩ := info_parts u8_info
  have hbs : M ≤ wx3.heap.size := by have := HG.out.2.1.size; omega
  have hgx : w.heap.size < wx3.heap.size := by omega
  have hgo : some w.heap.size ≠ v3.ownBlock := fun e => by have := (HG.out.1.lt _ e.symm).1; omega
  have hlen : ([p0, p1, false, true] ++ L3 ++ L4).length ≤ 200 := by simp only [List.length_append, List.length_cons, List.length_nil]; omega
  obtain ⟨LB, hLB⟩ : ∃ L, L = [p0, p1, false, true] ++ L3 ++ L4 := ⟨_, rfl⟩
  rw [← hLB] at HG hlen
  have HLB := Lib.hid hLB
  clear hLB
  go_region_held3 (fun w' => w'.cell? ⟨w.heap.size, 5, none⟩ = some (.bool p5) ∧ w'.cell? ⟨w.heap.size, 6, none⟩ = some (.bool p6))
    (first
      | (refine ⟨?_, ?_⟩; · (simp only [World.cell?_drew]; exact k5); · (simp only [World.cell?_drew]; exact k6))
      | (go_split_ands; refine ⟨?_, ?_⟩; · ((try simp only [World.cell?_drew]); rw [World.cell?_alloc_lt _ _ _ (by simpa using hgx)]; exact k5); · ((try simp only [World.cell?_drew]); rw [World.cell?_alloc_lt _ _ _ (by simpa using hgx)]; exact k6))
      | (go_split_ands; refine ⟨(hg1.cell_far _ (by simp; omega) hgo).trans (by assumption), (hg1.cell_far _ (by simp; omega) hgo).trans (by assumption)⟩)
      | go_keep)
    (first
      | (go_at_call 54; refine (flag2_any _ _).mono ?_; rintro e w' ⟨rfl, rfl⟩)
      | (refine step_append_lies _ (by rfl) _ _ 56 (by rfl) M 5 i0 (.int .u8 0) 1 1 Try.underlying56 hi hz0 hz1 hz2 rfl (by omega) _ LB.length _ (by rfl) ((HG.out.1.alloc _).drew) ⟨wx3.heap.size, 0, none⟩ 2 2 [.int .u8 (bu p5), .int .u8 (bu p6)] (by rfl) (by rfl) (World.news_of_block (cs := #[.int .u8 (bu p5), .int .u8 (bu p6)]) (t := 5) (fr := (0, 0)) (heap_alloc_new wx3 _)) (by simp [Value.oneCell']) (by omega) (by unfold maxLen; omega) (by omega) (by simp; omega) (wx3.heap.size + 1) (by simp) ?_; intro gg cap w6 hown1 hg1 hat hlt1))
  have hG6 : BGrow wz M V0 (LB ++ [p5, p6]) (.slice (some ⟨gg, 0, none⟩) (LB.length + 2) cap) w6 := (HG.out.go ((Below.refl _ _).alloc (Nat.le_refl _) (.cells #[.int .u8 (bu p5), .int .u8 (bu p6)] 5)).drew).app (by rw [List.length_append, bitsV_append]; exact hown1) hg1 (N := wx3.heap.size + 1) (by rcases hat with q | q; exact .inl q.symm; exact .inr (by rw [q]; rfl)) (by simp)
  have kk := HT.out _ hG6.2.1
  have k7 := kk.cell 7
  have k8 := kk.cell 8
  simp at k7 k8
  replace HG := Lib.hid hG6
  clear hG6 hown1 hg1 hat hlt1 hgo hgx hbs kk
  obtain ⟨v4, hv4⟩ : ∃ v, v = Value.slice (some ⟨gg, 0, none⟩) (LB.length + 2) cap := ⟨_, rfl⟩
  rw [← hv4] at HG ⊢
  clear hv4
  go_wp2_with fail
  refine (HU7.out _).mono ?_
  rintro e wc4 ⟨vd4, rfl, hvd, hbd⟩
  go_wp2_with (at_builtin; refine wpList_app rfl _ _ rfl M V0 _ vd4 (LB ++ [p5, p6]) L7 rfl rfl HG.out (by have := HG.out.2.1.size; omega) hbd hvd (by simp only [List.length_append, List.length_cons, List.length_nil]; omega) ?_; intro v5 wx5 hG; have kk := HT.out _ hG.2.1; have k8 := kk.cell 8; simp at k8)
  replace HG := Lib.hid hG
  clear hG hvd hbd
  refine (HU8.out _).mono ?_
  rintro e wc5 ⟨vd5, rfl, hvd, hbd⟩
  go_wp2_with (at_builtin; refine wpList_app rfl _ _ rfl M V0 _ vd5 (LB ++ [p5, p6] ++ L7) L8 rfl rfl HG.out (by have := HG.out.2.1.size; omega) hbd hvd (by simp only [List.length_append, List.length_cons, List.length_nil]; omega) ?_; intro v6 wx6 hG; have kk := HT.out _ hG.2.1; skip)
  replace HG := Lib.hid hG
  clear hG hvd hbd
  have hlenB : (LB ++ [p5, p6] ++ L7 ++ L8).length ≤ 400 := by simp only [List.length_append, List.length_cons, List.length_nil]; omega
  have hbs : M ≤ wx6.heap.size := by have := HG.out.2.1.size; omega
  obtain ⟨BB, hBB⟩ : ∃ L, L = LB ++ [p5, p6] ++ L7 ++ L8 := ⟨_, rfl⟩
  rw [← hBB] at HG hlenB
  have HBB := Lib.hid hBB
  clear hBB
  refine (trail2_any M v6 _ wx6 HG.out.1 hbs (by omega)).mono ?_
  rintro e wt ⟨vt, rfl, hGt⟩
  have hbt : Below w.heap.size w wt := (Below.touch (Below.touch HBZ.out HG.out.2.1 (fun i hi q => by rw [HVo.out] at q; injection q; omega) (Nat.le_refl _)) hGt.2.1 (fun i hi q => by have := (HG.out.1.lt _ q).1; omega) (Nat.le_refl _))
  obtain ⟨A, c, rfl, _, _, hrd⟩ := Rd.bits hGt.1
  have HBT := Lib.hid hbt
  have HRD := Lib.hid hrd
  have hlt8 := trL_le BB
  have hlt9 : (trL BB).length ≤ 1100000 := by omega
  obtain ⟨TB, hTB⟩ : ∃ L, L = trL BB := ⟨_, rfl⟩
  rw [← hTB] at HRD hlt9
  rw [← hTB]
  have HTB := Lib.hid hTB
  clear hlt8 hTB
  clear hbt hrd hGt
  go_wp2_with fail
  refine (pack_any A c wt.heap.size TB wt HRD.out (Nat.le_refl _) hlt9).mono ?_
  rintro e wp ⟨rfl, hb⟩
  replace HBT := Lib.hid (HBT.out.trans (hb.mono HBT.out.size))
  clear hb HRD
  go_wp2_with fail
  go_ret2
  have e9 : packS TB = SS := by rw [HSS.out, HTB.out, HBB.out, HLB.out]; try simp
  exact ⟨by rw [← e9]; rfl, HBT.out⟩
set_option maxRecDepth 100000 in
set_option maxHeartbeats 6400000 in
theorem putpp2_2 (p0 p1 : Bool) (p3 p4 : Int) (p5 p6 : Bool) (p7 p8 : Int) (h : PpOk ⟨p0, p1, 2, p3, p4, p5, p6, p7, p8⟩) (w : World) :
    Calls Try.prog 23 #[.agg (ppV ⟨p0, p1, 2, p3, p4, p5, p6, p7, p8⟩)] w fun e w' => e = .returned (.tuple #[.string (packS (trL (ppL ⟨p0, p1, 2, p3, p4, p5, p6, p7, p8⟩))), .int .i64 0]) ∧ Below w.heap.size w w' := by
  have hM := maypp2_any ⟨p0, p1, 2, p3, p4, p5, p6, p7, p8⟩ (w.alloc (.cells (ppV ⟨p0, p1, 2, p3, p4, p5, p6, p7, p8⟩) 43))
  rw [(mayPp_iff _).2 h] at hM
  have hB0 := (Below.refl w.heap.size w).alloc (Nat.le_refl _) (.cells (ppV ⟨p0, p1, 2, p3, p4, p5, p6, p7, p8⟩) 43)
  have hP0 := Bk.new w 43 (ppV ⟨p0, p1, 2, p3, p4, p5, p6, p7, p8⟩)
  obtain ⟨_, ⟨q1, q2⟩, ⟨c1, c2⟩, ⟨d1, d2⟩, ⟨e1, e2⟩⟩ := h
  simp only at q1 q2 c1 c2 d1 d2 e1 e2
  have hu3 := ue2_any p3.toNat
  have hu7 := ue2_any (p7 - 1).toNat
  have hu8 := ue2_any (p8 - 1).toNat
  have hs4 := se2_any p4
  rw [show ((p3.toNat : Nat) : Int) = p3 by omega] at hu3
  rw [show (((p7 - 1).toNat : Nat) : Int) = p7 - 1 by omega] at hu7
  rw [show (((p8 - 1).toNat : Nat) : Int) = p8 - 1 by omega] at hu8
  have l3 := ueL_le (x := p3.toNat) (by omega)
  have l7 := ueL_le (x := (p7 - 1).toNat) (by omega)
  have l8 := ueL_le (x := (p8 - 1).toNat) (by omega)
  have l4 := seL_le (x := p4) (by omega) (by omega)
  have hL : ppL ⟨p0, p1, 2, p3, p4, p5, p6, p7, p8⟩ = [p0, p1, true, false] ++ ueL p3.toNat ++ seL p4 ++ [p5, p6] ++ ueL (p7 - 1).toNat ++ ueL (p8 - 1).toNat := by
    have e : dig (2 : Int).toNat 2 = [true, false] := by decide
    simp only [ppL, e]
    simp
  rw [hL]
  clear hL
  obtain ⟨SS, hSS⟩ : ∃ S, S = packS (trL ([p0, p1, true, false] ++ ueL p3.toNat ++ seL p4 ++ [p5, p6] ++ ueL (p7 - 1).toNat ++ ueL (p8 - 1).toNat)) := ⟨_, rfl⟩
  rw [← hSS]
  generalize ueL p3.toNat = L3 at *
  generalize ueL (p7 - 1).toNat = L7 at *
  generalize ueL (p8 - 1).toNat = L8 at *
  generalize seL p4 = L4 at *
  have HSS := Lib.hid hSS
  clear hSS
  have u0 := bu_u8 p0
  have u1 := bu_u8 p1
  have u5 := bu_u8 p5
  have u6 := bu_u8 p6
  have F0 := Lib.hid (flag2_any p0)
  have F1 := Lib.hid (flag2_any p1)
  have F5 := Lib.hid (flag2_any p5)
  have F6 := Lib.hid (flag2_any p6)
  have HU3 := Lib.hid (fun w => hu3 w (by omega))
  have HU7 := Lib.hid (fun w => hu7 w (by omega))
  have HU8 := Lib.hid (fun w => hu8 w (by omega))
  have HS4 := Lib.hid (fun w => hs4 w (by omega))
  simp only [ppV] at *
  have HM := Lib.hid hM
  have HB := Lib.hid hB0
  have HP := Lib.hid hP0
  clear hM hB0 hP0 hu3 hu7 hu8 hs4
  go_enter Try.func23, Try.ntmps23
  go_wp2_with fail
  refine HM.out.mono ?_
  rintro e w1 ⟨rfl, hb⟩
  replace HP := Lib.hid (HP.out.go hb)
  replace HB := Lib.hid (HB.out.trans (hb.mono HB.out.size))
  clear hb HM
  have k0 := HP.out.cell 0
  have k1 := HP.out.cell 1
  have k2 := HP.out.cell 2
  simp at k0 k1 k2
  go_wp2_with fail
  refine wp_region_still_tail 16 (by kernel_rfl) (by kernel_rfl) ?_
  simp only [List.take_succ_cons, List.take_zero, List.drop_succ_cons, List.drop_zero]
  change wpStill _ _ (World.drew _) (fun a' => wpList _ _ _ _ a' (World.drew _)) _ _
  repeat still_step
  still_call (F0.out _)
  repeat still_step
  still_call (F1.out _)
  repeat still_step
  refine wpStill_nil ?_
  change wpList _ _ _ _ _ (World.drew _)
  have k3 := HP.out.cell 3
  simp at k3
  have hgP := HP.out.lt
  have HGP := Lib.hid hgP
  go_wp2_with fail
  have hz := own_bits w1 [p0, p1, true, false] (by simp)
  obtain ⟨wz, hwz⟩ : ∃ wz, wz = (w1.alloc (.cells #[.int .u8 (bu p0), .int .u8 (bu p1), .int .u8 1, .int .u8 0] 5)).drew := ⟨_, rfl⟩
  have hG : BGrow wz w1.heap.size (.slice (some ⟨w1.heap.size, 0, none⟩) 4 4) [p0, p1, true, false] (.slice (some ⟨w1.heap.size, 0, none⟩) 4 4) wz := BGrow.refl (by rw [hwz]; exact own_drew hz)
  have hbz : w1.heap.size ≤ wz.heap.size := by rw [hwz]; simp
  have HPZ : Hid (Bk wz w.heap.size 43 #[.bool p0, .bool p1, .int .i64 2, .int .i64 p3, .int .i64 p4, .bool p5, .bool p6, .int .i64 p7, .int .i64 p8]) := Lib.hid (by rw [hwz]; exact (HP.out.alloc _).drew)
  have HBZ : Hid (Below w.heap.size w wz) := Lib.hid (by rw [hwz]; exact (HB.out.alloc HB.out.size _).drew)
  rw [← hwz]
  have HG := Lib.hid hG
  clear hG hz hwz HP HB k0 k1 k2 k3
  obtain ⟨M, hM⟩ : ∃ M, M = w1.heap.size := ⟨_, rfl⟩
  rw [← hM] at HG hbz hgP ⊢
  have HMM := Lib.hid hM
  clear hM
  obtain ⟨V0, hV0⟩ : ∃ V, V = Value.slice (some ⟨M, 0, none⟩) 4 4 := ⟨_, rfl⟩
  rw [← hV0] at HG
  have hVo : V0.ownBlock = some M := by rw [hV0]; rfl
  have HVo := Lib.hid hVo
  rw [← hV0]
  clear hV0 hVo
  have HT : Hid (∀ w' : World, Touch (fun k => V0.ownBlock = some k) wz w' → Bk w' w.heap.size 43 #[.bool p0, .bool p1, .int .i64 2, .int .i64 p3, .int .i64 p4, .bool p5, .bool p6, .int .i64 p7, .int .i64 p8]) := Lib.hid (fun w' ht => HPZ.out.touch ht (fun q => by rw [HVo.out] at q; injection q; omega))
  refine (HU3.out _).mono ?_
  rintro e wc1 ⟨vd1, rfl, hvd, hbd⟩
  go_wp2_with (at_builtin; refine wpList_app rfl _ _ rfl M V0 _ vd1 ([p0, p1, true, false]) L3 rfl rfl HG.out (by have := HG.out.2.1.size; omega) hbd hvd (by simp only [List.length_append, List.length_cons, List.length_nil]; omega) ?_; intro v2 wx2 hG; have kk := HT.out _ hG.2.1; have k4 := kk.cell 4; simp at k4)
  replace HG := Lib.hid hG
  clear hG hvd hbd
  have k4' := k4
  refine (HS4.out _).mono ?_
  rintro e wc2 ⟨vd2, rfl, hvd, hbd⟩
  go_wp2_with (at_builtin; refine wpList_app rfl _ _ rfl M V0 _ vd2 ([p0, p1, true, false] ++ L3) L4 rfl rfl HG.out (by have := HG.out.2.1.size; omega) hbd hvd (by simp only [List.length_append, List.length_cons, List.length_nil]; omega) ?_; intro v3 wx3 hG; have kk := HT.out _ hG.2.1; have k5 := kk.cell 5; have k6 := kk.cell 6; simp at k5 k6)
  replace HG := Lib.hid hG
  clear hG hvd hbd
  obtain ⟨i0, hi, hz0, hz1, hz2⟩ := info_parts u8_info
  have hbs : M ≤ wx3.heap.size := by have := HG.out.2.1.size; omega
  have hgx : w.heap.size < wx3.heap.size := by omega
  have hgo : some w.heap.size ≠ v3.ownBlock := fun e => by have := (HG.out.1.lt _ e.symm).1; omega
  have hlen : ([p0, p1, true, false] ++ L3 ++ L4).length ≤ 200 := by simp only [List.length_append, List.length_cons, List.length_nil]; omega
  obtain ⟨LB, hLB⟩ : ∃ L, L = [p0, p1, true, false] ++ L3 ++ L4 := ⟨_, rfl⟩
  rw [← hLB] at HG hlen
  have HLB := Lib.hid hLB
  clear hLB
  go_region_held3 (fun w' => w'.cell? ⟨w.heap.size, 5, none⟩ = some (.bool p5) ∧ w'.cell? ⟨w.heap.size, 6, none⟩ = some (.bool p6))
    (first
      | (refine ⟨?_, ?_⟩; · (simp only [World.cell?_drew]; exact k5); · (simp only [World.cell?_drew]; exact k6))
      | (go_split_ands; refine ⟨?_, ?_⟩; · ((try simp only [World.cell?_drew]); rw [World.cell?_alloc_lt _ _ _ (by simpa using hgx)]; exact k5); · ((try simp only [World.cell?_drew]); rw [World.cell?_alloc_lt _ _ _ (by simpa using hgx)]; exact k6))
      | (go_split_ands; refine ⟨(hg1.cell_far _ (by simp; omega) hgo).trans (by assumption), (hg1.cell_far _ (by simp; omega) hgo).trans (by assumption)⟩)
      | go_keep)
    (first
      | (go_at_call 54; refine (flag2_any _ _).mono ?_; rintro e w' ⟨rfl, rfl⟩)
      | (refine step_append_lies _ (by rfl) _ _ 56 (by rfl) M 5 i0 (.int .u8 0) 1 1 Try.underlying56 hi hz0 hz1 hz2 rfl (by omega) _ LB.length _ (by rfl) ((HG.out.1.alloc _).drew) ⟨wx3.heap.size, 0, none⟩ 2 2 [.int .u8 (bu p5), .int .u8 (bu p6)] (by rfl) (by rfl) (World.news_of_block (cs := #[.int .u8 (bu p5), .int .u8 (bu p6)]) (t := 5) (fr := (0, 0)) (heap_alloc_new wx3 _)) (by simp [Value.oneCell']) (by omega) (by unfold maxLen; omega) (by omega) (by simp; omega) (wx3.heap.size + 1) (by simp) ?_; intro gg cap w6 hown1 hg1 hat hlt1))
  have hG6 : BGrow wz M V0 (LB ++ [p5, p6]) (.slice (some ⟨gg, 0, none⟩) (LB.length + 2) cap) w6 := (HG.out.go ((Below.refl _ _).alloc (Nat.le_refl _) (.cells #[.int .u8 (bu p5), .int .u8 (bu p6)] 5)).drew).app (by rw [List.length_append, bitsV_append]; exact hown1) hg1 (N := wx3.heap.size + 1) (by rcases hat with q | q; exact .inl q.symm; exact .inr (by rw [q]; rfl)) (by simp)
  have kk := HT.out _ hG6.2.1
  have k7 := kk.cell 7
  have k8 := kk.cell 8
  simp at k7 k8
  replace HG := Lib.hid hG6
  clear hG6 hown1 hg1 hat hlt1 hgo hgx hbs kk
  obtain ⟨v4, hv4⟩ : ∃ v, v = Value.slice (some ⟨gg, 0, none⟩) (LB.length + 2) cap := ⟨_, rfl⟩
  rw [← hv4] at HG ⊢
  clear hv4
  go_wp2_with fail
  refine (HU7.out _).mono ?_
  rintro e wc4 ⟨vd4, rfl, hvd, hbd⟩
  go_wp2_with (at_builtin; refine wpList_app rfl _ _ rfl M V0 _ vd4 (LB ++ [p5, p6]) L7 rfl rfl HG.out (by have := HG.out.2.1.size; omega) hbd hvd (by simp only [List.length_append, List.length_cons, List.length_nil]; omega) ?_; intro v5 wx5 hG; have kk := HT.out _ hG.2.1; have k8 := kk.cell 8; simp at k8)
  replace HG := Lib.hid hG
  clear hG hvd hbd
  refine (HU8.out _).mono ?_
  rintro e wc5 ⟨vd5, rfl, hvd, hbd⟩
  go_wp2_with (at_builtin; refine wpList_app rfl _ _ rfl M V0 _ vd5 (LB ++ [p5, p6] ++ L7) L8 rfl rfl HG.out (by have := HG.out.2.1.size; omega) hbd hvd (by simp only [List.length_append, List.length_cons, List.length_nil]; omega) ?_; intro v6 wx6 hG; have kk := HT.out _ hG.2.1; skip)
  replace HG := Lib.hid hG
  clear hG hvd hbd
  have hlenB : (LB ++ [p5, p6] ++ L7 ++ L8).length ≤ 400 := by simp only [List.length_append, List.length_cons, List.length_nil]; omega
  have hbs : M ≤ wx6.heap.size := by have := HG.out.2.1.size; omega
  obtain ⟨BB, hBB⟩ : ∃ L, L = LB ++ [p5, p6] ++ L7 ++ L8 := ⟨_, rfl⟩
  rw [← hBB] at HG hlenB
  have HBB := Lib.hid hBB
  clear hBB
  refine (trail2_any M v6 _ wx6 HG.out.1 hbs (by omega)).mono ?_
  rintro e wt ⟨vt, rfl, hGt⟩
  have hbt : Below w.heap.size w wt := (Below.touch (Below.touch HBZ.out HG.out.2.1 (fun i hi q => by rw [HVo.out] at q; injection q; omega) (Nat.le_refl _)) hGt.2.1 (fun i hi q => by have := (HG.out.1.lt _ q).1; omega) (Nat.le_refl _))
  obtain ⟨A, c, rfl, _, _, hrd⟩ := Rd.bits hGt.1
  have HBT := Lib.hid hbt
  have HRD := Lib.hid hrd
  have hlt8 := trL_le BB
  have hlt9 : (trL BB).length ≤ 1100000 := by omega
  obtain ⟨TB, hTB⟩ : ∃ L, L = trL BB := ⟨_, rfl⟩
  rw [← hTB] at HRD hlt9
  rw [← hTB]
  have HTB := Lib.hid hTB
  clear hlt8 hTB
  clear hbt hrd hGt
  go_wp2_with fail
  refine (pack_any A c wt.heap.size TB wt HRD.out (Nat.le_refl _) hlt9).mono ?_
  rintro e wp ⟨rfl, hb⟩
  replace HBT := Lib.hid (HBT.out.trans (hb.mono HBT.out.size))
  clear hb HRD
  go_wp2_with fail
  go_ret2
  have e9 : packS TB = SS := by rw [HSS.out, HTB.out, HBB.out, HLB.out]; try simp
  exact ⟨by rw [← e9]; rfl, HBT.out⟩
theorem putpp2_any (p : Pp) (w : World) : Calls Try.prog 23 #[.agg (ppV p)] w fun e w' => e = .returned (.tuple #[.string (putPpS p), .int .i64 (putPpE p)]) ∧ Below w.heap.size w w' := by
  unfold putPpS putPpE
  cases h : mayPp p
  · rw [if_neg (by simp), if_neg (by simp)]
    exact putpp2_no h w
  · rw [if_pos rfl, if_pos rfl]
    have ok := (mayPp_iff p).1 h
    obtain ⟨p0, p1, p2, p3, p4, p5, p6, p7, p8⟩ := p
    have h2 := ok.1
    simp only at h2
    have hc : p2 = 0 ∨ p2 = 1 ∨ p2 = 2 := by omega
    rcases hc with rfl | rfl | rfl
    · exact putpp2_0 p0 p1 p3 p4 p5 p6 p7 p8 ok w
    · exact putpp2_1 p0 p1 p3 p4 p5 p6 p7 p8 ok w
    · exact putpp2_2 p0 p1 p3 p4 p5 p6 p7 p8 ok w
end Go.Proofs.Ytegfglpaabddlaa
