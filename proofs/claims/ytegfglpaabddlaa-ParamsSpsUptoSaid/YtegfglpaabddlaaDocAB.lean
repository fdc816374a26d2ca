/- The document's PutPps. Printed by gen-putpp2.py. The document's PutSps. Printed by gen-putsp2.py. -/
import Derived.Test.YtegfglpaabddlaaParD
import Derived.Test.YtegfglpaabddlaaParYZ
import Derived.Test.YtegfglpaabddlaaBitQ
import Derived.Test.YtegfglpaabddlaaBitK
import Derived.StillTailTactics
import Derived.Deep.RegionHeld3
import Derived.Deep.AppendLies
import Derived.Test.YtegfglpaabddlaaParG
import Derived.Test.YtegfglpaabddlaaLawBC
namespace Go.Proofs.Ytegfglpaabddlaa
open Go.RowKit
set_option linter.unusedVariables false
set_option linter.unusedSimpArgs false

theorem flag2_any (b : Bool) (w : World) : Calls Try.prog 54 #[.bool b] w fun e w' => e = .returned (.int .i64 (bu b)) ∧ w' = w := by
  cases b
  all_goals
    go_enter Try.func54, Try.ntmps54
    go_wp2_with fail
    go_ret
    exact ⟨rfl, rfl⟩
theorem bu_u8 (b : Bool) : IntKind.u8.wrap (bu b) = bu b := by cases b <;> rfl
theorem own_bits (w : World) (l : List Bool) (h : l.length ≤ 100) : (w.alloc (.cells (bitsV l).toArray 5)).ownsRow w.heap.size 5 1 (.slice (some ⟨w.heap.size, 0, none⟩) l.length l.length) l.length (bitsV l) := by
  have := World.ownsRow_lit (base := w.heap.size) (e := 5) (size := 1) w (bitsV l).toArray l.length (Nat.le_refl _) (by unfold maxLen; omega) (by simp [bitsV])
  simpa using this
theorem trL_le (b : List Bool) : (trL b).length ≤ b.length + 8 := by
  have := trL_len b
  omega
theorem putpp2_no {p : Pp} (h : mayPp p = false) (w : World) : Calls Try.prog 23 #[.agg (ppV p)] w fun e w' => e = .returned (.tuple #[.string ⟨#[]⟩, .int .i64 301]) ∧ Below w.heap.size w w' := by
  have hM := maypp2_any p (w.alloc (.cells (ppV p) 43))
  rw [h] at hM
  have hb := (Below.refl w.heap.size w).alloc (Nat.le_refl _) (.cells (ppV p) 43)
  obtain ⟨p0, p1, p2, p3, p4, p5, p6, p7, p8⟩ := p
  simp only [ppV] at *
  have HM := Lib.hid hM
  have HB := Lib.hid hb
  clear hM hb h
  go_enter Try.func23, Try.ntmps23
  go_wp2_with fail
  refine HM.out.mono ?_
  rintro e w1 ⟨rfl, hb⟩
  replace HB := Lib.hid (HB.out.trans (hb.mono HB.out.size))
  clear hb
  go_wp2_with fail
  go_ret2
  exact ⟨rfl, HB.out⟩

set_option maxRecDepth 100000 in
set_option maxHeartbeats 6400000 in
theorem putpp2_0 (p0 p1 : Bool) (p3 p4 : Int) (p5 p6 : Bool) (p7 p8 : Int) (h : PpOk ⟨p0, p1, 0, p3, p4, p5, p6, p7, p8⟩) (w : World) :
    Calls Try.prog 23 #[.agg (ppV ⟨p0, p1, 0, p3, p4, p5, p6, p7, p8⟩)] w fun e w' => e = .returned (.tuple #[.string (packS (trL (ppL ⟨p0, p1, 0, p3, p4, p5, p6, p7, p8⟩))), .int .i64 0]) ∧ Below w.heap.size w w' := by
  have hM := maypp2_any ⟨p0, p1, 0, p3, p4, p5, p6, p7, p8⟩ (w.alloc (.cells (ppV ⟨p0, p1, 0, p3, p4, p5, p6, p7, p8⟩) 43))
  rw [(mayPp_iff _).2 h] at hM
  have hB0 := (Below.refl w.heap.size w).alloc (Nat.le_refl _) (.cells (ppV ⟨p0, p1, 0, p3, p4, p5, p6, p7, p8⟩) 43)
  have hP0 := Bk.new w 43 (ppV ⟨p0, p1, 0, p3, p4, p5, p6, p7, p8⟩)
  obtain ⟨_, ⟨q1, q2⟩, ⟨c1, c2⟩, ⟨d1, d2⟩, ⟨e1, e2⟩⟩ := h
  simp only at q1 q2 c1 c2 d1 d2 e1 e2
  have hu3 := ue2_any p3.toNat
  have hu7 := ue2_any (p7 - 1).toNat
  have hu8 := ue2_any (p8 - 1).toNat
  have hs4 := se2_any p4
  rw [show ((p3.toNat : Nat) : Int) = p3 by omega] at hu3
  rw [show (((p7 - 1).toNat : Nat) : Int) = p7 - 1 by omega] at hu7
  rw [show (((p8 - 1).toNat : Nat) : Int) = p8 - 1 by omega] at hu8
  have l3 := ueL_le (x := p3.toNat) (by omega)
  have l7 := ueL_le (x := (p7 - 1).toNat) (by omega)
  have l8 := ueL_le (x := (p8 - 1).toNat) (by omega)
  have l4 := seL_le (x := p4) (by omega) (by omega)
  have hL : ppL ⟨p0, p1, 0, p3, p4, p5, p6, p7, p8⟩ = [p0, p1, false, false] ++ ueL p3.toNat ++ seL p4 ++ [p5, p6] ++ ueL (p7 - 1).toNat ++ ueL (p8 - 1).toNat := by
    have e : dig (0 : Int).toNat 2 = [false, false] := by decide
    simp only [ppL, e]
    simp
  rw [hL]
  clear hL
  obtain ⟨SS, hSS⟩ : ∃ S, S = packS (trL ([p0, p1, false, false] ++ ueL p3.toNat ++ seL p4 ++ [p5, p6] ++ ueL (p7 - 1).toNat ++ ueL (p8 - 1).toNat)) := ⟨_, rfl⟩
  rw [← hSS]
  generalize ueL p3.toNat = L3 at *
  generalize ueL (p7 - 1).toNat = L7 at *
  generalize ueL (p8 - 1).toNat = L8 at *
  generalize seL p4 = L4 at *
  have HSS := Lib.hid hSS
  clear hSS
  have u0 := bu_u8 p0
  have u1 := bu_u8 p1
  have u5 := bu_u8 p5
  have u6 := bu_u8 p6
  have F0 := Lib.hid (flag2_any p0)
  have F1 := Lib.hid (flag2_any p1)
  have F5 := Lib.hid (flag2_any p5)
  have F6 := Lib.hid (flag2_any p6)
  have HU3 := Lib.hid (fun w => hu3 w (by omega))
  have HU7 := Lib.hid (fun w => hu7 w (by omega))
  have HU8 := Lib.hid (fun w => hu8 w (by omega))
  have HS4 := Lib.hid (fun w => hs4 w (by omega))
  simp only [ppV] at *
  have HM := Lib.hid hM
  have HB := Lib.hid hB0
  have HP := Lib.hid hP0
  clear hM hB0 hP0 hu3 hu7 hu8 hs4
  go_enter Try.func23, Try.ntmps23
  go_wp2_with fail
  refine HM.out.mono ?_
  rintro e w1 ⟨rfl, hb⟩
  replace HP := Lib.hid (HP.out.go hb)
  replace HB := Lib.hid (HB.out.trans (hb.mono HB.out.size))
  clear hb HM
  have k0 := HP.out.cell 0
  have k1 := HP.out.cell 1
  have k2 := HP.out.cell 2
  simp at k0 k1 k2
  go_wp2_with fail
  refine wp_region_still_tail 16 (by kernel_rfl) (by kernel_rfl) ?_
  simp only [List.take_succ_cons, List.take_zero, List.drop_succ_cons, List.drop_zero]
  change wpStill _ _ (World.drew _) (fun a' => wpList _ _ _ _ a' (World.drew _)) _ _
  repeat still_step
  still_call (F0.out _)
  repeat still_step
  still_call (F1.out _)
  repeat still_step
  refine wpStill_nil ?_
  change wpList _ _ _ _ _ (World.drew _)
  have k3 := HP.out.cell 3
  simp at k3
  have hgP := HP.out.lt
  have HGP := Lib.hid hgP
  go_wp2_with fail
  have hz := own_bits w1 [p0, p1, false, false] (by simp)
  obtain ⟨wz, hwz⟩ : ∃ wz, wz = (w1.alloc (.cells #[.int .u8 (bu p0), .int .u8 (bu p1), .int .u8 0, .int .u8 0] 5)).drew := ⟨_, rfl⟩
  have hG : BGrow wz w1.heap.size (.slice (some ⟨w1.heap.size, 0, none⟩) 4 4) [p0, p1, false, false] (.slice (some ⟨w1.heap.size, 0, none⟩) 4 4) wz := BGrow.refl (by rw [hwz]; exact own_drew hz)
  have hbz : w1.heap.size ≤ wz.heap.size := by rw [hwz]; simp
  have HPZ : Hid (Bk wz w.heap.size 43 #[.bool p0, .bool p1, .int .i64 0, .int .i64 p3, .int .i64 p4, .bool p5, .bool p6, .int .i64 p7, .int .i64 p8]) := Lib.hid (by rw [hwz]; exact (HP.out.alloc _).drew)
  have HBZ : Hid (Below w.heap.size w wz) := Lib.hid (by rw [hwz]; exact (HB.out.alloc HB.out.size _).drew)
  rw [← hwz]
  have HG := Lib.hid hG
  clear hG hz hwz HP HB k0 k1 k2 k3
  obtain ⟨M, hM⟩ : ∃ M, M = w1.heap.size := ⟨_, rfl⟩
  rw [← hM] at HG hbz hgP ⊢
  have HMM := Lib.hid hM
  clear hM
  obtain ⟨V0, hV0⟩ : ∃ V, V = Value.slice (some ⟨M, 0, none⟩) 4 4 := ⟨_, rfl⟩
  rw [← hV0] at HG
  have hVo : V0.ownBlock = some M := by rw [hV0]; rfl
  have HVo := Lib.hid hVo
  rw [← hV0]
  clear hV0 hVo
  have HT : Hid (∀ w' : World, Touch (fun k => V0.ownBlock = some k) wz w' → Bk w' w.heap.size 43 #[.bool p0, .bool p1, .int .i64 0, .int .i64 p3, .int .i64 p4, .bool p5, .bool p6, .int .i64 p7, .int .i64 p8]) := Lib.hid (fun w' ht => HPZ.out.touch ht (fun q => by rw [HVo.out] at q; injection q; omega))
  refine (HU3.out _).mono ?_
  rintro e wc1 ⟨vd1, rfl, hvd, hbd⟩
  go_wp2_with (at_builtin; refine wpList_app rfl _ _ rfl M V0 _ vd1 ([p0, p1, false, false]) L3 rfl rfl HG.out (by have := HG.out.2.1.size; omega) hbd hvd (by simp only [List.length_append, List.length_cons, List.length_nil]; omega) ?_; intro v2 wx2 hG; have kk := HT.out _ hG.2.1; have k4 := kk.cell 4; simp at k4)
  replace HG := Lib.hid hG
  clear hG hvd hbd
  have k4' := k4
  refine (HS4.out _).mono ?_
  rintro e wc2 ⟨vd2, rfl, hvd, hbd⟩
  go_wp2_with (at_builtin; refine wpList_app rfl _ _ rfl M V0 _ vd2 ([p0, p1, false, false] ++ L3) L4 rfl rfl HG.out (by have := HG.out.2.1.size; omega) hbd hvd (by simp only [List.length_append, List.length_cons, List.length_nil]; omega) ?_; intro v3 wx3 hG; have kk := HT.out _ hG.2.1; have k5 := kk.cell 5; have k6 := kk.cell 6; simp at k5 k6)
  replace HG := Lib.hid hG
  clear hG hvd hbd
  obtain ⟨i0, hi, hz0, hz1, hz2⟩ := info_parts u8_info
  have hbs : M ≤ wx3.heap.size := by have := HG.out.2.1.size; omega
  have hgx : w.heap.size < wx3.heap.size := by omega
  have hgo : some w.heap.size ≠ v3.ownBlock := fun e => by have := (HG.out.1.lt _ e.symm).1; omega
  have hlen : ([p0, p1, false, false] ++ L3 ++ L4).length ≤ 200 := by simp only [List.length_append, List.length_cons, List.length_nil]; omega
  obtain ⟨LB, hLB⟩ : ∃ L, L = [p0, p1, false, false] ++ L3 ++ L4 := ⟨_, rfl⟩
  rw [← hLB] at HG hlen
  have HLB := Lib.hid hLB
  clear hLB
  go_region_held3 (fun w' => w'.cell? ⟨w.heap.size, 5, none⟩ = some (.bool p5) ∧ w'.cell? ⟨w.heap.size, 6, none⟩ = some (.bool p6))
    (first
      | (refine ⟨?_, ?_⟩; · (simp only [World.cell?_drew]; exact k5); · (simp only [World.cell?_drew]; exact k6))
      | (go_split_ands; refine ⟨?_, ?_⟩; · ((try simp only [World.cell?_drew]); rw [World.cell?_alloc_lt _ _ _ (by simpa using hgx)]; exact k5); · ((try simp only [World.cell?_drew]); rw [World.cell?_alloc_lt _ _ _ (by simpa using hgx)]; exact k6))
      | (go_split_ands; refine ⟨(hg1.cell_far _ (by simp; omega) hgo).trans (by assumption), (hg1.cell_far _ (by simp; omega) hgo).trans (by assumption)⟩)
      | go_keep)
    (first
      | (go_at_call 54; refine (flag2_any _ _).mono ?_; rintro e w' ⟨rfl, rfl⟩)
      | (refine step_append_lies _ (by rfl) _ _ 56 (by rfl) M 5 i0 (.int .u8 0) 1 1 Try.underlying56 hi hz0 hz1 hz2 rfl (by omega) _ LB.length _ (by rfl) ((HG.out.1.alloc _).drew) ⟨wx3.heap.size, 0, none⟩ 2 2 [.int .u8 (bu p5), .int .u8 (bu p6)] (by rfl) (by rfl) (World.news_of_block (cs := #[.int .u8 (bu p5), .int .u8 (bu p6)]) (t := 5) (fr := (0, 0)) (heap_alloc_new wx3 _)) (by simp [Value.oneCell']) (by omega) (by unfold maxLen; omega) (by omega) (by simp; omega) (wx3.heap.size + 1) (by simp) ?_; intro gg cap w6 hown1 hg1 hat hlt1))
  have hG6 : BGrow wz M V0 (LB ++ [p5, p6]) (.slice (some ⟨gg, 0, none⟩) (LB.length + 2) cap) w6 := (HG.out.go ((Below.refl _ _).alloc (Nat.le_refl _) (.cells #[.int .u8 (bu p5), .int .u8 (bu p6)] 5)).drew).app (by rw [List.length_append, bitsV_append]; exact hown1) hg1 (N := wx3.heap.size + 1) (by rcases hat with q | q; exact .inl q.symm; exact .inr (by rw [q]; rfl)) (by simp)
  have kk := HT.out _ hG6.2.1
  have k7 := kk.cell 7
  have k8 := kk.cell 8
  simp at k7 k8
  replace HG := Lib.hid hG6
  clear hG6 hown1 hg1 hat hlt1 hgo hgx hbs kk
  obtain ⟨v4, hv4⟩ : ∃ v, v = Value.slice (some ⟨gg, 0, none⟩) (LB.length + 2) cap := ⟨_, rfl⟩
  rw [← hv4] at HG ⊢
  clear hv4
  go_wp2_with fail
  refine (HU7.out _).mono ?_
  rintro e wc4 ⟨vd4, rfl, hvd, hbd⟩
  go_wp2_with (at_builtin; refine wpList_app rfl _ _ rfl M V0 _ vd4 (LB ++ [p5, p6]) L7 rfl rfl HG.out (by have := HG.out.2.1.size; omega) hbd hvd (by simp only [List.length_append, List.length_cons, List.length_nil]; omega) ?_; intro v5 wx5 hG; have kk := HT.out _ hG.2.1; have k8 := kk.cell 8; simp at k8)
  replace HG := Lib.hid hG
  clear hG hvd hbd
  refine (HU8.out _).mono ?_
  rintro e wc5 ⟨vd5, rfl, hvd, hbd⟩
  go_wp2_with (at_builtin; refine wpList_app rfl _ _ rfl M V0 _ vd5 (LB ++ [p5, p6] ++ L7) L8 rfl rfl HG.out (by have := HG.out.2.1.size; omega) hbd hvd (by simp only [List.length_append, List.length_cons, List.length_nil]; omega) ?_; intro v6 wx6 hG; have kk := HT.out _ hG.2.1; skip)
  replace HG := Lib.hid hG
  clear hG hvd hbd
  have hlenB : (LB ++ [p5, p6] ++ L7 ++ L8).length ≤ 400 := by simp only [List.length_append, List.length_cons, List.length_nil]; omega
  have hbs : M ≤ wx6.heap.size := by have := HG.out.2.1.size; omega
  obtain ⟨BB, hBB⟩ : ∃ L, L = LB ++ [p5, p6] ++ L7 ++ L8 := ⟨_, rfl⟩
  rw [← hBB] at HG hlenB
  have HBB := Lib.hid hBB
  clear hBB
  refine (trail2_any M v6 _ wx6 HG.out.1 hbs (by omega)).mono ?_
  rintro e wt ⟨vt, rfl, hGt⟩
  have hbt : Below w.heap.size w wt := (Below.touch (Below.touch HBZ.out HG.out.2.1 (fun i hi q => by rw [HVo.out] at q; injection q; omega) (Nat.le_refl _)) hGt.2.1 (fun i hi q => by have := (HG.out.1.lt _ q).1; omega) (Nat.le_refl _))
  obtain ⟨A, c, rfl, _, _, hrd⟩ := Rd.bits hGt.1
  have HBT := Lib.hid hbt
  have HRD := Lib.hid hrd
  have hlt8 := trL_le BB
  have hlt9 : (trL BB).length ≤ 1100000 := by omega
  obtain ⟨TB, hTB⟩ : ∃ L, L = trL BB := ⟨_, rfl⟩
  rw [← hTB] at HRD hlt9
  rw [← hTB]
  have HTB := Lib.hid hTB
  clear hlt8 hTB
  clear hbt hrd hGt
  go_wp2_with fail
  refine (pack_any A c wt.heap.size TB wt HRD.out (Nat.le_refl _) hlt9).mono ?_
  rintro e wp ⟨rfl, hb⟩
  replace HBT := Lib.hid (HBT.out.trans (hb.mono HBT.out.size))
  clear hb HRD
  go_wp2_with fail
  go_ret2
  have e9 : packS TB = SS := by rw [HSS.out, HTB.out, HBB.out, HLB.out]; try simp
  exact ⟨by rw [← e9]; rfl, HBT.out⟩
set_option maxRecDepth 100000 in
set_option maxHeartbeats 6400000 in
theorem putpp2_1 (p0 p1 : Bool) (p3 p4 : Int) (p5 p6 : Bool) (p7 p8 : Int) (h : PpOk ⟨p0, p1, 1, p3, p4, p5, p6, p7, p8⟩) (w : World) :
    Calls Try.prog 23 #[.agg (ppV ⟨p0, p1, 1, p3, p4, p5, p6, p7, p8⟩)] w fun e w' => e = .returned (.tuple #[.string (packS (trL (ppL ⟨p0, p1, 1, p3, p4, p5, p6, p7, p8⟩))), .int .i64 0]) ∧ Below w.heap.size w w' := by
  have hM := maypp2_any ⟨p0, p1, 1, p3, p4, p5, p6, p7, p8⟩ (w.alloc (.cells (ppV ⟨p0, p1, 1, p3, p4, p5, p6, p7, p8⟩) 43))
  rw [(mayPp_iff _).2 h] at hM
  have hB0 := (Below.refl w.heap.size w).alloc (Nat.le_refl _) (.cells (ppV ⟨p0, p1, 1, p3, p4, p5, p6, p7, p8⟩) 43)
  have hP0 := Bk.new w 43 (ppV ⟨p0, p1, 1, p3, p4, p5, p6, p7, p8⟩)
  obtain ⟨_, ⟨q1, q2⟩, ⟨c1, c2⟩, ⟨d1, d2⟩, ⟨e1, e2⟩⟩ := h
  simp only at q1 q2 c1 c2 d1 d2 e1 e2
  have hu3 := ue2_any p3.toNat
  have hu7 := ue2_any (p7 - 1).toNat
  have hu8 := ue2_any (p8 - 1).toNat
  have hs4 := se2_any p4
  rw [show ((p3.toNat : Nat) : Int) = p3 by omega] at hu3
  rw [show (((p7 - 1).toNat : Nat) : Int) = p7 - 1 by omega] at hu7
  rw [show (((p8 - 1).toNat : Nat) : Int) = p8 - 1 by omega] at hu8
  have l3 := ueL_le (x := p3.toNat) (by omega)
  have l7 := ueL_le (x := (p7 - 1).toNat) (by omega)
  have l8 := ueL_le (x := (p8 - 1).toNat) (by omega)
  have l4 := seL_le (x := p4) (by omega) (by omega)
  have hL : ppL ⟨p0, p1, 1, p3, p4, p5, p6, p7, p8⟩ = [p0, p1, false, true] ++ ueL p3.toNat ++ seL p4 ++ [p5, p6] ++ ueL (p7 - 1).toNat ++ ueL (p8 - 1).toNat := by
    have e : dig (1 : Int).toNat 2 = [false, true] := by decide
    simp only [ppL, e]
    simp
  rw [hL]
  clear hL
  obtain ⟨SS, hSS⟩ : ∃ S, S = packS (trL ([p0, p1, false, true] ++ ueL p3.toNat ++ seL p4 ++ [p5, p6] ++ ueL (p7 - 1).toNat ++ ueL (p8 - 1).toNat)) := ⟨_, rfl⟩
  rw [← hSS]
  generalize ueL p3.toNat = L3 at *
  generalize ueL (p7 - 1).toNat = L7 at *
  generalize ueL (p8 - 1).toNat = L8 at *
  generalize seL p4 = L4 at *
  have HSS := Lib.hid hSS
  clear hSS
  have u0 := bu_u8 p0
  have u1 := bu_u8 p1
  have u5 := bu_u8 p5
  have u6 := bu_u8 p6
  have F0 := Lib.hid (flag2_any p0)
  have F1 := Lib.hid (flag2_any p1)
  have F5 := Lib.hid (flag2_any p5)
  have F6 := Lib.hid (flag2_any p6)
  have HU3 := Lib.hid (fun w => hu3 w (by omega))
  have HU7 := Lib.hid (fun w => hu7 w (by omega))
  have HU8 := Lib.hid (fun w => hu8 w (by omega))
  have HS4 := Lib.hid (fun w => hs4 w (by omega))
  simp only [ppV] at *
  have HM := Lib.hid hM
  have HB := Lib.hid hB0
  have HP := Lib.hid hP0
  clear hM hB0 hP0 hu3 hu7 hu8 hs4
  go_enter Try.func23, Try.ntmps23
  go_wp2_with fail
  refine HM.out.mono ?_
  rintro e w1 ⟨rfl, hb⟩
  replace HP := Lib.hid (HP.out.go hb)
  replace HB := Lib.hid (HB.out.trans (hb.mono HB.out.size))
  clear hb HM
  have k0 := HP.out.cell 0
  have k1 := HP.out.cell 1
  have k2 := HP.out.cell 2
  simp at k0 k1 k2
  go_wp2_with fail
  refine wp_region_still_tail 16 (by kernel_rfl) (by kernel_rfl) ?_
  simp only [List.take_succ_cons, List.take_zero, List.drop_succ_cons, List.drop_zero]
  change wpStill _ _ (World.drew _) (fun a' => wpList _ _ _ _ a' (World.drew _)) _ _
  repeat still_step
  still_call (F0.out _)
  repeat still_step
  still_call (F1.out _)
  repeat still_step
  refine wpStill_nil ?_
  change wpList _ _ _ _ _ (World.drew _)
  have k3 := HP.out.cell 3
  simp at k3
  have hgP := HP.out.lt
  have HGP := Lib.hid hgP
  go_wp2_with fail
  have hz := own_bits w1 [p0, p1, false, true] (by simp)
  obtain ⟨wz, hwz⟩ : ∃ wz, wz = (w1.alloc (.cells #[.int .u8 (bu p0), .int .u8 (bu p1), .int .u8 0, .int .u8 1] 5)).drew := ⟨_, rfl⟩
  have hG : BGrow wz w1.heap.size (.slice (some ⟨w1.heap.size, 0, none⟩) 4 4) [p0, p1, false, true] (.slice (some ⟨w1.heap.size, 0, none⟩) 4 4) wz := BGrow.refl (by rw [hwz]; exact own_drew hz)
  have hbz : w1.heap.size ≤ wz.heap.size := by rw [hwz]; simp
  have HPZ : Hid (Bk wz w.heap.size 43 #[.bool p0, .bool p1, .int .i64 1, .int .i64 p3, .int .i64 p4, .bool p5, .bool p6, .int .i64 p7, .int .i64 p8]) := Lib.hid (by rw [hwz]; exact (HP.out.alloc _).drew)
  have HBZ : Hid (Below w.heap.size w wz) := Lib.hid (by rw [hwz]; exact (HB.out.alloc HB.out.size _).drew)
  rw [← hwz]
  have HG := Lib.hid hG
  clear hG hz hwz HP HB k0 k1 k2 k3
  obtain ⟨M, hM⟩ : ∃ M, M = w1.heap.size := ⟨_, rfl⟩
  rw [← hM] at HG hbz hgP ⊢
  have HMM := Lib.hid hM
  clear hM
  obtain ⟨V0, hV0⟩ : ∃ V, V = Value.slice (some ⟨M, 0, none⟩) 4 4 := ⟨_, rfl⟩
  rw [← hV0] at HG
  have hVo : V0.ownBlock = some M := by rw [hV0]; rfl
  have HVo := Lib.hid hVo
  rw [← hV0]
  clear hV0 hVo
  have HT : Hid (∀ w' : World, Touch (fun k => V0.ownBlock = some k) wz w' → Bk w' w.heap.size 43 #[.bool p0, .bool p1, .int .i64 1, .int .i64 p3, .int .i64 p4, .bool p5, .bool p6, .int .i64 p7, .int .i64 p8]) := Lib.hid (fun w' ht => HPZ.out.touch ht (fun q => by rw [HVo.out] at q; injection q; omega))
  refine (HU3.out _).mono ?_
  rintro e wc1 ⟨vd1, rfl, hvd, hbd⟩
  go_wp2_with (at_builtin; refine wpList_app rfl _ _ rfl M V0 _ vd1 ([p0, p1, false, true]) L3 rfl rfl HG.out (by have := HG.out.2.1.size; omega) hbd hvd (by simp only [List.length_append, List.length_cons, List.length_nil]; omega) ?_; intro v2 wx2 hG; have kk := HT.out _ hG.2.1; have k4 := kk.cell 4; simp at k4)
  replace HG := Lib.hid hG
  clear hG hvd hbd
  have k4' := k4
  refine (HS4.out _).mono ?_
  rintro e wc2 ⟨vd2, rfl, hvd, hbd⟩
  go_wp2_with (at_builtin; refine wpList_app rfl _ _ rfl M V0 _ vd2 ([p0, p1, false, true] ++ L3) L4 rfl rfl HG.out (by have := HG.out.2.1.size; omega) hbd hvd (by simp only [List.length_append, List.length_cons, List.length_nil]; omega) ?_; intro v3 wx3 hG; have kk := HT.out _ hG.2.1; have k5 := kk.cell 5; have k6 := kk.cell 6; simp at k5 k6)
  replace HG := Lib.hid hG
  clear hG hvd hbd
  obtain ⟨i0, hi, hz0, hz1, hz2⟩ := info_parts u8_info
  have hbs : M ≤ wx3.heap.size := by have := HG.out.2.1.size; omega
  have hgx : w.heap.size < wx3.heap.size := by omega
  have hgo : some w.heap.size ≠ v3.ownBlock := fun e => by have := (HG.out.1.lt _ e.symm).1; omega
  have hlen : ([p0, p1, false, true] ++ L3 ++ L4).length ≤ 200 := by simp only [List.length_append, List.length_cons, List.length_nil]; omega
  obtain ⟨LB, hLB⟩ : ∃ L, L = [p0, p1, false, true] ++ L3 ++ L4 := ⟨_, rfl⟩
  rw [← hLB] at HG hlen
  have HLB := Lib.hid hLB
  clear hLB
  go_region_held3 (fun w' => w'.cell? ⟨w.heap.size, 5, none⟩ = some (.bool p5) ∧ w'.cell? ⟨w.heap.size, 6, none⟩ = some (.bool p6))
    (first
      | (refine ⟨?_, ?_⟩; · (simp only [World.cell?_drew]; exact k5); · (simp only [World.cell?_drew]; exact k6))
      | (go_split_ands; refine ⟨?_, ?_⟩; · ((try simp only [World.cell?_drew]); rw [World.cell?_alloc_lt _ _ _ (by simpa using hgx)]; exact k5); · ((try simp only [World.cell?_drew]); rw [World.cell?_alloc_lt _ _ _ (by simpa using hgx)]; exact k6))
      | (go_split_ands; refine ⟨(hg1.cell_far _ (by simp; omega) hgo).trans (by assumption), (hg1.cell_far _ (by simp; omega) hgo).trans (by assumption)⟩)
      | go_keep)
    (first
      | (go_at_call 54; refine (flag2_any _ _).mono ?_; rintro e w' ⟨rfl, rfl⟩)
      | (refine step_append_lies _ (by rfl) _ _ 56 (by rfl) M 5 i0 (.int .u8 0) 1 1 Try.underlying56 hi hz0 hz1 hz2 rfl (by omega) _ LB.length _ (by rfl) ((HG.out.1.alloc _).drew) ⟨wx3.heap.size, 0, none⟩ 2 2 [.int .u8 (bu p5), .int .u8 (bu p6)] (by rfl) (by rfl) (World.news_of_block (cs := #[.int .u8 (bu p5), .int .u8 (bu p6)]) (t := 5) (fr := (0, 0)) (heap_alloc_new wx3 _)) (by simp [Value.oneCell']) (by omega) (by unfold maxLen; omega) (by omega) (by simp; omega) (wx3.heap.size + 1) (by simp) ?_; intro gg cap w6 hown1 hg1 hat hlt1))
  have hG6 : BGrow wz M V0 (LB ++ [p5, p6]) (.slice (some ⟨gg, 0, none⟩) (LB.length + 2) cap) w6 := (HG.out.go ((Below.refl _ _).alloc (Nat.le_refl _) (.cells #[.int .u8 (bu p5), .int .u8 (bu p6)] 5)).drew).app (by rw [List.length_append, bitsV_append]; exact hown1) hg1 (N := wx3.heap.size + 1) (by rcases hat with q | q; exact .inl q.symm; exact .inr (by rw [q]; rfl)) (by simp)
  have kk := HT.out _ hG6.2.1
  have k7 := kk.cell 7
  have k8 := kk.cell 8
  simp at k7 k8
  replace HG := Lib.hid hG6
  clear hG6 hown1 hg1 hat hlt1 hgo hgx hbs kk
  obtain ⟨v4, hv4⟩ : ∃ v, v = Value.slice (some ⟨gg, 0, none⟩) (LB.length + 2) cap := ⟨_, rfl⟩
  rw [← hv4] at HG ⊢
  clear hv4
  go_wp2_with fail
  refine (HU7.out _).mono ?_
  rintro e wc4 ⟨vd4, rfl, hvd, hbd⟩
  go_wp2_with (at_builtin; refine wpList_app rfl _ _ rfl M V0 _ vd4 (LB ++ [p5, p6]) L7 rfl rfl HG.out (by have := HG.out.2.1.size; omega) hbd hvd (by simp only [List.length_append, List.length_cons, List.length_nil]; omega) ?_; intro v5 wx5 hG; have kk := HT.out _ hG.2.1; have k8 := kk.cell 8; simp at k8)
  replace HG := Lib.hid hG
  clear hG hvd hbd
  refine (HU8.out _).mono ?_
  rintro e wc5 ⟨vd5, rfl, hvd, hbd⟩
  go_wp2_with (at_builtin; refine wpList_app rfl _ _ rfl M V0 _ vd5 (LB ++ [p5, p6] ++ L7) L8 rfl rfl HG.out (by have := HG.out.2.1.size; omega) hbd hvd (by simp only [List.length_append, List.length_cons, List.length_nil]; omega) ?_; intro v6 wx6 hG; have kk := HT.out _ hG.2.1; skip)
  replace HG := Lib.hid hG
  clear hG hvd hbd
  have hlenB : (LB ++ [p5, p6] ++ L7 ++ L8).length ≤ 400 := by simp only [List.length_append, List.length_cons, List.length_nil]; omega
  have hbs : M ≤ wx6.heap.size := by have := HG.out.2.1.size; omega
  obtain ⟨BB, hBB⟩ : ∃ L, L = LB ++ [p5, p6] ++ L7 ++ L8 := ⟨_, rfl⟩
  rw [← hBB] at HG hlenB
  have HBB := Lib.hid hBB
  clear hBB
  refine (trail2_any M v6 _ wx6 HG.out.1 hbs (by omega)).mono ?_
  rintro e wt ⟨vt, rfl, hGt⟩
  have hbt : Below w.heap.size w wt := (Below.touch (Below.touch HBZ.out HG.out.2.1 (fun i hi q => by rw [HVo.out] at q; injection q; omega) (Nat.le_refl _)) hGt.2.1 (fun i hi q => by have := (HG.out.1.lt _ q).1; omega) (Nat.le_refl _))
  obtain ⟨A, c, rfl, _, _, hrd⟩ := Rd.bits hGt.1
  have HBT := Lib.hid hbt
  have HRD := Lib.hid hrd
  have hlt8 := trL_le BB
  have hlt9 : (trL BB).length ≤ 1100000 := by omega
  obtain ⟨TB, hTB⟩ : ∃ L, L = trL BB := ⟨_, rfl⟩
  rw [← hTB] at HRD hlt9
  rw [← hTB]
  have HTB := Lib.hid hTB
  clear hlt8 hTB
  clear hbt hrd hGt
  go_wp2_with fail
  refine (pack_any A c wt.heap.size TB wt HRD.out (Nat.le_refl _) hlt9).mono ?_
  rintro e wp ⟨rfl, hb⟩
  replace HBT := Lib.hid (HBT.out.trans (hb.mono HBT.out.size))
  clear hb HRD
  go_wp2_with fail
  go_ret2
  have e9 : packS TB = SS := by rw [HSS.out, HTB.out, HBB.out, HLB.out]; try simp
  exact ⟨by rw [← e9]; rfl, HBT.out⟩
set_option maxRecDepth 100000 in
set_option maxHeartbeats 6400000 in
theorem putpp2_2 (p0 p1 : Bool) (p3 p4 : Int) (p5 p6 : Bool) (p7 p8 : Int) (h : PpOk ⟨p0, p1, 2, p3, p4, p5, p6, p7, p8⟩) (w : World) :
    Calls Try.prog 23 #[.agg (ppV ⟨p0, p1, 2, p3, p4, p5, p6, p7, p8⟩)] w fun e w' => e = .returned (.tuple #[.string (packS (trL (ppL ⟨p0, p1, 2, p3, p4, p5, p6, p7, p8⟩))), .int .i64 0]) ∧ Below w.heap.size w w' := by
  have hM := maypp2_any ⟨p0, p1, 2, p3, p4, p5, p6, p7, p8⟩ (w.alloc (.cells (ppV ⟨p0, p1, 2, p3, p4, p5, p6, p7, p8⟩) 43))
  rw [(mayPp_iff _).2 h] at hM
  have hB0 := (Below.refl w.heap.size w).alloc (Nat.le_refl _) (.cells (ppV ⟨p0, p1, 2, p3, p4, p5, p6, p7, p8⟩) 43)
  have hP0 := Bk.new w 43 (ppV ⟨p0, p1, 2, p3, p4, p5, p6, p7, p8⟩)
  obtain ⟨_, ⟨q1, q2⟩, ⟨c1, c2⟩, ⟨d1, d2⟩, ⟨e1, e2⟩⟩ := h
  simp only at q1 q2 c1 c2 d1 d2 e1 e2
  have hu3 := ue2_any p3.toNat
  have hu7 := ue2_any (p7 - 1).toNat
  have hu8 := ue2_any (p8 - 1).toNat
  have hs4 := se2_any p4
  rw [show ((p3.toNat : Nat) : Int) = p3 by omega] at hu3
  rw [show (((p7 - 1).toNat : Nat) : Int) = p7 - 1 by omega] at hu7
  rw [show (((p8 - 1).toNat : Nat) : Int) = p8 - 1 by omega] at hu8
  have l3 := ueL_le (x := p3.toNat) (by omega)
  have l7 := ueL_le (x := (p7 - 1).toNat) (by omega)
  have l8 := ueL_le (x := (p8 - 1).toNat) (by omega)
  have l4 := seL_le (x := p4) (by omega) (by omega)
  have hL : ppL ⟨p0, p1, 2, p3, p4, p5, p6, p7, p8⟩ = [p0, p1, true, false] ++ ueL p3.toNat ++ seL p4 ++ [p5, p6] ++ ueL (p7 - 1).toNat ++ ueL (p8 - 1).toNat := by
    have e : dig (2 : Int).toNat 2 = [true, false] := by decide
    simp only [ppL, e]
    simp
  rw [hL]
  clear hL
  obtain ⟨SS, hSS⟩ : ∃ S, S = packS (trL ([p0, p1, true, false] ++ ueL p3.toNat ++ seL p4 ++ [p5, p6] ++ ueL (p7 - 1).toNat ++ ueL (p8 - 1).toNat)) := ⟨_, rfl⟩
  rw [← hSS]
  generalize ueL p3.toNat = L3 at *
  generalize ueL (p7 - 1).toNat = L7 at *
  generalize ueL (p8 - 1).toNat = L8 at *
  generalize seL p4 = L4 at *
  have HSS := Lib.hid hSS
  clear hSS
  have u0 := bu_u8 p0
  have u1 := bu_u8 p1
  have u5 := bu_u8 p5
  have u6 := bu_u8 p6
  have F0 := Lib.hid (flag2_any p0)
  have F1 := Lib.hid (flag2_any p1)
  have F5 := Lib.hid (flag2_any p5)
  have F6 := Lib.hid (flag2_any p6)
  have HU3 := Lib.hid (fun w => hu3 w (by omega))
  have HU7 := Lib.hid (fun w => hu7 w (by omega))
  have HU8 := Lib.hid (fun w => hu8 w (by omega))
  have HS4 := Lib.hid (fun w => hs4 w (by omega))
  simp only [ppV] at *
  have HM := Lib.hid hM
  have HB := Lib.hid hB0
  have HP := Lib.hid hP0
  clear hM hB0 hP0 hu3 hu7 hu8 hs4
  go_enter Try.func23, Try.ntmps23
  go_wp2_with fail
  refine HM.out.mono ?_
  rintro e w1 ⟨rfl, hb⟩
  replace HP := Lib.hid (HP.out.go hb)
  replace HB := Lib.hid (HB.out.trans (hb.mono HB.out.size))
  clear hb HM
  have k0 := HP.out.cell 0
  have k1 := HP.out.cell 1
  have k2 := HP.out.cell 2
  simp at k0 k1 k2
  go_wp2_with fail
  refine wp_region_still_tail 16 (by kernel_rfl) (by kernel_rfl) ?_
  simp only [List.take_succ_cons, List.take_zero, List.drop_succ_cons, List.drop_zero]
  change wpStill _ _ (World.drew _) (fun a' => wpList _ _ _ _ a' (World.drew _)) _ _
  repeat still_step
  still_call (F0.out _)
  repeat still_step
  still_call (F1.out _)
  repeat still_step
  refine wpStill_nil ?_
  change wpList _ _ _ _ _ (World.drew _)
  have k3 := HP.out.cell 3
  simp at k3
  have hgP := HP.out.lt
  have HGP := Lib.hid hgP
  go_wp2_with fail
  have hz := own_bits w1 [p0, p1, true, false] (by simp)
  obtain ⟨wz, hwz⟩ : ∃ wz, wz = (w1.alloc (.cells #[.int .u8 (bu p0), .int .u8 (bu p1), .int .u8 1, .int .u8 0] 5)).drew := ⟨_, rfl⟩
  have hG : BGrow wz w1.heap.size (.slice (some ⟨w1.heap.size, 0, none⟩) 4 4) [p0, p1, true, false] (.slice (some ⟨w1.heap.size, 0, none⟩) 4 4) wz := BGrow.refl (by rw [hwz]; exact own_drew hz)
  have hbz : w1.heap.size ≤ wz.heap.size := by rw [hwz]; simp
  have HPZ : Hid (Bk wz w.heap.size 43 #[.bool p0, .bool p1, .int .i64 2, .int .i64 p3, .int .i64 p4, .bool p5, .bool p6, .int .i64 p7, .int .i64 p8]) := Lib.hid (by rw [hwz]; exact (HP.out.alloc _).drew)
  have HBZ : Hid (Below w.heap.size w wz) := Lib.hid (by rw [hwz]; exact (HB.out.alloc HB.out.size _).drew)
  rw [← hwz]
  have HG := Lib.hid hG
  clear hG hz hwz HP HB k0 k1 k2 k3
  obtain ⟨M, hM⟩ : ∃ M, M = w1.heap.size := ⟨_, rfl⟩
  rw [← hM] at HG hbz hgP ⊢
  have HMM := Lib.hid hM
  clear hM
  obtain ⟨V0, hV0⟩ : ∃ V, V = Value.slice (some ⟨M, 0, none⟩) 4 4 := ⟨_, rfl⟩
  rw [← hV0] at HG
  have hVo : V0.ownBlock = some M := by rw [hV0]; rfl
  have HVo := Lib.hid hVo
  rw [← hV0]
  clear hV0 hVo
  have HT : Hid (∀ w' : World, Touch (fun k => V0.ownBlock = some k) wz w' → Bk w' w.heap.size 43 #[.bool p0, .bool p1, .int .i64 2, .int .i64 p3, .int .i64 p4, .bool p5, .bool p6, .int .i64 p7, .int .i64 p8]) := Lib.hid (fun w' ht => HPZ.out.touch ht (fun q => by rw [HVo.out] at q; injection q; omega))
  refine (HU3.out _).mono ?_
  rintro e wc1 ⟨vd1, rfl, hvd, hbd⟩
  go_wp2_with (at_builtin; refine wpList_app rfl _ _ rfl M V0 _ vd1 ([p0, p1, true, false]) L3 rfl rfl HG.out (by have := HG.out.2.1.size; omega) hbd hvd (by simp only [List.length_append, List.length_cons, List.length_nil]; omega) ?_; intro v2 wx2 hG; have kk := HT.out _ hG.2.1; have k4 := kk.cell 4; simp at k4)
  replace HG := Lib.hid hG
  clear hG hvd hbd
  have k4' := k4
  refine (HS4.out _).mono ?_
  rintro e wc2 ⟨vd2, rfl, hvd, hbd⟩
  go_wp2_with (at_builtin; refine wpList_app rfl _ _ rfl M V0 _ vd2 ([p0, p1, true, false] ++ L3) L4 rfl rfl HG.out (by have := HG.out.2.1.size; omega) hbd hvd (by simp only [List.length_append, List.length_cons, List.length_nil]; omega) ?_; intro v3 wx3 hG; have kk := HT.out _ hG.2.1; have k5 := kk.cell 5; have k6 := kk.cell 6; simp at k5 k6)
  replace HG := Lib.hid hG
  clear hG hvd hbd
  obtain ⟨i0, hi, hz0, hz1, hz2⟩ := info_parts u8_info
  have hbs : M ≤ wx3.heap.size := by have := HG.out.2.1.size; omega
  have hgx : w.heap.size < wx3.heap.size := by omega
  have hgo : some w.heap.size ≠ v3.ownBlock := fun e => by have := (HG.out.1.lt _ e.symm).1; omega
  have hlen : ([p0, p1, true, false] ++ L3 ++ L4).length ≤ 200 := by simp only [List.length_append, List.length_cons, List.length_nil]; omega
  obtain ⟨LB, hLB⟩ : ∃ L, L = [p0, p1, true, false] ++ L3 ++ L4 := ⟨_, rfl⟩
  rw [← hLB] at HG hlen
  have HLB := Lib.hid hLB
  clear hLB
  go_region_held3 (fun w' => w'.cell? ⟨w.heap.size, 5, none⟩ = some (.bool p5) ∧ w'.cell? ⟨w.heap.size, 6, none⟩ = some (.bool p6))
    (first
      | (refine ⟨?_, ?_⟩; · (simp only [World.cell?_drew]; exact k5); · (simp only [World.cell?_drew]; exact k6))
      | (go_split_ands; refine ⟨?_, ?_⟩; · ((try simp only [World.cell?_drew]); rw [World.cell?_alloc_lt _ _ _ (by simpa using hgx)]; exact k5); · ((try simp only [World.cell?_drew]); rw [World.cell?_alloc_lt _ _ _ (by simpa using hgx)]; exact k6))
      | (go_split_ands; refine ⟨(hg1.cell_far _ (by simp; omega) hgo).trans (by assumption), (hg1.cell_far _ (by simp; omega) hgo).trans (by assumption)⟩)
      | go_keep)
    (first
      | (go_at_call 54; refine (flag2_any _ _).mono ?_; rintro e w' ⟨rfl, rfl⟩)
      | (refine step_append_lies _ (by rfl) _ _ 56 (by rfl) M 5 i0 (.int .u8 0) 1 1 Try.underlying56 hi hz0 hz1 hz2 rfl (by omega) _ LB.length _ (by rfl) ((HG.out.1.alloc _).drew) ⟨wx3.heap.size, 0, none⟩ 2 2 [.int .u8 (bu p5), .int .u8 (bu p6)] (by rfl) (by rfl) (World.news_of_block (cs := #[.int .u8 (bu p5), .int .u8 (bu p6)]) (t := 5) (fr := (0, 0)) (heap_alloc_new wx3 _)) (by simp [Value.oneCell']) (by omega) (by unfold maxLen; omega) (by omega) (by simp; omega) (wx3.heap.size + 1) (by simp) ?_; intro gg cap w6 hown1 hg1 hat hlt1))
  have hG6 : BGrow wz M V0 (LB ++ [p5, p6]) (.slice (some ⟨gg, 0, none⟩) (LB.length + 2) cap) w6 := (HG.out.go ((Below.refl _ _).alloc (Nat.le_refl _) (.cells #[.int .u8 (bu p5), .int .u8 (bu p6)] 5)).drew).app (by rw [List.length_append, bitsV_append]; exact hown1) hg1 (N := wx3.heap.size + 1) (by rcases hat with q | q; exact .inl q.symm; exact .inr (by rw [q]; rfl)) (by simp)
  have kk := HT.out _ hG6.2.1
  have k7 := kk.cell 7
  have k8 := kk.cell 8
  simp at k7 k8
  replace HG := Lib.hid hG6
  clear hG6 hown1 hg1 hat hlt1 hgo hgx hbs kk
  obtain ⟨v4, hv4⟩ : ∃ v, v = Value.slice (some ⟨gg, 0, none⟩) (LB.length + 2) cap := ⟨_, rfl⟩
  rw [← hv4] at HG ⊢
  clear hv4
  go_wp2_with fail
  refine (HU7.out _).mono ?_
  rintro e wc4 ⟨vd4, rfl, hvd, hbd⟩
  go_wp2_with (at_builtin; refine wpList_app rfl _ _ rfl M V0 _ vd4 (LB ++ [p5, p6]) L7 rfl rfl HG.out (by have := HG.out.2.1.size; omega) hbd hvd (by simp only [List.length_append, List.length_cons, List.length_nil]; omega) ?_; intro v5 wx5 hG; have kk := HT.out _ hG.2.1; have k8 := kk.cell 8; simp at k8)
  replace HG := Lib.hid hG
  clear hG hvd hbd
  refine (HU8.out _).mono ?_
  rintro e wc5 ⟨vd5, rfl, hvd, hbd⟩
  go_wp2_with (at_builtin; refine wpList_app rfl _ _ rfl M V0 _ vd5 (LB ++ [p5, p6] ++ L7) L8 rfl rfl HG.out (by have := HG.out.2.1.size; omega) hbd hvd (by simp only [List.length_append, List.length_cons, List.length_nil]; omega) ?_; intro v6 wx6 hG; have kk := HT.out _ hG.2.1; skip)
  replace HG := Lib.hid hG
  clear hG hvd hbd
  have hlenB : (LB ++ [p5, p6] ++ L7 ++ L8).length ≤ 400 := by simp only [List.length_append, List.length_cons, List.length_nil]; omega
  have hbs : M ≤ wx6.heap.size := by have := HG.out.2.1.size; omega
  obtain ⟨BB, hBB⟩ : ∃ L, L = LB ++ [p5, p6] ++ L7 ++ L8 := ⟨_, rfl⟩
  rw [← hBB] at HG hlenB
  have HBB := Lib.hid hBB
  clear hBB
  refine (trail2_any M v6 _ wx6 HG.out.1 hbs (by omega)).mono ?_
  rintro e wt ⟨vt, rfl, hGt⟩
  have hbt : Below w.heap.size w wt := (Below.touch (Below.touch HBZ.out HG.out.2.1 (fun i hi q => by rw [HVo.out] at q; injection q; omega) (Nat.le_refl _)) hGt.2.1 (fun i hi q => by have := (HG.out.1.lt _ q).1; omega) (Nat.le_refl _))
  obtain ⟨A, c, rfl, _, _, hrd⟩ := Rd.bits hGt.1
  have HBT := Lib.hid hbt
  have HRD := Lib.hid hrd
  have hlt8 := trL_le BB
  have hlt9 : (trL BB).length ≤ 1100000 := by omega
  obtain ⟨TB, hTB⟩ : ∃ L, L = trL BB := ⟨_, rfl⟩
  rw [← hTB] at HRD hlt9
  rw [← hTB]
  have HTB := Lib.hid hTB
  clear hlt8 hTB
  clear hbt hrd hGt
  go_wp2_with fail
  refine (pack_any A c wt.heap.size TB wt HRD.out (Nat.le_refl _) hlt9).mono ?_
  rintro e wp ⟨rfl, hb⟩
  replace HBT := Lib.hid (HBT.out.trans (hb.mono HBT.out.size))
  clear hb HRD
  go_wp2_with fail
  go_ret2
  have e9 : packS TB = SS := by rw [HSS.out, HTB.out, HBB.out, HLB.out]; try simp
  exact ⟨by rw [← e9]; rfl, HBT.out⟩
theorem putpp2_any (p : Pp) (w : World) : Calls Try.prog 23 #[.agg (ppV p)] w fun e w' => e = .returned (.tuple #[.string (putPpS p), .int .i64 (putPpE p)]) ∧ Below w.heap.size w w' := by
  unfold putPpS putPpE
  cases h : mayPp p
  · rw [if_neg (by simp), if_neg (by simp)]
    exact putpp2_no h w
  · rw [if_pos rfl, if_pos rfl]
    have ok := (mayPp_iff p).1 h
    obtain ⟨p0, p1, p2, p3, p4, p5, p6, p7, p8⟩ := p
    have h2 := ok.1
    simp only at h2
    have hc : p2 = 0 ∨ p2 = 1 ∨ p2 = 2 := by omega
    rcases hc with rfl | rfl | rfl
    · exact putpp2_0 p0 p1 p3 p4 p5 p6 p7 p8 ok w
    · exact putpp2_1 p0 p1 p3 p4 p5 p6 p7 p8 ok w
    · exact putpp2_2 p0 p1 p3 p4 p5 p6 p7 p8 ok w
end Go.Proofs.Ytegfglpaabddlaa

namespace Go.Proofs.Ytegfglpaabddlaa
open Go.RowKit
set_option linter.unusedVariables false
set_option linter.unusedSimpArgs false

theorem putsp2_no {p : Sp} (h : maySp p = false) (A : Option Addr) (c : Nat) (w : World) (hs : SpAt w w.heap.size p A) (hn : p.cy.length ≤ 1152921504606846976) :
    Calls Try.prog 12 #[.agg (spV p A c)] w fun e w' => e = .returned (.tuple #[.string ⟨#[]⟩, .int .i64 301]) ∧ Below w.heap.size w w' := by
  have hM := maysp2_any p A c (w.alloc (.cells (spV p A c) 24)) (hs.past _) hn
  rw [h] at hM
  have hb := (Below.refl w.heap.size w).alloc (Nat.le_refl _) (.cells (spV p A c) 24)
  obtain ⟨s0, s1, s2, s3, s4, s5, cy, s7, s8⟩ := p
  simp only [spV] at *
  have HM := Lib.hid hM
  have HB := Lib.hid hb
  clear hM hb h hs
  go_enter Try.func12, Try.ntmps12
  go_wp2_with fail
  refine HM.out.mono ?_
  rintro e w1 ⟨rfl, hb⟩
  replace HB := Lib.hid (HB.out.trans (hb.mono HB.out.size))
  clear hb
  go_wp2_with fail
  go_ret2
  exact ⟨rfl, HB.out⟩

set_option maxRecDepth 100000 in
set_option maxHeartbeats 6400000 in
theorem putsp2_0 (s0 s1 s2 s4 s5 : Int) (cy : List Int) (s7 s8 : Int) (A : Option Addr) (c : Nat) (h : SpOk ⟨s0, s1, s2, 0, s4, s5, cy, s7, s8⟩) (w : World) (hs : SpAt w w.heap.size ⟨s0, s1, s2, 0, s4, s5, cy, s7, s8⟩ A) :
    Calls Try.prog 12 #[.agg (spV ⟨s0, s1, s2, 0, s4, s5, cy, s7, s8⟩ A c)] w fun e w' => e = .returned (.tuple #[.string (packS (trL (spL ⟨s0, s1, s2, 0, s4, s5, cy, s7, s8⟩))), .int .i64 0]) ∧ Below w.heap.size w w' := by
  have hM := maysp2_any ⟨s0, s1, s2, 0, s4, s5, cy, s7, s8⟩ A c (w.alloc (.cells (spV ⟨s0, s1, s2, 0, s4, s5, cy, s7, s8⟩ A c) 24)) (hs.past _) (by have := h.2.2.2.2.2.2.1; omega)
  rw [(maySp_iff _).2 h] at hM
  have hB0 := (Below.refl w.heap.size w).alloc (Nat.le_refl _) (.cells (spV ⟨s0, s1, s2, 0, s4, s5, cy, s7, s8⟩ A c) 24)
  have hP0 := Bk.new w 24 (spV ⟨s0, s1, s2, 0, s4, s5, cy, s7, s8⟩ A c)
  have hS0 := hs.past (.cells (spV ⟨s0, s1, s2, 0, s4, s5, cy, s7, s8⟩ A c) 24)
  obtain ⟨⟨a1, a2⟩, ⟨b1, b2⟩, ⟨c1, c2⟩, ⟨d1, d2⟩, -, ⟨e1, e2⟩, hcl, hco, -, -, ⟨f1, f2⟩, ⟨g1, g2⟩, -⟩ := h
  simp only at a1 a2 b1 b2 c1 c2 d1 d2 e1 e2 hcl hco f1 f2 g1 g2
  have hL : spL ⟨s0, s1, s2, 0, s4, s5, cy, s7, s8⟩ = ueL (s0 - 1).toNat ++ ueL (s1 - 1).toNat ++ ueL (s2 - 4).toNat ++ ueL 0 ++ ueL (s4 - 4).toNat ++ ueL s7.toNat ++ ueL s8.toNat := by
    unfold spL mid
    simp
  rw [hL]
  clear hL
  obtain ⟨SS, hSS⟩ : ∃ S, S = packS (trL (ueL (s0 - 1).toNat ++ ueL (s1 - 1).toNat ++ ueL (s2 - 4).toNat ++ ueL 0 ++ ueL (s4 - 4).toNat ++ ueL s7.toNat ++ ueL s8.toNat)) := ⟨_, rfl⟩
  rw [← hSS]
  have la := ueL_le (x := (s0 - 1).toNat) (by omega)
  have hua : ∀ w, Calls Try.prog 34 #[.int .i64 (s0 - 1)] w (BRow w (ueL (s0 - 1).toNat)) := fun w => by
    have := ue2_any ((s0 - 1).toNat) w (by omega)
    rwa [show ((((s0 - 1).toNat : Nat)) : Int) = s0 - 1 by omega] at this
  have lb := ueL_le (x := (s1 - 1).toNat) (by omega)
  have hub : ∀ w, Calls Try.prog 34 #[.int .i64 (s1 - 1)] w (BRow w (ueL (s1 - 1).toNat)) := fun w => by
    have := ue2_any ((s1 - 1).toNat) w (by omega)
    rwa [show ((((s1 - 1).toNat : Nat)) : Int) = s1 - 1 by omega] at this
  have lc := ueL_le (x := (s2 - 4).toNat) (by omega)
  have huc : ∀ w, Calls Try.prog 34 #[.int .i64 (s2 - 4)] w (BRow w (ueL (s2 - 4).toNat)) := fun w => by
    have := ue2_any ((s2 - 4).toNat) w (by omega)
    rwa [show ((((s2 - 4).toNat : Nat)) : Int) = s2 - 4 by omega] at this
  have ld := ueL_le (x := 0) (by omega)
  have hud : ∀ w, Calls Try.prog 34 #[.int .i64 (0)] w (BRow w (ueL 0)) := fun w => by
    have := ue2_any (0) w (by omega)
    rwa [show (((0 : Nat)) : Int) = 0 by omega] at this
  have le := ueL_le (x := (s4 - 4).toNat) (by omega)
  have hue : ∀ w, Calls Try.prog 34 #[.int .i64 (s4 - 4)] w (BRow w (ueL (s4 - 4).toNat)) := fun w => by
    have := ue2_any ((s4 - 4).toNat) w (by omega)
    rwa [show ((((s4 - 4).toNat : Nat)) : Int) = s4 - 4 by omega] at this
  have lh := ueL_le (x := s7.toNat) (by omega)
  have huh : ∀ w, Calls Try.prog 34 #[.int .i64 (s7)] w (BRow w (ueL s7.toNat)) := fun w => by
    have := ue2_any (s7.toNat) w (by omega)
    rwa [show (((s7.toNat : Nat)) : Int) = s7 by omega] at this
  have li := ueL_le (x := s8.toNat) (by omega)
  have hui : ∀ w, Calls Try.prog 34 #[.int .i64 (s8)] w (BRow w (ueL s8.toNat)) := fun w => by
    have := ue2_any (s8.toNat) w (by omega)
    rwa [show (((s8.toNat : Nat)) : Int) = s8 by omega] at this
  obtain ⟨La, hLa⟩ : ∃ L, L = ueL (s0 - 1).toNat := ⟨_, rfl⟩
  rw [← hLa] at la hua
  obtain ⟨Lb, hLb⟩ : ∃ L, L = ueL (s1 - 1).toNat := ⟨_, rfl⟩
  rw [← hLb] at lb hub
  obtain ⟨Lc, hLc⟩ : ∃ L, L = ueL (s2 - 4).toNat := ⟨_, rfl⟩
  rw [← hLc] at lc huc
  obtain ⟨Ld, hLd⟩ : ∃ L, L = ueL 0 := ⟨_, rfl⟩
  rw [← hLd] at ld hud
  obtain ⟨Le, hLe⟩ : ∃ L, L = ueL (s4 - 4).toNat := ⟨_, rfl⟩
  rw [← hLe] at le hue
  obtain ⟨Lh, hLh⟩ : ∃ L, L = ueL s7.toNat := ⟨_, rfl⟩
  rw [← hLh] at lh huh
  obtain ⟨Li, hLi⟩ : ∃ L, L = ueL s8.toNat := ⟨_, rfl⟩
  rw [← hLi] at li hui
  rw [← hLa, ← hLb, ← hLc, ← hLd, ← hLe, ← hLh, ← hLi] at hSS
  have HUa := Lib.hid hua
  have HUb := Lib.hid hub
  have HUc := Lib.hid huc
  have HUd := Lib.hid hud
  have HUe := Lib.hid hue
  have HUh := Lib.hid huh
  have HUi := Lib.hid hui
  have HSS := Lib.hid hSS
  have HCO := Lib.hid hco
  clear hSS hco hua hLa hub hLb huc hLc hud hLd hue hLe huh hLh hui hLi
  have hl6 : ((.slice A cy.length c : Value)) = .slice A cy.length c := rfl
  simp only [spV] at *
  have HM := Lib.hid hM
  have HB := Lib.hid hB0
  have HP := Lib.hid hP0
  have HS := Lib.hid hS0
  clear hM hB0 hP0 hS0 hs hl6
  go_enter Try.func12, Try.ntmps12
  go_wp2_with fail
  refine HM.out.mono ?_
  rintro e w1 ⟨rfl, hb⟩
  replace HP := Lib.hid (HP.out.go hb)
  replace HS := Lib.hid (HS.out.go hb)
  replace HB := Lib.hid (HB.out.trans (hb.mono HB.out.size))
  clear hb HM
  have HT : Hid (∀ w' : World, Touch (fun k => (Value.slice none 0 0).ownBlock = some k) w1 w' → Below w1.heap.size w1 w') := Lib.hid (fun w' ht => ht.below (fun k q => by simp [Value.ownBlock] at q) (Nat.le_refl _))
  have HG : Hid (BGrow w1 w1.heap.size (Value.slice none 0 0) [] (Value.slice none 0 0) w1) := Lib.hid (BGrow.refl (World.ownsRow_nil _ _ _ _))
  have k0 := HP.out.cell 0
  simp at k0
  go_wp2_with fail
  refine (HUa.out _).mono ?_
  rintro e wc1 ⟨vd1, rfl, hvd, hbd⟩
  go_wp2_with (at_builtin; refine wpList_app rfl _ _ rfl w1.heap.size (Value.slice none 0 0) _ vd1 ([]) La rfl rfl HG.out HG.out.2.1.size hbd hvd (by simp only [List.length_append, List.length_cons, List.length_nil]; omega) ?_; intro v2 wx2 hG; have kk := HP.out.go (HT.out _ hG.2.1); have k1 := kk.cell 1; simp at k1; clear kk)
  replace HG := Lib.hid hG
  clear hG hvd hbd
  refine (HUb.out _).mono ?_
  rintro e wc2 ⟨vd2, rfl, hvd, hbd⟩
  go_wp2_with (at_builtin; refine wpList_app rfl _ _ rfl w1.heap.size (Value.slice none 0 0) _ vd2 ([] ++ La) Lb rfl rfl HG.out HG.out.2.1.size hbd hvd (by simp only [List.length_append, List.length_cons, List.length_nil]; omega) ?_; intro v3 wx3 hG; have kk := HP.out.go (HT.out _ hG.2.1); have k2 := kk.cell 2; simp at k2; clear kk)
  replace HG := Lib.hid hG
  clear hG hvd hbd
  refine (HUc.out _).mono ?_
  rintro e wc3 ⟨vd3, rfl, hvd, hbd⟩
  go_wp2_with (at_builtin; refine wpList_app rfl _ _ rfl w1.heap.size (Value.slice none 0 0) _ vd3 ([] ++ La ++ Lb) Lc rfl rfl HG.out HG.out.2.1.size hbd hvd (by simp only [List.length_append, List.length_cons, List.length_nil]; omega) ?_; intro v4 wx4 hG; have kk := HP.out.go (HT.out _ hG.2.1); have k3 := kk.cell 3; simp at k3; clear kk)
  replace HG := Lib.hid hG
  clear hG hvd hbd
  refine (HUd.out _).mono ?_
  rintro e wc4 ⟨vd4, rfl, hvd, hbd⟩
  go_wp2_with (at_builtin; refine wpList_app rfl _ _ rfl w1.heap.size (Value.slice none 0 0) _ vd4 ([] ++ La ++ Lb ++ Lc) Ld rfl rfl HG.out HG.out.2.1.size hbd hvd (by simp only [List.length_append, List.length_cons, List.length_nil]; omega) ?_; intro v5 wx5 hG; have kk := HP.out.go (HT.out _ hG.2.1); have k3 := kk.cell 3; have k4 := kk.cell 4; simp at k3 k4; clear kk)
  replace HG := Lib.hid hG
  clear hG hvd hbd
  refine (HUe.out _).mono ?_
  rintro e wc5 ⟨vd5, rfl, hvd, hbd⟩
  go_wp2_with (at_builtin; refine wpList_app rfl _ _ rfl w1.heap.size (Value.slice none 0 0) _ vd5 ([] ++ La ++ Lb ++ Lc ++ Ld) Le rfl rfl HG.out HG.out.2.1.size hbd hvd (by simp only [List.length_append, List.length_cons, List.length_nil]; omega) ?_; intro v6 wx6 hG; have kk := HP.out.go (HT.out _ hG.2.1); have k3 := kk.cell 3; have k7 := kk.cell 7; simp at k3 k7; clear kk)
  replace HG := Lib.hid hG
  clear hG hvd hbd
  refine (HUh.out _).mono ?_
  rintro e wc6 ⟨vd6, rfl, hvd, hbd⟩
  go_wp2_with (at_builtin; refine wpList_app rfl _ _ rfl w1.heap.size (Value.slice none 0 0) _ vd6 ([] ++ La ++ Lb ++ Lc ++ Ld ++ Le) Lh rfl rfl HG.out HG.out.2.1.size hbd hvd (by simp only [List.length_append, List.length_cons, List.length_nil]; omega) ?_; intro v7 wx7 hG; have kk := HP.out.go (HT.out _ hG.2.1); have k8 := kk.cell 8; simp at k8; clear kk)
  replace HG := Lib.hid hG
  clear hG hvd hbd
  refine (HUi.out _).mono ?_
  rintro e wc7 ⟨vd7, rfl, hvd, hbd⟩
  go_wp2_with (at_builtin; refine wpList_app rfl _ _ rfl w1.heap.size (Value.slice none 0 0) _ vd7 ([] ++ La ++ Lb ++ Lc ++ Ld ++ Le ++ Lh) Li rfl rfl HG.out HG.out.2.1.size hbd hvd (by simp only [List.length_append, List.length_cons, List.length_nil]; omega) ?_; intro v8 wx8 hG; have kk := HP.out.go (HT.out _ hG.2.1); clear kk)
  replace HG := Lib.hid hG
  clear hG hvd hbd
  have hlenB : ([] ++ La ++ Lb ++ Lc ++ Ld ++ Le ++ Lh ++ Li).length ≤ 1000 := by simp only [List.length_append, List.length_cons, List.length_nil]; omega
  obtain ⟨BB, hBB⟩ : ∃ L, L = [] ++ La ++ Lb ++ Lc ++ Ld ++ Le ++ Lh ++ Li := ⟨_, rfl⟩
  rw [← hBB] at HG hlenB
  have HBB := Lib.hid hBB
  clear hBB
  refine (trail2_any w1.heap.size v8 _ wx8 HG.out.1 HG.out.2.1.size (by omega)).mono ?_
  rintro e wt ⟨vt, rfl, hGt⟩
  have hbt : Below w.heap.size w wt := Below.touch (HB.out.trans ((HT.out _ HG.out.2.1).mono HB.out.size)) hGt.2.1 (fun i hi q => by have := (HG.out.1.lt _ q).1; have := HB.out.size; omega) (Nat.le_refl _)
  obtain ⟨A9, c9, rfl, _, _, hrd⟩ := Rd.bits hGt.1
  have HBT := Lib.hid hbt
  have HRD := Lib.hid hrd
  have hlt8 := trL_le BB
  have hlt9 : (trL BB).length ≤ 1100000 := by omega
  obtain ⟨TB, hTB⟩ : ∃ L, L = trL BB := ⟨_, rfl⟩
  rw [← hTB] at HRD hlt9
  rw [← hTB]
  have HTB := Lib.hid hTB
  clear hbt hrd hGt hlt8 hTB
  go_wp2_with fail
  refine (pack_any A9 c9 wt.heap.size TB wt HRD.out (Nat.le_refl _) hlt9).mono ?_
  rintro e wp ⟨rfl, hb⟩
  replace HBT := Lib.hid (HBT.out.trans (hb.mono HBT.out.size))
  clear hb HRD
  go_wp2_with fail
  go_ret2
  have e9 : packS TB = SS := by rw [HSS.out, HTB.out, HBB.out]; try simp
  exact ⟨by rw [← e9]; rfl, HBT.out⟩
set_option maxRecDepth 100000 in
set_option maxHeartbeats 6400000 in
theorem putsp2_1 (s0 s1 s2 s4 s5 : Int) (cy : List Int) (s7 s8 : Int) (A : Option Addr) (c : Nat) (h : SpOk ⟨s0, s1, s2, 1, s4, s5, cy, s7, s8⟩) (w : World) (hs : SpAt w w.heap.size ⟨s0, s1, s2, 1, s4, s5, cy, s7, s8⟩ A) :
    Calls Try.prog 12 #[.agg (spV ⟨s0, s1, s2, 1, s4, s5, cy, s7, s8⟩ A c)] w fun e w' => e = .returned (.tuple #[.string (packS (trL (spL ⟨s0, s1, s2, 1, s4, s5, cy, s7, s8⟩))), .int .i64 0]) ∧ Below w.heap.size w w' := by
  have hM := maysp2_any ⟨s0, s1, s2, 1, s4, s5, cy, s7, s8⟩ A c (w.alloc (.cells (spV ⟨s0, s1, s2, 1, s4, s5, cy, s7, s8⟩ A c) 24)) (hs.past _) (by have := h.2.2.2.2.2.2.1; omega)
  rw [(maySp_iff _).2 h] at hM
  have hB0 := (Below.refl w.heap.size w).alloc (Nat.le_refl _) (.cells (spV ⟨s0, s1, s2, 1, s4, s5, cy, s7, s8⟩ A c) 24)
  have hP0 := Bk.new w 24 (spV ⟨s0, s1, s2, 1, s4, s5, cy, s7, s8⟩ A c)
  have hS0 := hs.past (.cells (spV ⟨s0, s1, s2, 1, s4, s5, cy, s7, s8⟩ A c) 24)
  obtain ⟨⟨a1, a2⟩, ⟨b1, b2⟩, ⟨c1, c2⟩, ⟨d1, d2⟩, -, ⟨e1, e2⟩, hcl, hco, -, -, ⟨f1, f2⟩, ⟨g1, g2⟩, -⟩ := h
  simp only at a1 a2 b1 b2 c1 c2 d1 d2 e1 e2 hcl hco f1 f2 g1 g2
  have hL : spL ⟨s0, s1, s2, 1, s4, s5, cy, s7, s8⟩ = ueL (s0 - 1).toNat ++ ueL (s1 - 1).toNat ++ ueL (s2 - 4).toNat ++ ueL 1 ++ (seL s5 ++ ueL cy.length ++ cyL cy) ++ ueL s7.toNat ++ ueL s8.toNat := by
    unfold spL mid
    simp
  rw [hL]
  clear hL
  obtain ⟨SS, hSS⟩ : ∃ S, S = packS (trL (ueL (s0 - 1).toNat ++ ueL (s1 - 1).toNat ++ ueL (s2 - 4).toNat ++ ueL 1 ++ (seL s5 ++ ueL cy.length ++ cyL cy) ++ ueL s7.toNat ++ ueL s8.toNat)) := ⟨_, rfl⟩
  rw [← hSS]
  have la := ueL_le (x := (s0 - 1).toNat) (by omega)
  have hua : ∀ w, Calls Try.prog 34 #[.int .i64 (s0 - 1)] w (BRow w (ueL (s0 - 1).toNat)) := fun w => by
    have := ue2_any ((s0 - 1).toNat) w (by omega)
    rwa [show ((((s0 - 1).toNat : Nat)) : Int) = s0 - 1 by omega] at this
  have lb := ueL_le (x := (s1 - 1).toNat) (by omega)
  have hub : ∀ w, Calls Try.prog 34 #[.int .i64 (s1 - 1)] w (BRow w (ueL (s1 - 1).toNat)) := fun w => by
    have := ue2_any ((s1 - 1).toNat) w (by omega)
    rwa [show ((((s1 - 1).toNat : Nat)) : Int) = s1 - 1 by omega] at this
  have lc := ueL_le (x := (s2 - 4).toNat) (by omega)
  have huc : ∀ w, Calls Try.prog 34 #[.int .i64 (s2 - 4)] w (BRow w (ueL (s2 - 4).toNat)) := fun w => by
    have := ue2_any ((s2 - 4).toNat) w (by omega)
    rwa [show ((((s2 - 4).toNat : Nat)) : Int) = s2 - 4 by omega] at this
  have ld := ueL_le (x := 1) (by omega)
  have hud : ∀ w, Calls Try.prog 34 #[.int .i64 (1)] w (BRow w (ueL 1)) := fun w => by
    have := ue2_any (1) w (by omega)
    rwa [show (((1 : Nat)) : Int) = 1 by omega] at this
  have lg := ueL_le (x := cy.length) (by omega)
  have hug : ∀ w, Calls Try.prog 34 #[.int .i64 (cy.length)] w (BRow w (ueL cy.length)) := fun w => by
    have := ue2_any (cy.length) w (by omega)
    rwa [show (((cy.length : Nat)) : Int) = cy.length by omega] at this
  have lh := ueL_le (x := s7.toNat) (by omega)
  have huh : ∀ w, Calls Try.prog 34 #[.int .i64 (s7)] w (BRow w (ueL s7.toNat)) := fun w => by
    have := ue2_any (s7.toNat) w (by omega)
    rwa [show (((s7.toNat : Nat)) : Int) = s7 by omega] at this
  have li := ueL_le (x := s8.toNat) (by omega)
  have hui : ∀ w, Calls Try.prog 34 #[.int .i64 (s8)] w (BRow w (ueL s8.toNat)) := fun w => by
    have := ue2_any (s8.toNat) w (by omega)
    rwa [show (((s8.toNat : Nat)) : Int) = s8 by omega] at this
  have lf := seL_le (x := s5) (by omega) (by omega)
  have huf : ∀ w, Calls Try.prog 35 #[.int .i64 s5] w (BRow w (seL s5)) := fun w => se2_any s5 w (by omega)
  obtain ⟨La, hLa⟩ : ∃ L, L = ueL (s0 - 1).toNat := ⟨_, rfl⟩
  rw [← hLa] at la hua
  obtain ⟨Lb, hLb⟩ : ∃ L, L = ueL (s1 - 1).toNat := ⟨_, rfl⟩
  rw [← hLb] at lb hub
  obtain ⟨Lc, hLc⟩ : ∃ L, L = ueL (s2 - 4).toNat := ⟨_, rfl⟩
  rw [← hLc] at lc huc
  obtain ⟨Ld, hLd⟩ : ∃ L, L = ueL 1 := ⟨_, rfl⟩
  rw [← hLd] at ld hud
  obtain ⟨Lg, hLg⟩ : ∃ L, L = ueL cy.length := ⟨_, rfl⟩
  rw [← hLg] at lg hug
  obtain ⟨Lh, hLh⟩ : ∃ L, L = ueL s7.toNat := ⟨_, rfl⟩
  rw [← hLh] at lh huh
  obtain ⟨Li, hLi⟩ : ∃ L, L = ueL s8.toNat := ⟨_, rfl⟩
  rw [← hLi] at li hui
  obtain ⟨Lf, hLf⟩ : ∃ L, L = seL s5 := ⟨_, rfl⟩
  rw [← hLf] at lf huf
  rw [← hLa, ← hLb, ← hLc, ← hLd, ← hLg, ← hLh, ← hLi, ← hLf] at hSS
  have HUa := Lib.hid hua
  have HUb := Lib.hid hub
  have HUc := Lib.hid huc
  have HUd := Lib.hid hud
  have HUg := Lib.hid hug
  have HUh := Lib.hid huh
  have HUi := Lib.hid hui
  have HUf := Lib.hid huf
  have HSS := Lib.hid hSS
  have HCO := Lib.hid hco
  clear hSS hco hua hLa hub hLb huc hLc hud hLd hug hLg huh hLh hui hLi huf hLf
  have hl6 : ((.slice A cy.length c : Value)) = .slice A cy.length c := rfl
  simp only [spV] at *
  have HM := Lib.hid hM
  have HB := Lib.hid hB0
  have HP := Lib.hid hP0
  have HS := Lib.hid hS0
  clear hM hB0 hP0 hS0 hs hl6
  go_enter Try.func12, Try.ntmps12
  go_wp2_with fail
  refine HM.out.mono ?_
  rintro e w1 ⟨rfl, hb⟩
  replace HP := Lib.hid (HP.out.go hb)
  replace HS := Lib.hid (HS.out.go hb)
  replace HB := Lib.hid (HB.out.trans (hb.mono HB.out.size))
  clear hb HM
  have HT : Hid (∀ w' : World, Touch (fun k => (Value.slice none 0 0).ownBlock = some k) w1 w' → Below w1.heap.size w1 w') := Lib.hid (fun w' ht => ht.below (fun k q => by simp [Value.ownBlock] at q) (Nat.le_refl _))
  have HG : Hid (BGrow w1 w1.heap.size (Value.slice none 0 0) [] (Value.slice none 0 0) w1) := Lib.hid (BGrow.refl (World.ownsRow_nil _ _ _ _))
  have k0 := HP.out.cell 0
  simp at k0
  go_wp2_with fail
  refine (HUa.out _).mono ?_
  rintro e wc1 ⟨vd1, rfl, hvd, hbd⟩
  go_wp2_with (at_builtin; refine wpList_app rfl _ _ rfl w1.heap.size (Value.slice none 0 0) _ vd1 ([]) La rfl rfl HG.out HG.out.2.1.size hbd hvd (by simp only [List.length_append, List.length_cons, List.length_nil]; omega) ?_; intro v2 wx2 hG; have kk := HP.out.go (HT.out _ hG.2.1); have k1 := kk.cell 1; simp at k1; clear kk)
  replace HG := Lib.hid hG
  clear hG hvd hbd
  refine (HUb.out _).mono ?_
  rintro e wc2 ⟨vd2, rfl, hvd, hbd⟩
  go_wp2_with (at_builtin; refine wpList_app rfl _ _ rfl w1.heap.size (Value.slice none 0 0) _ vd2 ([] ++ La) Lb rfl rfl HG.out HG.out.2.1.size hbd hvd (by simp only [List.length_append, List.length_cons, List.length_nil]; omega) ?_; intro v3 wx3 hG; have kk := HP.out.go (HT.out _ hG.2.1); have k2 := kk.cell 2; simp at k2; clear kk)
  replace HG := Lib.hid hG
  clear hG hvd hbd
  refine (HUc.out _).mono ?_
  rintro e wc3 ⟨vd3, rfl, hvd, hbd⟩
  go_wp2_with (at_builtin; refine wpList_app rfl _ _ rfl w1.heap.size (Value.slice none 0 0) _ vd3 ([] ++ La ++ Lb) Lc rfl rfl HG.out HG.out.2.1.size hbd hvd (by simp only [List.length_append, List.length_cons, List.length_nil]; omega) ?_; intro v4 wx4 hG; have kk := HP.out.go (HT.out _ hG.2.1); have k3 := kk.cell 3; simp at k3; clear kk)
  replace HG := Lib.hid hG
  clear hG hvd hbd
  refine (HUd.out _).mono ?_
  rintro e wc4 ⟨vd4, rfl, hvd, hbd⟩
  go_wp2_with (at_builtin; refine wpList_app rfl _ _ rfl w1.heap.size (Value.slice none 0 0) _ vd4 ([] ++ La ++ Lb ++ Lc) Ld rfl rfl HG.out HG.out.2.1.size hbd hvd (by simp only [List.length_append, List.length_cons, List.length_nil]; omega) ?_; intro v5 wx5 hG; have kk := HP.out.go (HT.out _ hG.2.1); have k3 := kk.cell 3; have k5 := kk.cell 5; simp at k3 k5; clear kk)
  replace HG := Lib.hid hG
  clear hG hvd hbd
  refine (HUf.out _).mono ?_
  rintro e wc5 ⟨vd5, rfl, hvd, hbd⟩
  go_wp2_with (at_builtin; refine wpList_app rfl _ _ rfl w1.heap.size (Value.slice none 0 0) _ vd5 ([] ++ La ++ Lb ++ Lc ++ Ld) Lf rfl rfl HG.out HG.out.2.1.size hbd hvd (by simp only [List.length_append, List.length_cons, List.length_nil]; omega) ?_; intro v6 wx6 hG; have kk := HP.out.go (HT.out _ hG.2.1); have k6 := kk.cell 6; simp at k6; clear kk)
  replace HG := Lib.hid hG
  clear hG hvd hbd
  refine (HUg.out _).mono ?_
  rintro e wc6 ⟨vd6, rfl, hvd, hbd⟩
  go_wp2_with (at_builtin; refine wpList_app rfl _ _ rfl w1.heap.size (Value.slice none 0 0) _ vd6 ([] ++ La ++ Lb ++ Lc ++ Ld ++ Lf) Lg rfl rfl HG.out HG.out.2.1.size hbd hvd (by simp only [List.length_append, List.length_cons, List.length_nil]; omega) ?_; intro v7 wx7 hG; have kk := HP.out.go (HT.out _ hG.2.1); clear kk)
  replace HG := Lib.hid hG
  clear hG hvd hbd
  obtain ⟨B1, hB1⟩ : ∃ B, B = [] ++ La ++ Lb ++ Lc ++ Ld ++ Lf ++ Lg := ⟨_, rfl⟩
  have hB1l : B1.length ≤ 500 := by rw [hB1]; simp only [List.length_append, List.length_cons, List.length_nil]; omega
  rw [← hB1] at HG
  have HB1 := Lib.hid hB1
  clear hB1
  go_loopw [4, 5] (fun v i wr => ∃ j : Nat, j ≤ cy.length ∧ i = .int .i64 j ∧ BGrow w1 w1.heap.size (Value.slice none 0 0) (B1 ++ cyL (cy.take j)) v wr) (fun _ i _ => cy.length - (intOf i).toNat)
  case atStart => exact ⟨0, Nat.zero_le _, rfl, by rw [List.take_zero]; simpa [cyL] using HG.out⟩
  case round =>
    clear HG
    obtain ⟨j, hj, rfl, hgr⟩ := hrel
    have HG := Lib.hid hgr
    clear hgr
    have kk := HP.out.go (HT.out _ HG.out.2.1)
    have hss := HS.out.go (HT.out _ HG.out.2.1)
    have k6 := kk.cell 6
    have k7 := kk.cell 7
    simp at k6 k7
    have hlc := cyL_le (cy.take j) (fun x hx => by have := HCO.out x (List.mem_of_mem_take hx); omega)
    have hlt4 : (cy.take j).length ≤ 4 := by rw [List.length_take]; omega
    obtain ⟨LJ, hLJ⟩ : ∃ L, L = cyL (cy.take j) := ⟨_, rfl⟩
    have hlj : LJ.length ≤ 244 := by rw [hLJ]; omega
    rw [← hLJ] at HG
    have HLJ := Lib.hid hLJ
    clear hlc hlt4 hLJ
    by_cases hlt : j < cy.length
    · have hlt' : (j : Int) < (cy.length : Int) := by omega
      have hj0 : (0 : Int) ≤ (j : Int) := Int.natCast_nonneg _
      obtain ⟨ad, rfl, hab, hc0⟩ := Rd.at_ hss hlt
      have hx : -1000 ≤ cy.getD j 0 ∧ cy.getD j 0 ≤ 1000 := by
        refine HCO.out _ ?_
        rw [List.getD_eq_getElem?_getD, List.getElem?_eq_getElem hlt]
        exact List.getElem_mem hlt
      have hct := cyL_take cy j hlt
      obtain ⟨x, hxe⟩ : ∃ x, x = cy.getD j 0 := ⟨_, rfl⟩
      rw [← hxe] at hx hct
      have hc : _ = some (Value.int .i64 (cy.getD j 0)) := hc0
      clear hc0
      rw [← hxe] at hc
      have HCT := Lib.hid hct
      have HSE := Lib.hid (fun w => se2_any x w (by omega))
      have lse := seL_le (x := x) (by omega) (by omega)
      clear hct hxe hab hss kk
      go_wp2_with fail
      refine (HSE.out _).mono ?_
      rintro e wc ⟨vd, rfl, hvd, hbd⟩
      go_wp2_with (at_builtin; refine wpList_app rfl _ _ rfl w1.heap.size (Value.slice none 0 0) _ vd (B1 ++ LJ) (seL x) rfl rfl HG.out HG.out.2.1.size hbd hvd (by simp only [List.length_append]; omega) ?_; intro v9 w9 hG)
      rw [List.append_assoc, HLJ.out, ← HCT.out] at hG
      have HG9 := Lib.hid hG
      clear hG hvd hbd
      go_roundw
      case rel => exact ⟨j + 1, by omega, by go_num, HG9.out⟩
      case measure => simp [intOf]; omega
    · obtain rfl : j = cy.length := by omega
      have hjj : ¬ (cy.length : Int) < (cy.length : Int) := by omega
      have hLC := HLJ.out
      rw [List.take_length] at hLC
      have HLC := Lib.hid hLC
      clear hLC hss kk
      go_wp2_with fail
      refine (HUh.out _).mono ?_
      rintro e wc7 ⟨vd7, rfl, hvd, hbd⟩
      go_wp2_with (at_builtin; refine wpList_app rfl _ _ rfl w1.heap.size (Value.slice none 0 0) _ vd7 (B1 ++ LJ) Lh rfl rfl HG.out HG.out.2.1.size hbd hvd (by simp only [List.length_append, List.length_cons, List.length_nil]; omega) ?_; intro v8 wx8 hG; have kk := HP.out.go (HT.out _ hG.2.1); have k8 := kk.cell 8; simp at k8; clear kk)
      replace HG := Lib.hid hG
      clear hG hvd hbd
      refine (HUi.out _).mono ?_
      rintro e wc8 ⟨vd8, rfl, hvd, hbd⟩
      go_wp2_with (at_builtin; refine wpList_app rfl _ _ rfl w1.heap.size (Value.slice none 0 0) _ vd8 (B1 ++ LJ ++ Lh) Li rfl rfl HG.out HG.out.2.1.size hbd hvd (by simp only [List.length_append, List.length_cons, List.length_nil]; omega) ?_; intro v9 wx9 hG; have kk := HP.out.go (HT.out _ hG.2.1); clear kk)
      replace HG := Lib.hid hG
      clear hG hvd hbd
      have hlenB : (B1 ++ LJ ++ Lh ++ Li).length ≤ 1000 := by simp only [List.length_append, List.length_cons, List.length_nil]; omega
      obtain ⟨BB, hBB⟩ : ∃ L, L = B1 ++ LJ ++ Lh ++ Li := ⟨_, rfl⟩
      rw [← hBB] at HG hlenB
      have HBB := Lib.hid hBB
      clear hBB
      refine (trail2_any w1.heap.size v9 _ wx9 HG.out.1 HG.out.2.1.size (by omega)).mono ?_
      rintro e wt ⟨vt, rfl, hGt⟩
      have hbt : Below w.heap.size w wt := Below.touch (HB.out.trans ((HT.out _ HG.out.2.1).mono HB.out.size)) hGt.2.1 (fun i hi q => by have := (HG.out.1.lt _ q).1; have := HB.out.size; omega) (Nat.le_refl _)
      obtain ⟨A9, c9, rfl, _, _, hrd⟩ := Rd.bits hGt.1
      have HBT := Lib.hid hbt
      have HRD := Lib.hid hrd
      have hlt8 := trL_le BB
      have hlt9 : (trL BB).length ≤ 1100000 := by omega
      obtain ⟨TB, hTB⟩ : ∃ L, L = trL BB := ⟨_, rfl⟩
      rw [← hTB] at HRD hlt9
      rw [← hTB]
      have HTB := Lib.hid hTB
      clear hbt hrd hGt hlt8 hTB
      go_wp2_with fail
      refine (pack_any A9 c9 wt.heap.size TB wt HRD.out (Nat.le_refl _) hlt9).mono ?_
      rintro e wp ⟨rfl, hb⟩
      replace HBT := Lib.hid (HBT.out.trans (hb.mono HBT.out.size))
      clear hb HRD
      go_wp2_with fail
      go_ret2
      have e9 : packS TB = SS := by rw [HSS.out, HTB.out, HBB.out, HB1.out, HLC.out]; try simp
      exact ⟨by rw [← e9]; rfl, HBT.out⟩
set_option maxRecDepth 100000 in
set_option maxHeartbeats 6400000 in
theorem putsp2_2 (s0 s1 s2 s4 s5 : Int) (cy : List Int) (s7 s8 : Int) (A : Option Addr) (c : Nat) (h : SpOk ⟨s0, s1, s2, 2, s4, s5, cy, s7, s8⟩) (w : World) (hs : SpAt w w.heap.size ⟨s0, s1, s2, 2, s4, s5, cy, s7, s8⟩ A) :
    Calls Try.prog 12 #[.agg (spV ⟨s0, s1, s2, 2, s4, s5, cy, s7, s8⟩ A c)] w fun e w' => e = .returned (.tuple #[.string (packS (trL (spL ⟨s0, s1, s2, 2, s4, s5, cy, s7, s8⟩))), .int .i64 0]) ∧ Below w.heap.size w w' := by
  have hM := maysp2_any ⟨s0, s1, s2, 2, s4, s5, cy, s7, s8⟩ A c (w.alloc (.cells (spV ⟨s0, s1, s2, 2, s4, s5, cy, s7, s8⟩ A c) 24)) (hs.past _) (by have := h.2.2.2.2.2.2.1; omega)
  rw [(maySp_iff _).2 h] at hM
  have hB0 := (Below.refl w.heap.size w).alloc (Nat.le_refl _) (.cells (spV ⟨s0, s1, s2, 2, s4, s5, cy, s7, s8⟩ A c) 24)
  have hP0 := Bk.new w 24 (spV ⟨s0, s1, s2, 2, s4, s5, cy, s7, s8⟩ A c)
  have hS0 := hs.past (.cells (spV ⟨s0, s1, s2, 2, s4, s5, cy, s7, s8⟩ A c) 24)
  obtain ⟨⟨a1, a2⟩, ⟨b1, b2⟩, ⟨c1, c2⟩, ⟨d1, d2⟩, -, ⟨e1, e2⟩, hcl, hco, -, -, ⟨f1, f2⟩, ⟨g1, g2⟩, -⟩ := h
  simp only at a1 a2 b1 b2 c1 c2 d1 d2 e1 e2 hcl hco f1 f2 g1 g2
  have hL : spL ⟨s0, s1, s2, 2, s4, s5, cy, s7, s8⟩ = ueL (s0 - 1).toNat ++ ueL (s1 - 1).toNat ++ ueL (s2 - 4).toNat ++ ueL 2 ++ ueL s7.toNat ++ ueL s8.toNat := by
    unfold spL mid
    simp
  rw [hL]
  clear hL
  obtain ⟨SS, hSS⟩ : ∃ S, S = packS (trL (ueL (s0 - 1).toNat ++ ueL (s1 - 1).toNat ++ ueL (s2 - 4).toNat ++ ueL 2 ++ ueL s7.toNat ++ ueL s8.toNat)) := ⟨_, rfl⟩
  rw [← hSS]
  have la := ueL_le (x := (s0 - 1).toNat) (by omega)
  have hua : ∀ w, Calls Try.prog 34 #[.int .i64 (s0 - 1)] w (BRow w (ueL (s0 - 1).toNat)) := fun w => by
    have := ue2_any ((s0 - 1).toNat) w (by omega)
    rwa [show ((((s0 - 1).toNat : Nat)) : Int) = s0 - 1 by omega] at this
  have lb := ueL_le (x := (s1 - 1).toNat) (by omega)
  have hub : ∀ w, Calls Try.prog 34 #[.int .i64 (s1 - 1)] w (BRow w (ueL (s1 - 1).toNat)) := fun w => by
    have := ue2_any ((s1 - 1).toNat) w (by omega)
    rwa [show ((((s1 - 1).toNat : Nat)) : Int) = s1 - 1 by omega] at this
  have lc := ueL_le (x := (s2 - 4).toNat) (by omega)
  have huc : ∀ w, Calls Try.prog 34 #[.int .i64 (s2 - 4)] w (BRow w (ueL (s2 - 4).toNat)) := fun w => by
    have := ue2_any ((s2 - 4).toNat) w (by omega)
    rwa [show ((((s2 - 4).toNat : Nat)) : Int) = s2 - 4 by omega] at this
  have ld := ueL_le (x := 2) (by omega)
  have hud : ∀ w, Calls Try.prog 34 #[.int .i64 (2)] w (BRow w (ueL 2)) := fun w => by
    have := ue2_any (2) w (by omega)
    rwa [show (((2 : Nat)) : Int) = 2 by omega] at this
  have lh := ueL_le (x := s7.toNat) (by omega)
  have huh : ∀ w, Calls Try.prog 34 #[.int .i64 (s7)] w (BRow w (ueL s7.toNat)) := fun w => by
    have := ue2_any (s7.toNat) w (by omega)
    rwa [show (((s7.toNat : Nat)) : Int) = s7 by omega] at this
  have li := ueL_le (x := s8.toNat) (by omega)
  have hui : ∀ w, Calls Try.prog 34 #[.int .i64 (s8)] w (BRow w (ueL s8.toNat)) := fun w => by
    have := ue2_any (s8.toNat) w (by omega)
    rwa [show (((s8.toNat : Nat)) : Int) = s8 by omega] at this
  obtain ⟨La, hLa⟩ : ∃ L, L = ueL (s0 - 1).toNat := ⟨_, rfl⟩
  rw [← hLa] at la hua
  obtain ⟨Lb, hLb⟩ : ∃ L, L = ueL (s1 - 1).toNat := ⟨_, rfl⟩
  rw [← hLb] at lb hub
  obtain ⟨Lc, hLc⟩ : ∃ L, L = ueL (s2 - 4).toNat := ⟨_, rfl⟩
  rw [← hLc] at lc huc
  obtain ⟨Ld, hLd⟩ : ∃ L, L = ueL 2 := ⟨_, rfl⟩
  rw [← hLd] at ld hud
  obtain ⟨Lh, hLh⟩ : ∃ L, L = ueL s7.toNat := ⟨_, rfl⟩
  rw [← hLh] at lh huh
  obtain ⟨Li, hLi⟩ : ∃ L, L = ueL s8.toNat := ⟨_, rfl⟩
  rw [← hLi] at li hui
  rw [← hLa, ← hLb, ← hLc, ← hLd, ← hLh, ← hLi] at hSS
  have HUa := Lib.hid hua
  have HUb := Lib.hid hub
  have HUc := Lib.hid huc
  have HUd := Lib.hid hud
  have HUh := Lib.hid huh
  have HUi := Lib.hid hui
  have HSS := Lib.hid hSS
  have HCO := Lib.hid hco
  clear hSS hco hua hLa hub hLb huc hLc hud hLd huh hLh hui hLi
  have hl6 : ((.slice A cy.length c : Value)) = .slice A cy.length c := rfl
  simp only [spV] at *
  have HM := Lib.hid hM
  have HB := Lib.hid hB0
  have HP := Lib.hid hP0
  have HS := Lib.hid hS0
  clear hM hB0 hP0 hS0 hs hl6
  go_enter Try.func12, Try.ntmps12
  go_wp2_with fail
  refine HM.out.mono ?_
  rintro e w1 ⟨rfl, hb⟩
  replace HP := Lib.hid (HP.out.go hb)
  replace HS := Lib.hid (HS.out.go hb)
  replace HB := Lib.hid (HB.out.trans (hb.mono HB.out.size))
  clear hb HM
  have HT : Hid (∀ w' : World, Touch (fun k => (Value.slice none 0 0).ownBlock = some k) w1 w' → Below w1.heap.size w1 w') := Lib.hid (fun w' ht => ht.below (fun k q => by simp [Value.ownBlock] at q) (Nat.le_refl _))
  have HG : Hid (BGrow w1 w1.heap.size (Value.slice none 0 0) [] (Value.slice none 0 0) w1) := Lib.hid (BGrow.refl (World.ownsRow_nil _ _ _ _))
  have k0 := HP.out.cell 0
  simp at k0
  go_wp2_with fail
  refine (HUa.out _).mono ?_
  rintro e wc1 ⟨vd1, rfl, hvd, hbd⟩
  go_wp2_with (at_builtin; refine wpList_app rfl _ _ rfl w1.heap.size (Value.slice none 0 0) _ vd1 ([]) La rfl rfl HG.out HG.out.2.1.size hbd hvd (by simp only [List.length_append, List.length_cons, List.length_nil]; omega) ?_; intro v2 wx2 hG; have kk := HP.out.go (HT.out _ hG.2.1); have k1 := kk.cell 1; simp at k1; clear kk)
  replace HG := Lib.hid hG
  clear hG hvd hbd
  refine (HUb.out _).mono ?_
  rintro e wc2 ⟨vd2, rfl, hvd, hbd⟩
  go_wp2_with (at_builtin; refine wpList_app rfl _ _ rfl w1.heap.size (Value.slice none 0 0) _ vd2 ([] ++ La) Lb rfl rfl HG.out HG.out.2.1.size hbd hvd (by simp only [List.length_append, List.length_cons, List.length_nil]; omega) ?_; intro v3 wx3 hG; have kk := HP.out.go (HT.out _ hG.2.1); have k2 := kk.cell 2; simp at k2; clear kk)
  replace HG := Lib.hid hG
  clear hG hvd hbd
  refine (HUc.out _).mono ?_
  rintro e wc3 ⟨vd3, rfl, hvd, hbd⟩
  go_wp2_with (at_builtin; refine wpList_app rfl _ _ rfl w1.heap.size (Value.slice none 0 0) _ vd3 ([] ++ La ++ Lb) Lc rfl rfl HG.out HG.out.2.1.size hbd hvd (by simp only [List.length_append, List.length_cons, List.length_nil]; omega) ?_; intro v4 wx4 hG; have kk := HP.out.go (HT.out _ hG.2.1); have k3 := kk.cell 3; simp at k3; clear kk)
  replace HG := Lib.hid hG
  clear hG hvd hbd
  refine (HUd.out _).mono ?_
  rintro e wc4 ⟨vd4, rfl, hvd, hbd⟩
  go_wp2_with (at_builtin; refine wpList_app rfl _ _ rfl w1.heap.size (Value.slice none 0 0) _ vd4 ([] ++ La ++ Lb ++ Lc) Ld rfl rfl HG.out HG.out.2.1.size hbd hvd (by simp only [List.length_append, List.length_cons, List.length_nil]; omega) ?_; intro v5 wx5 hG; have kk := HP.out.go (HT.out _ hG.2.1); have k3 := kk.cell 3; have k7 := kk.cell 7; simp at k3 k7; clear kk)
  replace HG := Lib.hid hG
  clear hG hvd hbd
  refine (HUh.out _).mono ?_
  rintro e wc5 ⟨vd5, rfl, hvd, hbd⟩
  go_wp2_with (at_builtin; refine wpList_app rfl _ _ rfl w1.heap.size (Value.slice none 0 0) _ vd5 ([] ++ La ++ Lb ++ Lc ++ Ld) Lh rfl rfl HG.out HG.out.2.1.size hbd hvd (by simp only [List.length_append, List.length_cons, List.length_nil]; omega) ?_; intro v6 wx6 hG; have kk := HP.out.go (HT.out _ hG.2.1); have k8 := kk.cell 8; simp at k8; clear kk)
  replace HG := Lib.hid hG
  clear hG hvd hbd
  refine (HUi.out _).mono ?_
  rintro e wc6 ⟨vd6, rfl, hvd, hbd⟩
  go_wp2_with (at_builtin; refine wpList_app rfl _ _ rfl w1.heap.size (Value.slice none 0 0) _ vd6 ([] ++ La ++ Lb ++ Lc ++ Ld ++ Lh) Li rfl rfl HG.out HG.out.2.1.size hbd hvd (by simp only [List.length_append, List.length_cons, List.length_nil]; omega) ?_; intro v7 wx7 hG; have kk := HP.out.go (HT.out _ hG.2.1); clear kk)
  replace HG := Lib.hid hG
  clear hG hvd hbd
  have hlenB : ([] ++ La ++ Lb ++ Lc ++ Ld ++ Lh ++ Li).length ≤ 1000 := by simp only [List.length_append, List.length_cons, List.length_nil]; omega
  obtain ⟨BB, hBB⟩ : ∃ L, L = [] ++ La ++ Lb ++ Lc ++ Ld ++ Lh ++ Li := ⟨_, rfl⟩
  rw [← hBB] at HG hlenB
  have HBB := Lib.hid hBB
  clear hBB
  refine (trail2_any w1.heap.size v7 _ wx7 HG.out.1 HG.out.2.1.size (by omega)).mono ?_
  rintro e wt ⟨vt, rfl, hGt⟩
  have hbt : Below w.heap.size w wt := Below.touch (HB.out.trans ((HT.out _ HG.out.2.1).mono HB.out.size)) hGt.2.1 (fun i hi q => by have := (HG.out.1.lt _ q).1; have := HB.out.size; omega) (Nat.le_refl _)
  obtain ⟨A9, c9, rfl, _, _, hrd⟩ := Rd.bits hGt.1
  have HBT := Lib.hid hbt
  have HRD := Lib.hid hrd
  have hlt8 := trL_le BB
  have hlt9 : (trL BB).length ≤ 1100000 := by omega
  obtain ⟨TB, hTB⟩ : ∃ L, L = trL BB := ⟨_, rfl⟩
  rw [← hTB] at HRD hlt9
  rw [← hTB]
  have HTB := Lib.hid hTB
  clear hbt hrd hGt hlt8 hTB
  go_wp2_with fail
  refine (pack_any A9 c9 wt.heap.size TB wt HRD.out (Nat.le_refl _) hlt9).mono ?_
  rintro e wp ⟨rfl, hb⟩
  replace HBT := Lib.hid (HBT.out.trans (hb.mono HBT.out.size))
  clear hb HRD
  go_wp2_with fail
  go_ret2
  have e9 : packS TB = SS := by rw [HSS.out, HTB.out, HBB.out]; try simp
  exact ⟨by rw [← e9]; rfl, HBT.out⟩
theorem putsp2_any (s : Sp) (A : Option Addr) (c : Nat) (w : World) (hs : SpAt w w.heap.size s A) (hn : s.cy.length ≤ 1152921504606846976) :
    Calls Try.prog 12 #[.agg (spV s A c)] w fun e w' => e = .returned (.tuple #[.string (putSpS s), .int .i64 (putSpE s)]) ∧ Below w.heap.size w w' := by
  unfold putSpS putSpE
  cases h : maySp s
  · rw [if_neg (by simp), if_neg (by simp)]
    exact putsp2_no h A c w hs hn
  · rw [if_pos rfl, if_pos rfl]
    have ok := (maySp_iff s).1 h
    obtain ⟨s0, s1, s2, s3, s4, s5, cy, s7, s8⟩ := s
    have h2 := ok.2.2.2.2.1
    simp only at h2
    have hc : s3 = 0 ∨ s3 = 1 ∨ s3 = 2 := by omega
    rcases hc with rfl | rfl | rfl
    · exact putsp2_0 s0 s1 s2 s4 s5 cy s7 s8 A c ok w hs
    · exact putsp2_1 s0 s1 s2 s4 s5 cy s7 s8 A c ok w hs
    · exact putsp2_2 s0 s1 s2 s4 s5 cy s7 s8 A c ok w hs
end Go.Proofs.Ytegfglpaabddlaa
