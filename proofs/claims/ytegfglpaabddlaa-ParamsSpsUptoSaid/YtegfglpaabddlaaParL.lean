/- PutSps: the walk. -/
import Derived.Test.YtegfglpaabddlaaParF
import Derived.Test.YtegfglpaabddlaaParR
import Derived.Test.YtegfglpaabddlaaParK
namespace Go.Proofs.Ytegfglpaabddlaa
open Go.RowKit
set_option linter.unusedVariables false
set_option linter.unusedSimpArgs false

theorem cyL_take (l : List Int) (k : Nat) (h : k < l.length) : cyL (l.take (k + 1)) = cyL (l.take k) ++ seL (l.getD k 0) := by
  rw [List.take_add_one, List.getElem?_eq_getElem h, List.getD_eq_getElem?_getD, List.getElem?_eq_getElem h]
  exact cyL_snoc _ _

theorem stl_ue {w0 w1 : World} {g : Nat} {v : Value} {b : List Bool} {M : Nat} (H : WStep w0 w1 g v b M) (hM : M ≤ 900000) {L : Nat} {t : TypeId} {cs : Array Value} (hl : Bk w1 L t cs) (hn : ¬ WS g v L) (x : Int) (h0 : 0 ≤ x) (h1 : x ≤ 2147483646) :
    Calls Try.prog 30 #[.pointer (some ⟨g, 0, none⟩), .int .i64 x] w1 fun e w' => e = .returned (.int .i64 0) ∧ ∃ v', WStep w0 w' g v' (b ++ ueL x.toNat) (M + 64) ∧ Bk w' L t cs ∧ ¬ WS g v' L := by
  have hb := H.2.2.2
  have := ueL_le (x := x.toNat) (by omega)
  refine (ue_yes w0.heap.size g v b x w1 H.1 (by omega) h0 h1 H.size).mono fun e w' q => ⟨q.1, ?_⟩
  obtain ⟨v', p1, p2, p3⟩ := q.2
  refine ⟨v', ⟨p1, H.2.1, Below.touch H.2.2.1 p2 (fun i hi hs => by have := H.1.ws H.2.1 hs; omega) (Nat.le_refl _), by rw [List.length_append]; omega⟩, hl.touch p2 hn, fun q => hn (ws_new p3 hl.lt q)⟩

set_option maxRecDepth 100000 in
set_option maxHeartbeats 6400000 in
theorem putsp_any (s : Sp) (A : Option Addr) (c : Nat) (w : World) (hs : SpAt w w.heap.size s A) (hn : s.cy.length ≤ 1152921504606846976) :
    Calls Try.prog 11 #[.agg (spV s A c)] w fun e w' => e = .returned (.tuple #[.string (putSpS s), .int .i64 (putSpE s)]) ∧ Below w.heap.size w w' := by
  obtain ⟨S, hS⟩ : ∃ S, S = putSpS s := ⟨_, rfl⟩
  obtain ⟨E, hE⟩ : ∃ E, E = putSpE s := ⟨_, rfl⟩
  rw [← hS, ← hE]
  have HSE := Lib.hid (And.intro hS hE)
  clear hS hE
  obtain ⟨wide, high, fb, pt, pb, nr, cy, refs, delay⟩ := s
  have hB0 := (Below.refl w.heap.size w).alloc (Nat.le_refl _) (.cells (spV ⟨wide, high, fb, pt, pb, nr, cy, refs, delay⟩ A c) 24)
  have hP0 := Bk.new w 24 (spV ⟨wide, high, fb, pt, pb, nr, cy, refs, delay⟩ A c)
  have hS0 : SpAt _ _ _ _ := Rd.more (Rd.below hs hB0 (Nat.le_refl _)) hB0.size
  unfold spV at *
  simp only at *
  have HB := Lib.hid hB0
  have HP := Lib.hid hP0
  have HS := Lib.hid hS0
  clear hB0 hP0 hS0 hs
  go_enter Try.func11, Try.ntmps11
  go_wp2_with fail
  refine (maysp_any ⟨wide, high, fb, pt, pb, nr, cy, refs, delay⟩ A c _ HS.out hn).mono ?_
  rintro e w1 ⟨rfl, hb⟩
  have HP := Lib.hid (HP.out.go hb)
  have HS1 : Hid (SpAt w1 w1.heap.size ⟨wide, high, fb, pt, pb, nr, cy, refs, delay⟩ A) := Lib.hid (Rd.more (Rd.below HS.out hb (Nat.le_refl _)) hb.size)
  have HBW := Lib.hid (HB.out.trans (hb.mono HB.out.size))
  clear hb HS HB
  cases hm : maySp ⟨wide, high, fb, pt, pb, nr, cy, refs, delay⟩
  · have HM := Lib.hid hm
    clear hm
    go_wp2_with fail
    go_ret2
    refine ⟨?_, HBW.out⟩
    rw [HSE.out.1, HSE.out.2]
    unfold putSpS putSpE
    rw [HM.out]
    rfl
  · have hok := (maySp_iff _).1 hm
    have HM := Lib.hid hm
    unfold SpOk at hok
    simp only at hok
    obtain ⟨⟨x0, x1⟩, ⟨x2, x3⟩, ⟨x4, x5⟩, ⟨x6, x7⟩, ⟨x8, x9⟩, ⟨y0, y1⟩, y2, y3, y4, y5, ⟨y6, y7⟩, ⟨y8, y9⟩, y10⟩ := hok
    have HCY := Lib.hid y3
    have hS2 : packS (trL (spL ⟨wide, high, fb, pt, pb, nr, cy, refs, delay⟩)) = S := by rw [HSE.out.1]; unfold putSpS; rw [HM.out]; rfl
    have hE2 : (0 : Int) = E := by rw [HSE.out.2]; unfold putSpE; rw [HM.out]; rfl
    have HSE2 := Lib.hid (And.intro hS2 hE2)
    clear y3 hm hS2 hE2 HSE HM
    have hpl := HP.out.lt
    have c0 := HP.out.cell 0
    have c1 := HP.out.cell 1
    have c2 := HP.out.cell 2
    have c3 := HP.out.cell 3
    have c4 := HP.out.cell 4
    have c5 := HP.out.cell 5
    have c6 := HP.out.cell 6
    have c7 := HP.out.cell 7
    have c8 := HP.out.cell 8
    simp at c0 c1 c2 c3 c4 c5 c6 c7 c8
    obtain ⟨n, hN⟩ : ∃ n, n = cy.length := ⟨_, rfl⟩
    rw [← hN] at c6 y2 y4 hn ⊢
    have HN := Lib.hid hN
    clear hN
    have hpt : pt = 0 ∨ pt = 1 ∨ pt = 2 := by omega
    rcases hpt with rfl | rfl | rfl
    · go_wp2_with fail
      refine (st_new w1).mono ?_
      rintro e wa ⟨rfl, hw⟩
      obtain ⟨hcc, hff⟩ := bcell hw.2.2.1
      have hsa := hw.2.2.1.size
      have hl1 := Bk.new wa 3 #[.int .i64 (wide - 1), .int .i64 (high - 1), .int .i64 (fb - 4), .int .i64 0]
      have hw1 := hw.go ((Below.refl wa.heap.size wa).alloc (Nat.le_refl _) (.cells #[.int .i64 (wide - 1), .int .i64 (high - 1), .int .i64 (fb - 4), .int .i64 0] 3))
      have hnl : ¬ WS w1.heap.size (.slice none 0 0) wa.heap.size := by
        obtain ⟨_, hk, _⟩ := hw.1
        have hkl := hk.lt
        rintro (q | q)
        · omega
        · simp [Value.ownBlock] at q
      have HW := Lib.hid hw1
      have HL := Lib.hid hl1
      have HNL := Lib.hid hnl
      clear hw hff hl1 hw1 hnl
      go_wp2_with fail
      generalize wa.alloc (.cells #[.int .i64 (wide - 1), .int .i64 (high - 1), .int .i64 (fb - 4), .int .i64 0] 3) = wl at HW HL ⊢
      clear hcc
      obtain ⟨L, hL⟩ : ∃ L, L = wa.heap.size := ⟨_, rfl⟩
      rw [← hL] at HL HNL ⊢
      clear hL hsa
      refine wp_loop_rounds 5 ?_
      have l0 := HL.out.cell 0
      simp at l0
      rw [rounds_succ]
      go_wp2_with fail
      clear l0
      refine (stl_ue HW.out (by omega) HL.out HNL.out (wide - 1) (by omega) (by omega)).mono ?_
      rintro e wb0 ⟨rfl, v0, hw, hl, hnl⟩
      have HW := Lib.hid hw
      have HL := Lib.hid hl
      have HNL := Lib.hid hnl
      clear hw hl hnl
      go_wp2_with fail
      have l1 := HL.out.cell 1
      simp at l1
      rw [rounds_succ]
      go_wp2_with fail
      clear l1
      refine (stl_ue HW.out (by omega) HL.out HNL.out (high - 1) (by omega) (by omega)).mono ?_
      rintro e wb1 ⟨rfl, v1, hw, hl, hnl⟩
      have HW := Lib.hid hw
      have HL := Lib.hid hl
      have HNL := Lib.hid hnl
      clear hw hl hnl
      go_wp2_with fail
      have l2 := HL.out.cell 2
      simp at l2
      rw [rounds_succ]
      go_wp2_with fail
      clear l2
      refine (stl_ue HW.out (by omega) HL.out HNL.out (fb - 4) (by omega) (by omega)).mono ?_
      rintro e wb2 ⟨rfl, v2, hw, hl, hnl⟩
      have HW := Lib.hid hw
      have HL := Lib.hid hl
      have HNL := Lib.hid hnl
      clear hw hl hnl
      go_wp2_with fail
      have l3 := HL.out.cell 3
      simp at l3
      rw [rounds_succ]
      go_wp2_with fail
      clear l3
      refine (stl_ue HW.out (by omega) HL.out HNL.out 0 (by omega) (by omega)).mono ?_
      rintro e wb3 ⟨rfl, v3, hw, hl, hnl⟩
      have HW := Lib.hid hw
      have HL := Lib.hid hl
      have HNL := Lib.hid hnl
      clear hw hl hnl
      go_wp2_with fail
      have HW := Lib.hid HW.out
      obtain ⟨hcc, hff⟩ := bcell HW.out.2.2.1
      clear hff
      rw [rounds_succ]
      go_wp2_with fail
      obtain ⟨B, hB⟩ : ∃ B, B = [] ++ ueL (wide - 1).toNat ++ ueL (high - 1).toNat ++ ueL (fb - 4).toNat ++ ueL (0 : Int).toNat := ⟨_, rfl⟩
      rw [← hB] at HW
      have HBB := Lib.hid hB
      clear hB HL HNL
      clear hcc
      refine (st_ue HW.out (by omega) (pb - 4) (by omega) (by omega)).mono ?_
      rintro e wd ⟨rfl, vd, hw⟩
      have HW := Lib.hid hw
      obtain ⟨hcc, hff⟩ := bcell hw.2.2.1
      clear hw hff
      have hsp : B ++ ueL (pb - 4).toNat ++ ueL refs.toNat ++ ueL delay.toNat = spL ⟨wide, high, fb, 0, pb, nr, cy, refs, delay⟩ := by rw [HBB.out]; rfl
      have HSP := Lib.hid hsp
      clear hsp
      go_wp2_with fail
      clear hcc
      refine (st_ue HW.out (by omega) refs (by omega) (by omega)).mono ?_
      rintro e wg ⟨rfl, vg, hw⟩
      have HW := Lib.hid hw
      obtain ⟨hcc, hff⟩ := bcell hw.2.2.1
      clear hw hff
      go_wp2_with fail
      clear hcc
      refine (st_ue HW.out (by omega) delay (by omega) (by omega)).mono ?_
      rintro e wh ⟨rfl, vh, hw⟩
      rw [HSP.out] at hw
      have HW := Lib.hid hw
      clear hw
      go_wp2_with fail
      refine (st_trail HW.out (by omega)).mono ?_
      rintro e wi ⟨rfl, vi, hw⟩
      have HW := Lib.hid hw
      clear hw
      go_wp2_with fail
      refine (st_bytes HW.out HSE2.out.1).mono ?_
      rintro e w' ⟨rfl, rfl⟩
      have HEND := Lib.hid (HBW.out.trans (HW.out.2.2.1.mono HBW.out.size))
      go_wp2_with fail
      go_ret2
      exact ⟨by rw [← HSE2.out.2]; rfl, HEND.out⟩
    · go_wp2_with fail
      refine (st_new w1).mono ?_
      rintro e wa ⟨rfl, hw⟩
      obtain ⟨hcc, hff⟩ := bcell hw.2.2.1
      have hsa := hw.2.2.1.size
      have hl1 := Bk.new wa 3 #[.int .i64 (wide - 1), .int .i64 (high - 1), .int .i64 (fb - 4), .int .i64 1]
      have hw1 := hw.go ((Below.refl wa.heap.size wa).alloc (Nat.le_refl _) (.cells #[.int .i64 (wide - 1), .int .i64 (high - 1), .int .i64 (fb - 4), .int .i64 1] 3))
      have hnl : ¬ WS w1.heap.size (.slice none 0 0) wa.heap.size := by
        obtain ⟨_, hk, _⟩ := hw.1
        have hkl := hk.lt
        rintro (q | q)
        · omega
        · simp [Value.ownBlock] at q
      have HW := Lib.hid hw1
      have HL := Lib.hid hl1
      have HNL := Lib.hid hnl
      clear hw hff hl1 hw1 hnl
      go_wp2_with fail
      generalize wa.alloc (.cells #[.int .i64 (wide - 1), .int .i64 (high - 1), .int .i64 (fb - 4), .int .i64 1] 3) = wl at HW HL ⊢
      clear hcc
      obtain ⟨L, hL⟩ : ∃ L, L = wa.heap.size := ⟨_, rfl⟩
      rw [← hL] at HL HNL ⊢
      clear hL hsa
      refine wp_loop_rounds 5 ?_
      have l0 := HL.out.cell 0
      simp at l0
      rw [rounds_succ]
      go_wp2_with fail
      clear l0
      refine (stl_ue HW.out (by omega) HL.out HNL.out (wide - 1) (by omega) (by omega)).mono ?_
      rintro e wb0 ⟨rfl, v0, hw, hl, hnl⟩
      have HW := Lib.hid hw
      have HL := Lib.hid hl
      have HNL := Lib.hid hnl
      clear hw hl hnl
      go_wp2_with fail
      have l1 := HL.out.cell 1
      simp at l1
      rw [rounds_succ]
      go_wp2_with fail
      clear l1
      refine (stl_ue HW.out (by omega) HL.out HNL.out (high - 1) (by omega) (by omega)).mono ?_
      rintro e wb1 ⟨rfl, v1, hw, hl, hnl⟩
      have HW := Lib.hid hw
      have HL := Lib.hid hl
      have HNL := Lib.hid hnl
      clear hw hl hnl
      go_wp2_with fail
      have l2 := HL.out.cell 2
      simp at l2
      rw [rounds_succ]
      go_wp2_with fail
      clear l2
      refine (stl_ue HW.out (by omega) HL.out HNL.out (fb - 4) (by omega) (by omega)).mono ?_
      rintro e wb2 ⟨rfl, v2, hw, hl, hnl⟩
      have HW := Lib.hid hw
      have HL := Lib.hid hl
      have HNL := Lib.hid hnl
      clear hw hl hnl
      go_wp2_with fail
      have l3 := HL.out.cell 3
      simp at l3
      rw [rounds_succ]
      go_wp2_with fail
      clear l3
      refine (stl_ue HW.out (by omega) HL.out HNL.out 1 (by omega) (by omega)).mono ?_
      rintro e wb3 ⟨rfl, v3, hw, hl, hnl⟩
      have HW := Lib.hid hw
      have HL := Lib.hid hl
      have HNL := Lib.hid hnl
      clear hw hl hnl
      go_wp2_with fail
      have HW := Lib.hid HW.out
      obtain ⟨hcc, hff⟩ := bcell HW.out.2.2.1
      clear hff
      rw [rounds_succ]
      go_wp2_with fail
      obtain ⟨B, hB⟩ : ∃ B, B = [] ++ ueL (wide - 1).toNat ++ ueL (high - 1).toNat ++ ueL (fb - 4).toNat ++ ueL (1 : Int).toNat := ⟨_, rfl⟩
      rw [← hB] at HW
      have HBB := Lib.hid hB
      clear hB HL HNL
      clear hcc
      refine (st_se HW.out (by omega) nr (by omega) (by omega)).mono ?_
      rintro e wd ⟨rfl, vd, hw⟩
      have HW := Lib.hid hw
      obtain ⟨hcc, hff⟩ := bcell hw.2.2.1
      clear hw hff
      go_wp2_with fail
      clear hcc
      refine (st_ue HW.out (by omega) (n : Int) (by omega) (by omega)).mono ?_
      rintro e we ⟨rfl, ve, hw⟩
      have HW := Lib.hid hw
      obtain ⟨hcc, hff⟩ := bcell hw.2.2.1
      clear hw hff
      have hsp : B ++ seL nr ++ ueL (n : Int).toNat ++ cyL cy ++ ueL refs.toNat ++ ueL delay.toNat = spL ⟨wide, high, fb, 1, pb, nr, cy, refs, delay⟩ := by
        rw [HBB.out, HN.out]
        simp [spL, mid, List.append_assoc]
      have HSP := Lib.hid hsp
      clear hsp
      go_wp2_with fail
      clear hcc
      go_loopw [57] (fun i wr => ∃ (k : Nat) (v : Value), k ≤ n ∧ i = .int .i64 k ∧ WStep w1 wr w1.heap.size v (B ++ seL nr ++ ueL (n : Int).toNat ++ cyL (cy.take k)) (384 + 64 * k)) (fun i _ => n - (intOf i).toNat)
      case atStart => exact ⟨0, ve, Nat.zero_le _, rfl, by rw [show cyL (cy.take 0) = [] by simp [cyL], List.append_nil]; exact ⟨HW.out.1, HW.out.2.1, HW.out.2.2.1, by have := HW.out.2.2.2; omega⟩⟩
      case round =>
        clear HW
        obtain ⟨k, vk, hk, rfl, hw⟩ := hrel
        have HW := Lib.hid hw
        have hk0 : (0 : Int) ≤ (k : Int) := Int.natCast_nonneg _
        by_cases hlt : k < n
        · have hk1 : (k : Int) < (n : Int) := by omega
          have hlt' : k < cy.length := by rw [← HN.out]; exact hlt
          obtain ⟨ad, rfl, hab, hcell⟩ := Rd.at_ HS1.out hlt'
          simp only at hcell
          have hc1 := (hw.2.2.1.cell (p := ad.add k) (by rw [block_add]; exact hab)).trans hcell
          have hx := HCY.out (cy.getD k 0) (by rw [List.getD_eq_getElem?_getD, List.getElem?_eq_getElem hlt']; exact List.getElem_mem hlt')
          have hct := Lib.hid (cyL_take cy k hlt')
          generalize cy.getD k 0 = x at hx hc1 hct
          clear hw hcell
          go_wp2_with fail
          refine (st_se HW.out (by omega) x (by omega) (by omega)).mono ?_
          rintro e wf ⟨rfl, vf, hw⟩
          rw [List.append_assoc, ← hct.out] at hw
          have HW := Lib.hid hw
          clear hw
          go_wp2_with fail
          go_roundw
          case rel => exact ⟨k + 1, vf, by omega, by go_num, ⟨HW.out.1, HW.out.2.1, HW.out.2.2.1, by have := HW.out.2.2.2; omega⟩⟩
          case measure => simp [intOf]; omega
        · obtain rfl : k = n := by omega
          rw [show cy.take k = cy by rw [HN.out]; exact List.take_length] at hw
          have HW := Lib.hid hw
          obtain ⟨hcc, hff⟩ := bcell hw.2.2.1
          clear hw hff
          go_wp2_with fail
          clear hcc
          refine (st_ue HW.out (by omega) refs (by omega) (by omega)).mono ?_
          rintro e wg ⟨rfl, vg, hw⟩
          have HW := Lib.hid hw
          obtain ⟨hcc, hff⟩ := bcell hw.2.2.1
          clear hw hff
          go_wp2_with fail
          clear hcc
          refine (st_ue HW.out (by omega) delay (by omega) (by omega)).mono ?_
          rintro e wh ⟨rfl, vh, hw⟩
          rw [HSP.out] at hw
          have HW := Lib.hid hw
          clear hw
          go_wp2_with fail
          refine (st_trail HW.out (by omega)).mono ?_
          rintro e wi ⟨rfl, vi, hw⟩
          have HW := Lib.hid hw
          clear hw
          go_wp2_with fail
          refine (st_bytes HW.out HSE2.out.1).mono ?_
          rintro e w' ⟨rfl, rfl⟩
          have HEND := Lib.hid (HBW.out.trans (HW.out.2.2.1.mono HBW.out.size))
          go_wp2_with fail
          go_ret2
          exact ⟨by rw [← HSE2.out.2]; rfl, HEND.out⟩
    · go_wp2_with fail
      refine (st_new w1).mono ?_
      rintro e wa ⟨rfl, hw⟩
      obtain ⟨hcc, hff⟩ := bcell hw.2.2.1
      have hsa := hw.2.2.1.size
      have hl1 := Bk.new wa 3 #[.int .i64 (wide - 1), .int .i64 (high - 1), .int .i64 (fb - 4), .int .i64 2]
      have hw1 := hw.go ((Below.refl wa.heap.size wa).alloc (Nat.le_refl _) (.cells #[.int .i64 (wide - 1), .int .i64 (high - 1), .int .i64 (fb - 4), .int .i64 2] 3))
      have hnl : ¬ WS w1.heap.size (.slice none 0 0) wa.heap.size := by
        obtain ⟨_, hk, _⟩ := hw.1
        have hkl := hk.lt
        rintro (q | q)
        · omega
        · simp [Value.ownBlock] at q
      have HW := Lib.hid hw1
      have HL := Lib.hid hl1
      have HNL := Lib.hid hnl
      clear hw hff hl1 hw1 hnl
      go_wp2_with fail
      generalize wa.alloc (.cells #[.int .i64 (wide - 1), .int .i64 (high - 1), .int .i64 (fb - 4), .int .i64 2] 3) = wl at HW HL ⊢
      clear hcc
      obtain ⟨L, hL⟩ : ∃ L, L = wa.heap.size := ⟨_, rfl⟩
      rw [← hL] at HL HNL ⊢
      clear hL hsa
      refine wp_loop_rounds 5 ?_
      have l0 := HL.out.cell 0
      simp at l0
      rw [rounds_succ]
      go_wp2_with fail
      clear l0
      refine (stl_ue HW.out (by omega) HL.out HNL.out (wide - 1) (by omega) (by omega)).mono ?_
      rintro e wb0 ⟨rfl, v0, hw, hl, hnl⟩
      have HW := Lib.hid hw
      have HL := Lib.hid hl
      have HNL := Lib.hid hnl
      clear hw hl hnl
      go_wp2_with fail
      have l1 := HL.out.cell 1
      simp at l1
      rw [rounds_succ]
      go_wp2_with fail
      clear l1
      refine (stl_ue HW.out (by omega) HL.out HNL.out (high - 1) (by omega) (by omega)).mono ?_
      rintro e wb1 ⟨rfl, v1, hw, hl, hnl⟩
      have HW := Lib.hid hw
      have HL := Lib.hid hl
      have HNL := Lib.hid hnl
      clear hw hl hnl
      go_wp2_with fail
      have l2 := HL.out.cell 2
      simp at l2
      rw [rounds_succ]
      go_wp2_with fail
      clear l2
      refine (stl_ue HW.out (by omega) HL.out HNL.out (fb - 4) (by omega) (by omega)).mono ?_
      rintro e wb2 ⟨rfl, v2, hw, hl, hnl⟩
      have HW := Lib.hid hw
      have HL := Lib.hid hl
      have HNL := Lib.hid hnl
      clear hw hl hnl
      go_wp2_with fail
      have l3 := HL.out.cell 3
      simp at l3
      rw [rounds_succ]
      go_wp2_with fail
      clear l3
      refine (stl_ue HW.out (by omega) HL.out HNL.out 2 (by omega) (by omega)).mono ?_
      rintro e wb3 ⟨rfl, v3, hw, hl, hnl⟩
      have HW := Lib.hid hw
      have HL := Lib.hid hl
      have HNL := Lib.hid hnl
      clear hw hl hnl
      go_wp2_with fail
      have HW := Lib.hid HW.out
      obtain ⟨hcc, hff⟩ := bcell HW.out.2.2.1
      clear hff
      rw [rounds_succ]
      go_wp2_with fail
      obtain ⟨B, hB⟩ : ∃ B, B = [] ++ ueL (wide - 1).toNat ++ ueL (high - 1).toNat ++ ueL (fb - 4).toNat ++ ueL (2 : Int).toNat := ⟨_, rfl⟩
      rw [← hB] at HW
      have HBB := Lib.hid hB
      clear hB HL HNL
      have hsp : B ++ ueL refs.toNat ++ ueL delay.toNat = spL ⟨wide, high, fb, 2, pb, nr, cy, refs, delay⟩ := by
        rw [HBB.out]
        simp [spL, mid, List.append_assoc]
      have HSP := Lib.hid hsp
      clear hsp
      go_wp2_with fail
      clear hcc
      refine (st_ue HW.out (by omega) refs (by omega) (by omega)).mono ?_
      rintro e wg ⟨rfl, vg, hw⟩
      have HW := Lib.hid hw
      obtain ⟨hcc, hff⟩ := bcell hw.2.2.1
      clear hw hff
      go_wp2_with fail
      clear hcc
      refine (st_ue HW.out (by omega) delay (by omega) (by omega)).mono ?_
      rintro e wh ⟨rfl, vh, hw⟩
      rw [HSP.out] at hw
      have HW := Lib.hid hw
      clear hw
      go_wp2_with fail
      refine (st_trail HW.out (by omega)).mono ?_
      rintro e wi ⟨rfl, vi, hw⟩
      have HW := Lib.hid hw
      clear hw
      go_wp2_with fail
      refine (st_bytes HW.out HSE2.out.1).mono ?_
      rintro e w' ⟨rfl, rfl⟩
      have HEND := Lib.hid (HBW.out.trans (HW.out.2.2.1.mono HBW.out.size))
      go_wp2_with fail
      go_ret2
      exact ⟨by rw [← HSE2.out.2]; rfl, HEND.out⟩
end Go.Proofs.Ytegfglpaabddlaa
