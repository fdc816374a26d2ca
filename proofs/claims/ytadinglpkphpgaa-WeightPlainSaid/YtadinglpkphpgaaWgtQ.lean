/- The statement WeightPlain: the walk. -/
import Derived.Test.YtadinglpkphpgaaWgtP
import Derived.Test.YtadinglpkphpgaaSep
namespace Go.Proofs.Ytadinglpkphpgaa
open Go.RowKit
set_option linter.unusedVariables false
set_option linter.unusedSimpArgs false
attribute [local go_sem] ite_max ite_min and_7 and_255

theorem two_plain (x y : Int) (hx : 0 ≤ x ∧ x ≤ 255) (hy : 0 ≤ y ∧ y ≤ 255) : meanF x y = twoL 32 32 0 5 x y := by
  have : ((2 ^ (5 : Int).toNat : Nat) : Int) = 32 ∧ ((2 ^ ((5 : Int).toNat + 1) : Nat) : Int) = 64 := by decide
  unfold meanF twoL twoF clip
  rw [this.1, this.2]
  omega
theorem m255 (z : Nat → Int) (n : Nat) : allS n (fun k => z k % 256) = true := decide_eq_true fun k _ => by show 0 ≤ z k % 256 ∧ z k % 256 ≤ 255; omega

set_option maxHeartbeats 3200000 in
theorem walk_WeightPlain (a0 : Option Addr) (n0 c0 : Nat) (z : Nat → Int) (a1 : Option Addr) (n1 c1 : Nat) (y : Nat → Int) (a2 : Int) (w : World) (h0 : IntsArg w a0 n0 c0 z) (h1 : IntsArg w a1 n1 c1 y) (_ : (Lit.int .i64 a2).wf = true) :
    Calls Try.prog 5 #[.slice a0 n0 c0, .slice a1 n1 c1, .int .i64 a2] w fun e w' => e = .returned (.bool true) ∧ Below w.heap.size w w' := by
  obtain ⟨i0, hi, hz0, hz1, hz2⟩ := info_parts int_info
  obtain ⟨hr, hnil, hnc, hcm, hwf⟩ := h0
  obtain ⟨gr, gnil, gnc, gcm, gwf⟩ := h1
  have b2 : 0 ≤ a2 % 8 ∧ a2 % 8 < 8 := by omega
  obtain ⟨m, hm0, hm1, hm2⟩ : ∃ m : Nat, m ≤ n0 ∧ m ≤ n1 ∧ (m = n0 ∨ m = n1) := ⟨min n0 n1, by omega, by omega, by omega⟩
  go_enter Try.func5, Try.ntmps5
  go_wp2_with fail
  refine (awake_any _).mono ?_
  rintro e w1 ⟨rfl, hb1⟩
  have B1 := Lib.hid hb1
  have hsz1 := hb1.size
  clear hb1
  go_wp2_with fail
  go_loopw [8, 9, 10] (fun v u i wr => ∃ k : Nat, k ≤ m ∧ i = .int .i64 k ∧ wr.ownsRow w1.heap.size 3 1 v k ((List.range k).map fun j => .int .i64 (z j % 256)) ∧ wr.ownsRow w1.heap.size 3 1 u k ((List.range k).map fun j => .int .i64 (y j % 256)) ∧ Sep v u ∧ Below w1.heap.size w1 wr) (fun _ _ i _ => m - (intOf i).toNat)
  case atStart => exact ⟨0, Nat.zero_le _, rfl, World.ownsRow_nil _ _ _ _, World.ownsRow_nil _ _ _ _, Sep.nil _, Below.refl _ _⟩
  case round =>
    obtain ⟨k, hk, rfl, hown, gown, hsep, hbl⟩ := hrel
    have hsz := hbl.size
    by_cases hlt : k < m
    · obtain ⟨ad, rfl, hb, hc⟩ := Rd.at_ hr (show k < n0 by omega)
      obtain ⟨ae, rfl, gb, gc⟩ := Rd.at_ gr (show k < n1 by omega)
      have hc1 : wr.cell? (ad.add k) = some (.int .i64 (z k)) := (hbl.cell (by rw [block_add]; omega)).trans ((B1.out.cell (by rw [block_add]; omega)).trans hc)
      have gc1 : wr.cell? (ae.add k) = some (.int .i64 (y k)) := (hbl.cell (by rw [block_add]; omega)).trans ((B1.out.cell (by rw [block_add]; omega)).trans gc)
      have q1 : (k : Int) < (n0 : Int) := by omega
      have q2 : (k : Int) < (n1 : Int) := by omega
      have HB := Lib.hid hbl
      have HX := Lib.hid hr
      have GX := Lib.hid gr
      have HO := Lib.hid hown
      have GO := Lib.hid gown
      have HS := Lib.hid hsep
      have gb' : ae.block < wr.heap.size := by omega
      have gb2 : ae.block < w1.heap.size := by omega
      clear hbl hr gr hc hb hown gown gc gb hsep
      go_wp2_with (at_builtin; refine wpList_append_own_at _ rfl (.tmp 33) (.tmp 39) 22 rfl w1.heap.size 3 i0 (.int .i64 0) 1 8 Try.underlying22 hi hz0 hz1 hz2 rfl (by decide) _ k _ rfl (HO.out.alloc _) ⟨wr.heap.size, 0, none⟩ 1 1 [.int .i64 (z k % 256)] rfl rfl (cell_one_new _ _ _) (fun u hu => by simp at hu; subst hu; rfl) (by unfold maxLen; omega) (by omega) (by simp; omega) ?_)
      intro v' w2 hown1 hg1 _ hat1
      have gown1 := Sep.kept (GO.out.alloc _) hg1 HS.out
      have sep1 := Sep.step GO.out HS.out hat1 (by omega)
      have hs2 : wr.heap.size ≤ w2.heap.size := by have := hg1.size; simp at this; omega
      have hc2 : w2.cell? (ae.add k) = some (.int .i64 (y k)) := by
        rw [World.cell?_of_block (hg1.block (ae.add k).block (by rw [block_add]; simp; omega) (fun q => by have := (HO.out.lt _ q.symm).1; rw [block_add] at this; omega))]
        rw [World.cell?_alloc_lt _ _ _ (by rw [block_add]; omega)]
        exact gc1
      have hb1 : Below w1.heap.size w1 w2 := (HB.out.alloc hsz _).grown hg1 (by simp; omega) (fun j hj => (HO.out.lt j hj).1)
      rw [← range_snoc (fun j => Value.int .i64 (z j % 256)) k] at hown1
      have H1 := Lib.hid hown1
      have H2 := Lib.hid hb1
      have H3 := Lib.hid gown1
      have H4 := Lib.hid sep1
      clear hown1 hb1 hg1 hc1 gc1 gown1 sep1 hat1
      go_wp2_with (at_builtin; refine wpList_append_own_at _ rfl (.tmp 41) (.tmp 47) 22 rfl w1.heap.size 3 i0 (.int .i64 0) 1 8 Try.underlying22 hi hz0 hz1 hz2 rfl (by decide) _ k _ rfl (H3.out.alloc _) ⟨w2.heap.size, 0, none⟩ 1 1 [.int .i64 (y k % 256)] rfl rfl (cell_one_new _ _ _) (fun u hu => by simp at hu; subst hu; rfl) (by unfold maxLen; omega) (by omega) (by simp; omega) ?_)
      intro u' w3 gown2 hg2 _ hat2
      have hown2 := Sep.kept (H1.out.alloc _) hg2 H4.out.symm
      have sep2 := (Sep.step H1.out H4.out.symm hat2 (by omega)).symm
      have hb2 : Below w1.heap.size w1 w3 := (H2.out.alloc (by omega) _).grown hg2 (by simp; omega) (fun j hj => (H3.out.lt j hj).1)
      rw [← range_snoc (fun j => Value.int .i64 (y j % 256)) k] at gown2
      have I1 := Lib.hid hown2
      have I2 := Lib.hid hb2
      have I3 := Lib.hid gown2
      have I4 := Lib.hid sep2
      clear hown2 hb2 hg2 gown2 sep2 hat2 hc2
      go_wp2_with fail
      go_roundw
      case rel => exact ⟨k + 1, by omega, by go_num, I1.out, I3.out, I4.out, I2.out⟩
      case measure => simp [intOf]; omega
    · obtain rfl : k = m := by omega
      obtain ⟨A, cp, rfl, hcp, hcm2, hrd⟩ := Ri.of_own hown
      obtain ⟨C, cq, rfl, gcp, gcm2, grd⟩ := Ri.of_own gown
      have B2 := Lib.hid (B1.out.trans (hbl.mono hsz1))
      have q1 : ¬ ((k : Int) < (n0 : Int)) ∨ ((k : Int) < (n0 : Int) ∧ ¬ ((k : Int) < (n1 : Int))) := by omega
      have BB : Hid (Below w.heap.size w wr) := B2
      have RA := Lib.hid hrd
      have RB := Lib.hid grd
      clear hbl hown gown hr gr hrd grd hsep
      rcases q1 with q1 | ⟨q1, q2⟩
      all_goals
        go_wp2_with fail
        refine (one_plain A k cp (fun k => z k % 256) _ _ _ wr RA.out (by omega) (fun k => by omega) (by omega) (by omega) rfl).mono ?_
        rintro e w3 hg
        obtain ⟨A3, cp3, rfl, hs, hb3⟩ := gives_sl hg
        clear hg
        have RA := Lib.hid (Rd.go RA.out hb3)
        have RB := Lib.hid (Rd.go RB.out hb3)
        have BB := Lib.hid (BB.out.trans (hb3.mono BB.out.size))
        have R3 := Lib.hid hs
        clear hs hb3
        have hM := mean_any A C k k cp cq (fun k => z k % 256) (fun k => y k % 256) w3 RA.out RB.out (by omega) (by omega)
        rw [show meanOk k k (fun k => z k % 256) (fun k => y k % 256) = true by unfold meanOk; rw [m255, m255]; simp] at hM
        have HM := Lib.hid hM
        clear hM
        go_wp2_with fail
        refine HM.out.mono ?_
        rintro e w4 hg
        obtain ⟨A4, cp4, rfl, hs, hb3⟩ := gives_sl hg
        clear hg
        have RA := Lib.hid (Rd.go RA.out hb3)
        have RB := Lib.hid (Rd.go RB.out hb3)
        have R3 := Lib.hid (Rd.go R3.out hb3)
        have BB := Lib.hid (BB.out.trans (hb3.mono BB.out.size))
        have R4 := Lib.hid hs
        clear hs hb3
        have hM := two_any A C k k cp cq (fun k => z k % 256) (fun k => y k % 256) 32 32 0 5 w4 RA.out RB.out (by omega) (by omega)
        rw [show twoOk 32 32 0 5 k k (fun k => z k % 256) (fun k => y k % 256) = true by unfold twoOk; rw [m255, m255]; simp] at hM
        have HM := Lib.hid hM
        clear hM
        go_wp2_with fail
        refine HM.out.mono ?_
        rintro e w5 hg
        obtain ⟨A5, cp5, rfl, hs, hb3⟩ := gives_sl hg
        clear hg
        have RA := Lib.hid (Rd.go RA.out hb3)
        have RB := Lib.hid (Rd.go RB.out hb3)
        have R3 := Lib.hid (Rd.go R3.out hb3)
        have R4 := Lib.hid (Rd.go R4.out hb3)
        have BB := Lib.hid (BB.out.trans (hb3.mono BB.out.size))
        have R5 := Lib.hid hs
        clear hs hb3
        go_wp2_with (go_at_call 16; refine (num_any _ _).mono ?_; rintro e w' ⟨rfl, rfl⟩)
        refine (same_ok _ _ _ _ _ _ _ _ R3.out RA.out (by omega) (fun j _ => by unfold clip; omega)).mono ?_
        rintro e w6 ⟨rfl, hb3⟩
        have R4 := Lib.hid (Rd.go R4.out hb3)
        have R5 := Lib.hid (Rd.go R5.out hb3)
        have BB := Lib.hid (BB.out.trans (hb3.mono BB.out.size))
        clear hb3
        go_wp2_with fail
        refine (same_ok _ _ _ _ _ _ _ _ R4.out R5.out (by unfold many; simp; omega) (fun j _ => two_plain _ _ (by omega) (by omega))).mono ?_
        rintro e w7 ⟨rfl, hb3⟩
        have BB := Lib.hid (BB.out.trans (hb3.mono BB.out.size))
        clear hb3
        go_wp2_with fail
        go_ret
        exact ⟨rfl, BB.out⟩

end Go.Proofs.Ytadinglpkphpgaa
