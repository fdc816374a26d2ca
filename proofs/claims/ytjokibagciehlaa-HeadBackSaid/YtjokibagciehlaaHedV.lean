/- A walk over what a slice has of its lists. Printed by gen-hedv.py. -/
import Derived.Test.YtjokibagciehlaaHedZ
import Derived.Deep.DeepCutAuto
import Derived.Test.YtjokibagciehlaaQuiet
import Derived.StillTailTactics
namespace Go.Proofs.Ytjokibagciehlaa
open Go.RowKit
set_option linter.unusedVariables false
set_option linter.unusedSimpArgs false

theorem below_drewN {B : Nat} {a b : World} (h : Below B a b) (n : Nat) : Below B a (b.drewN n) := ⟨h.os, h.tape, h.output, h.size, h.block⟩
/-- a header's type, its counts -/
structure Ty (t : Hw) (c : Int) : Prop where
  ty : t.h.type = c
  a0 : 0 ≤ t.h.a0 ∧ t.h.a0 ≤ 2147483647
  a1 : 0 ≤ t.h.a1 ∧ t.h.a1 ≤ 2147483647
theorem HwAt.le {W : Bool} {w0 w : World} {base g gk gh : Nat} {s : ByteArray} {v : Value} {X : List (Nat × TypeId × Array Value)} {t : Hw} {q : Ha} {n M : Nat} (H : HwAt W w0 w base g gk gh s v X t q n M) : ∀ a b c, t.k = .rd a b c → a ≤ 8 * s.size := by
  obtain ⟨v1, q1, q2, q3⟩ := H.fld
  exact q1.at_.le
theorem lsV_bd (f : Nat → Bool) (N : Nat) (x : Int) (k : Wk) (hk : ∀ a b c, k = .rd a b c → a ≤ N) (h : 0 ≤ x ∧ x ≤ 2147483647) : 0 ≤ lsV f N x k ∧ lsV f N x k ≤ 2147483647 := by
  unfold lsV
  have := ueV_bd f N (x - 1) k hk
  omega
section
variable {f : Nat → Bool} {N : Nat} {t : Hw} {c : Int}
theorem Ty.liA (h : Ty t c) : Ty (liA f N t) c := by
  unfold Go.Proofs.Ytjokibagciehlaa.liA
  split
  · exact ⟨h.ty, h.a0, h.a1⟩
  · exact h
theorem Ty.liB (h : Ty t c) (hk : ∀ a b c, t.k = .rd a b c → a ≤ N) : Ty (liB f N t) c := by
  unfold Go.Proofs.Ytjokibagciehlaa.liB
  split
  · exact ⟨h.ty, lsV_bd f N _ _ hk h.a0, h.a1⟩
  · exact h
theorem Ty.liC (h : Ty t c) (hk : ∀ a b c, t.k = .rd a b c → a ≤ N) : Ty (liC f N t) c := by
  unfold Go.Proofs.Ytjokibagciehlaa.liC
  split
  · exact ⟨h.ty, h.a0, lsV_bd f N _ _ hk h.a1⟩
  · exact h
theorem Ty.liD (h : Ty t c) : Ty (liD t) c := ⟨h.ty, h.a0, h.a1⟩
theorem Ty.liE (h : Ty t c) : Ty (liE f N t) c := by
  unfold Go.Proofs.Ytjokibagciehlaa.liE
  split
  · exact ⟨h.ty, h.a0, h.a1⟩
  · exact h
theorem Ty.liF (h : Ty t c) : Ty (liF f N t) c := by
  unfold Go.Proofs.Ytjokibagciehlaa.liF
  split
  · exact ⟨h.ty, h.a0, h.a1⟩
  · exact h
theorem Ty.liG (h : Ty t c) : Ty (liG f N t) c := ⟨h.ty, h.a0, h.a1⟩
theorem Ty.liH (h : Ty t c) : Ty (liH f N t) c := ⟨h.ty, h.a0, h.a1⟩
theorem Ty.liI (h : Ty t c) : Ty (liI f N t) c := ⟨h.ty, h.a0, h.a1⟩
end
section
variable {W : Bool} {w0 w : World} {base g gk gh : Nat} {s : ByteArray} {v : Value} {X : List (Nat × TypeId × Array Value)} {t : Hw} {q : Ha} {M : Nat}
set_option maxRecDepth 100000 in
set_option maxHeartbeats 12800000 in
theorem lists_I (p : Pp) (H : HwAt W w0 w base g gk gh s v X t q 0 M) (hs : s.size ≤ 140737488351232) (hM : M ≤ 600000) (T : Ty t 2) :
    Calls Try.prog 44 #[.pointer (some ⟨gk, 0, none⟩), .pointer (some ⟨gh, 0, none⟩), .agg (ppV p)] w fun e w' => e = .returned (.tuple #[]) ∧ ∃ q', HwAt W w0 w' base g gk gh s v X (liS (sbit s) (8 * s.size) p t) q' 4 (M + 30000) := by
  have HF : Hid (HwAt W w0 (w.alloc (.cells (ppV p) 27)) base g gk gh s v ((w.heap.size, 27, ppV p) :: X) t q 0 M) := Lib.hid (H.push 27 (ppV p))
  have HS := Lib.hid hs
  have HT := Lib.hid T
  have c2 := HF.out.hb.cell 2
  simp only [hdV, List.getElem?_toArray, List.getElem?_cons_succ, List.getElem?_cons_zero] at c2
  rw [T.ty] at c2
  obtain ⟨wg, hwg⟩ : ∃ b, wgt 2 p = b := ⟨_, rfl⟩
  have D4 : Hid (∀ w, Calls Try.prog 37 #[.int .i64 2, .agg (ppV p)] w fun e w' => e = .returned (.bool wg) ∧ Below w.heap.size w w') := Lib.hid (fun w => hwg ▸ wgt_any 2 p w)
  simp only [ppV] at D4 c2 ⊢
  have HWG := Lib.hid hwg
  have hpl : w.heap.size < w.heap.size + 1 := by omega
  clear H hs T hwg
  go_enter Try.func44, Try.ntmps44
  go_wp2_with fail
  go_quiet (fail)
  clear c2
  obtain ⟨wz, hwz⟩ : ∃ wz, wz = (w.alloc (.cells (ppV p) 27)).drewN nq := ⟨_, rfl⟩
  replace HF : Hid (HwAt W w0 wz base g gk gh s v ((w.heap.size, 27, ppV p) :: X) t q 0 M) := Lib.hid (by rw [hwz]; exact HF.out.go (below_drewN (Below.refl _ _) nq))
  rw [show (w.alloc (.cells #[.bool p.cabac, .bool p.weighted, .int .i64 p.bipred, .int .i64 p.qp, .int .i64 p.cqp, .bool p.con, .bool p.deb, .int .i64 p.a0, .int .i64 p.a1] 27)).drewN nq = wz from hwz.symm]
  clear hwz
  obtain ⟨tA, htA⟩ : ∃ x, liA (sbit s) (8 * s.size) t = x := ⟨_, rfl⟩
  replace HF := Lib.hid (HF.out.eqv ((if_neg (by rw [HT.out.ty]; omega)).symm.trans htA))
  replace HT := Lib.hid (show Ty tA 2 from htA ▸ HT.out.liA)
  have HF0 := HF
  obtain ⟨tB, htB⟩ : ∃ x, liB (sbit s) (8 * s.size) tA = x := ⟨_, rfl⟩
  replace HF := Lib.hid (HF.out.eqv ((if_neg (fun e => e HT.out.ty)).symm.trans htB))
  replace HT := Lib.hid (show Ty tB 2 from htB ▸ HT.out.liB HF0.out.le)
  clear HF0
  have HF0 := HF
  obtain ⟨tC, htC⟩ : ∃ x, liC (sbit s) (8 * s.size) tB = x := ⟨_, rfl⟩
  replace HF := Lib.hid (HF.out.eqv ((if_neg (by rw [HT.out.ty]; omega)).symm.trans htC))
  replace HT := Lib.hid (show Ty tC 2 from htC ▸ HT.out.liC HF0.out.le)
  clear HF0
  obtain ⟨tD, htD⟩ : ∃ x, liD tC = x := ⟨_, rfl⟩
  go_upto_region 8 with fail
  go_cut [] (fun wx => HwAt W w0 wx base g gk gh s v ((w.heap.size, 27, ppV p) :: X) tD q 0 M)
  case first =>
    have c7 := HF.out.hb.cell 7
    have c8 := HF.out.hb.cell 8
    simp [hdV] at c7 c8
    obtain ⟨x0, hx0⟩ : ∃ x, tC.h.a0 = x := ⟨_, rfl⟩
    obtain ⟨x1, hx1⟩ : ∃ x, tC.h.a1 = x := ⟨_, rfl⟩
    have hD : tD = ⟨ckM (decide (x0 ≤ 8) && decide (x1 ≤ 8)) tC.k, tC.h⟩ := by rw [← htD, ← hx0, ← hx1]; rfl
    rw [hx0] at c7
    rw [hx1] at c8
    have HD := Lib.hid hD
    clear hx0 hx1 hD htD
    by_cases z0 : x0 ≤ 8
    · by_cases z1 : x1 ≤ 8
      · rw [decide_eq_true z0, decide_eq_true z1] at HD
        go_wp2_with fail
        refine (HF.out.check _).mono ?_
        rintro e wd ⟨rfl, hq⟩
        replace HF := Lib.hid (hq.eqv HD.out.symm)
        clear hq c7 c8
        go_wp2_with fail
        go_meet
        exact HF.out
      · rw [decide_eq_true z0, decide_eq_false z1] at HD
        have z1' : 8 < x1 := by omega
        go_wp2_with fail
        refine (HF.out.check _).mono ?_
        rintro e wd ⟨rfl, hq⟩
        replace HF := Lib.hid (hq.eqv HD.out.symm)
        clear hq c7 c8
        go_wp2_with fail
        go_meet
        exact HF.out
    · rw [decide_eq_false z0] at HD
      have z0' : 8 < x0 := by omega
      go_wp2_with fail
      refine (HF.out.check _).mono ?_
      rintro e wd ⟨rfl, hq⟩
      replace HF := Lib.hid (hq.eqv HD.out.symm)
      clear hq c7 c8
      go_wp2_with fail
      go_meet
      exact HF.out
  case rest =>
    replace HF := Lib.hid hcut
    clear hcut
    replace HT := Lib.hid (show Ty tD 2 from htD ▸ HT.out.liD)
    obtain ⟨tE, htE⟩ : ∃ x, liE (sbit s) (8 * s.size) tD = x := ⟨_, rfl⟩
    replace HF := Lib.hid (HF.out.eqv ((if_neg (fun e => e HT.out.ty)).symm.trans htE))
    replace HF := Lib.hid (HF.out.more (show 0 ≤ 1 by omega) (Nat.le_refl _))
    replace HT := Lib.hid (show Ty tE 2 from htE ▸ HT.out.liE)
    obtain ⟨tF, htF⟩ : ∃ x, liF (sbit s) (8 * s.size) tE = x := ⟨_, rfl⟩
    replace HF := Lib.hid (HF.out.eqv ((if_neg (by rw [HT.out.ty]; omega)).symm.trans htF))
    replace HF := Lib.hid (HF.out.more (show 1 ≤ 2 by omega) (Nat.le_refl _))
    replace HT := Lib.hid (show Ty tF 2 from htF ▸ HT.out.liF)
    obtain ⟨tW, htW⟩ : ∃ x, liW (sbit s) (8 * s.size) p tF = x := ⟨_, rfl⟩
    obtain ⟨st, hst⟩ : ∃ b, tF.k.stop = b := ⟨_, rfl⟩
    have hcW : (wgt tF.h.type p && !tF.k.stop) = (wg && !st) := by rw [HT.out.ty, HWG.out, hst]
    have hfin : liS (sbit s) (8 * s.size) p t = tW := by unfold liS; rw [htA, htB, htC, htD, htE, htF, htW]
    have HFIN := Lib.hid hfin
    have HCW := Lib.hid hcW
    have HTW := Lib.hid htW
    have HST : Hid (∀ w', Below wc.heap.size wc w' → Calls Try.prog 63 #[.pointer (some ⟨gk, 0, none⟩)] w' fun e w'' => e = .returned (.bool st) ∧ w' = w'') := Lib.hid (fun w' hb => hst ▸ (HF.out.go hb).stop)
    clear hst hcW htA htB htC htD htE htF htW hfin
    go_upto_region 13 with fail
    have c2 := HF.out.hb.cell 2
    simp [hdV] at c2
    rw [HT.out.ty] at c2
    have g0 := (HF.out.box (List.mem_cons_self ..)).cell 0
    have g1 := (HF.out.box (List.mem_cons_self ..)).cell 1
    have g2 := (HF.out.box (List.mem_cons_self ..)).cell 2
    have g3 := (HF.out.box (List.mem_cons_self ..)).cell 3
    have g4 := (HF.out.box (List.mem_cons_self ..)).cell 4
    have g5 := (HF.out.box (List.mem_cons_self ..)).cell 5
    have g6 := (HF.out.box (List.mem_cons_self ..)).cell 6
    have g7 := (HF.out.box (List.mem_cons_self ..)).cell 7
    have g8 := (HF.out.box (List.mem_cons_self ..)).cell 8
    simp [ppV] at g0 g1 g2 g3 g4 g5 g6 g7 g8
    have hpl2 : w.heap.size < wc.heap.size := (HF.out.box (List.mem_cons_self ..)).lt
    have hgl2 : gh < wc.heap.size := HF.out.hb.lt
    obtain rfl : wg = false := by rw [← HWG.out]; rfl
    refine wp_region_class (fun w' => Below wc.heap.size wc w') (by kernel_rfl) (by kernel_rfl) ((Below.refl _ _).drew) ?_
    repeat (first
      | go_big_quiet_skip
      | (go_big_quiet_want; first
          | (go_big_quiet_op; go_big_quiet_on)
          | (refine qv_val (v := ?_) ?_ ?_; rotate_left 1; (intro w' hw'; obtain ⟨hcc, hff⟩ := bcell hw'; clear hff hw'; go_simp; (try with_reducible rfl)); (try simp only [Act.put, List.setIfInBounds_toArray, List.set_cons_zero, List.set_cons_succ]); go_big_quiet_on)
          | (refine qv_call (v := ?_) (f := ?_) (args := ?_) ?_ ?_ ?_; rotate_left 3; (intro w' hw'; clear hw'; go_simp; (refine ⟨?_, ?_⟩ <;> rfl)); (first | (intro w' hw'; refine (D4.out _).mono ?_; rintro e wh ⟨rfl, hbh⟩; refine ⟨?_, Below.trans hw' (hbh.mono hw'.size)⟩; skip; rfl)); (try simp only [Act.put, List.setIfInBounds_toArray, List.set_cons_zero, List.set_cons_succ]); go_big_quiet_on)))
    with_reducible refine wpQuiet_nil ?_
    intro wq hq
    clear c2 g0 g1 g2 g3 g4 g5 g6 g7 g8
    replace HF := Lib.hid (HF.out.go hq)
    clear hq
    go_wp2_with fail
    go_end0
    rw [HFIN.out]
    exact ⟨rfl, q, (HF.out.eqv ((if_neg (by rw [HCW.out]; simp)).symm.trans HTW.out)).pop.more (by omega) (by omega)⟩
set_option maxRecDepth 100000 in
set_option maxHeartbeats 12800000 in
theorem lists_P (ty : Int) (p : Pp) (H : HwAt W w0 w base g gk gh s v X t q 0 M) (hs : s.size ≤ 140737488351232) (hM : M ≤ 600000) (T : Ty t ty) (n1 : ¬ ty = 1) (n2 : ¬ ty = 2) :
    Calls Try.prog 44 #[.pointer (some ⟨gk, 0, none⟩), .pointer (some ⟨gh, 0, none⟩), .agg (ppV p)] w fun e w' => e = .returned (.tuple #[]) ∧ ∃ q', HwAt W w0 w' base g gk gh s v X (liS (sbit s) (8 * s.size) p t) q' 4 (M + 30000) := by
  have HF : Hid (HwAt W w0 (w.alloc (.cells (ppV p) 27)) base g gk gh s v ((w.heap.size, 27, ppV p) :: X) t q 0 M) := Lib.hid (H.push 27 (ppV p))
  have HS := Lib.hid hs
  have HT := Lib.hid T
  have c2 := HF.out.hb.cell 2
  simp only [hdV, List.getElem?_toArray, List.getElem?_cons_succ, List.getElem?_cons_zero] at c2
  rw [T.ty] at c2
  obtain ⟨wg, hwg⟩ : ∃ b, wgt ty p = b := ⟨_, rfl⟩
  have D4 : Hid (∀ w, Calls Try.prog 37 #[.int .i64 ty, .agg (ppV p)] w fun e w' => e = .returned (.bool wg) ∧ Below w.heap.size w w') := Lib.hid (fun w => hwg ▸ wgt_any ty p w)
  simp only [ppV] at D4 c2 ⊢
  have HWG := Lib.hid hwg
  have hpl : w.heap.size < w.heap.size + 1 := by omega
  clear H hs T hwg
  go_enter Try.func44, Try.ntmps44
  go_wp2_with fail
  go_quiet (fail)
  clear c2
  obtain ⟨wz, hwz⟩ : ∃ wz, wz = (w.alloc (.cells (ppV p) 27)).drewN nq := ⟨_, rfl⟩
  replace HF : Hid (HwAt W w0 wz base g gk gh s v ((w.heap.size, 27, ppV p) :: X) t q 0 M) := Lib.hid (by rw [hwz]; exact HF.out.go (below_drewN (Below.refl _ _) nq))
  rw [show (w.alloc (.cells #[.bool p.cabac, .bool p.weighted, .int .i64 p.bipred, .int .i64 p.qp, .int .i64 p.cqp, .bool p.con, .bool p.deb, .int .i64 p.a0, .int .i64 p.a1] 27)).drewN nq = wz from hwz.symm]
  clear hwz
  obtain ⟨tA, htA⟩ : ∃ x, liA (sbit s) (8 * s.size) t = x := ⟨_, rfl⟩
  replace HF := Lib.hid (HF.out.eqv ((if_neg (by rw [HT.out.ty]; exact n1)).symm.trans htA))
  replace HT := Lib.hid (show Ty tA ty from htA ▸ HT.out.liA)
  have HF0 := HF
  obtain ⟨tB, htB⟩ : ∃ x, liB (sbit s) (8 * s.size) tA = x := ⟨_, rfl⟩
  go_wp2_with fail
  refine (HF.out.less HS.out tA.h.a0 7 { tA.h with a0 := lsV (sbit s) (8 * s.size) tA.h.a0 tA.k } (by omega) (by have := HT.out.a0; omega) (by have := HT.out.a0; omega) rfl rfl rfl).mono ?_
  rintro e w1 ⟨rfl, hq⟩
  replace HF := Lib.hid (hq.eqv ((if_pos (by rw [HT.out.ty]; exact n2)).symm.trans htB))
  clear hq
  replace HT := Lib.hid (show Ty tB ty from htB ▸ HT.out.liB HF0.out.le)
  clear HF0
  have HF0 := HF
  obtain ⟨tC, htC⟩ : ∃ x, liC (sbit s) (8 * s.size) tB = x := ⟨_, rfl⟩
  replace HF := Lib.hid (HF.out.eqv ((if_neg (by rw [HT.out.ty]; exact n1)).symm.trans htC))
  replace HT := Lib.hid (show Ty tC ty from htC ▸ HT.out.liC HF0.out.le)
  clear HF0
  obtain ⟨tD, htD⟩ : ∃ x, liD tC = x := ⟨_, rfl⟩
  go_upto_region 8 with fail
  go_cut [] (fun wx => HwAt W w0 wx base g gk gh s v ((w.heap.size, 27, ppV p) :: X) tD q 0 (M + 64))
  case first =>
    have c7 := HF.out.hb.cell 7
    have c8 := HF.out.hb.cell 8
    simp [hdV] at c7 c8
    obtain ⟨x0, hx0⟩ : ∃ x, tC.h.a0 = x := ⟨_, rfl⟩
    obtain ⟨x1, hx1⟩ : ∃ x, tC.h.a1 = x := ⟨_, rfl⟩
    have hD : tD = ⟨ckM (decide (x0 ≤ 8) && decide (x1 ≤ 8)) tC.k, tC.h⟩ := by rw [← htD, ← hx0, ← hx1]; rfl
    rw [hx0] at c7
    rw [hx1] at c8
    have HD := Lib.hid hD
    clear hx0 hx1 hD htD
    by_cases z0 : x0 ≤ 8
    · by_cases z1 : x1 ≤ 8
      · rw [decide_eq_true z0, decide_eq_true z1] at HD
        go_wp2_with fail
        refine (HF.out.check _).mono ?_
        rintro e wd ⟨rfl, hq⟩
        replace HF := Lib.hid (hq.eqv HD.out.symm)
        clear hq c7 c8
        go_wp2_with fail
        go_meet
        exact HF.out
      · rw [decide_eq_true z0, decide_eq_false z1] at HD
        have z1' : 8 < x1 := by omega
        go_wp2_with fail
        refine (HF.out.check _).mono ?_
        rintro e wd ⟨rfl, hq⟩
        replace HF := Lib.hid (hq.eqv HD.out.symm)
        clear hq c7 c8
        go_wp2_with fail
        go_meet
        exact HF.out
    · rw [decide_eq_false z0] at HD
      have z0' : 8 < x0 := by omega
      go_wp2_with fail
      refine (HF.out.check _).mono ?_
      rintro e wd ⟨rfl, hq⟩
      replace HF := Lib.hid (hq.eqv HD.out.symm)
      clear hq c7 c8
      go_wp2_with fail
      go_meet
      exact HF.out
  case rest =>
    replace HF := Lib.hid hcut
    clear hcut
    replace HT := Lib.hid (show Ty tD ty from htD ▸ HT.out.liD)
    obtain ⟨tE, htE⟩ : ∃ x, liE (sbit s) (8 * s.size) tD = x := ⟨_, rfl⟩
    go_wp2_with fail
    refine (HF.out.list_m0 HS.out (by omega)).mono ?_
    rintro e w2 ⟨rfl, qE, hq⟩
    replace HF := Lib.hid (hq.eqv ((if_pos (by rw [HT.out.ty]; exact n2)).symm.trans htE))
    clear hq
    replace HT := Lib.hid (show Ty tE ty from htE ▸ HT.out.liE)
    obtain ⟨tF, htF⟩ : ∃ x, liF (sbit s) (8 * s.size) tE = x := ⟨_, rfl⟩
    replace HF := Lib.hid (HF.out.eqv ((if_neg (by rw [HT.out.ty]; exact n1)).symm.trans htF))
    replace HF := Lib.hid (HF.out.more (show 1 ≤ 2 by omega) (Nat.le_refl _))
    replace HT := Lib.hid (show Ty tF ty from htF ▸ HT.out.liF)
    obtain ⟨tW, htW⟩ : ∃ x, liW (sbit s) (8 * s.size) p tF = x := ⟨_, rfl⟩
    obtain ⟨st, hst⟩ : ∃ b, tF.k.stop = b := ⟨_, rfl⟩
    have hcW : (wgt tF.h.type p && !tF.k.stop) = (wg && !st) := by rw [HT.out.ty, HWG.out, hst]
    have hfin : liS (sbit s) (8 * s.size) p t = tW := by unfold liS; rw [htA, htB, htC, htD, htE, htF, htW]
    have HFIN := Lib.hid hfin
    have HCW := Lib.hid hcW
    have HTW := Lib.hid htW
    have HST : Hid (∀ w', Below w2.heap.size w2 w' → Calls Try.prog 63 #[.pointer (some ⟨gk, 0, none⟩)] w' fun e w'' => e = .returned (.bool st) ∧ w' = w'') := Lib.hid (fun w' hb => hst ▸ (HF.out.go hb).stop)
    clear hst hcW htA htB htC htD htE htF htW hfin
    go_upto_region 13 with fail
    have c2 := HF.out.hb.cell 2
    simp [hdV] at c2
    rw [HT.out.ty] at c2
    have g0 := (HF.out.box (List.mem_cons_self ..)).cell 0
    have g1 := (HF.out.box (List.mem_cons_self ..)).cell 1
    have g2 := (HF.out.box (List.mem_cons_self ..)).cell 2
    have g3 := (HF.out.box (List.mem_cons_self ..)).cell 3
    have g4 := (HF.out.box (List.mem_cons_self ..)).cell 4
    have g5 := (HF.out.box (List.mem_cons_self ..)).cell 5
    have g6 := (HF.out.box (List.mem_cons_self ..)).cell 6
    have g7 := (HF.out.box (List.mem_cons_self ..)).cell 7
    have g8 := (HF.out.box (List.mem_cons_self ..)).cell 8
    simp [ppV] at g0 g1 g2 g3 g4 g5 g6 g7 g8
    have hpl2 : w.heap.size < w2.heap.size := (HF.out.box (List.mem_cons_self ..)).lt
    have hgl2 : gh < w2.heap.size := HF.out.hb.lt
    cases wg
    · skip
      refine wp_region_class (fun w' => Below w2.heap.size w2 w') (by kernel_rfl) (by kernel_rfl) ((Below.refl _ _).drew) ?_
      repeat (first
        | go_big_quiet_skip
        | (go_big_quiet_want; first
            | (go_big_quiet_op; go_big_quiet_on)
            | (refine qv_val (v := ?_) ?_ ?_; rotate_left 1; (intro w' hw'; obtain ⟨hcc, hff⟩ := bcell hw'; clear hff hw'; go_simp; (try with_reducible rfl)); (try simp only [Act.put, List.setIfInBounds_toArray, List.set_cons_zero, List.set_cons_succ]); go_big_quiet_on)
            | (refine qv_call (v := ?_) (f := ?_) (args := ?_) ?_ ?_ ?_; rotate_left 3; (intro w' hw'; clear hw'; go_simp; (refine ⟨?_, ?_⟩ <;> rfl)); (first | (intro w' hw'; refine (D4.out _).mono ?_; rintro e wh ⟨rfl, hbh⟩; refine ⟨?_, Below.trans hw' (hbh.mono hw'.size)⟩; skip; rfl)); (try simp only [Act.put, List.setIfInBounds_toArray, List.set_cons_zero, List.set_cons_succ]); go_big_quiet_on)))
      with_reducible refine wpQuiet_nil ?_
      intro wq hq
      clear c2 g0 g1 g2 g3 g4 g5 g6 g7 g8
      replace HF := Lib.hid (HF.out.go hq)
      clear hq
      go_wp2_with fail
      go_end0
      rw [HFIN.out]
      exact ⟨rfl, qE, (HF.out.eqv ((if_neg (by rw [HCW.out]; simp)).symm.trans HTW.out)).pop.more (by omega) (by omega)⟩
    · cases st
      · skip
        refine wp_region_class (fun w' => Below w2.heap.size w2 w') (by kernel_rfl) (by kernel_rfl) ((Below.refl _ _).drew) ?_
        repeat (first
          | go_big_quiet_skip
          | (go_big_quiet_want; first
              | (go_big_quiet_op; go_big_quiet_on)
              | (refine qv_val (v := ?_) ?_ ?_; rotate_left 1; (intro w' hw'; obtain ⟨hcc, hff⟩ := bcell hw'; clear hff hw'; go_simp; (try with_reducible rfl)); (try simp only [Act.put, List.setIfInBounds_toArray, List.set_cons_zero, List.set_cons_succ]); go_big_quiet_on)
              | (refine qv_call (v := ?_) (f := ?_) (args := ?_) ?_ ?_ ?_; rotate_left 3; (intro w' hw'; clear hw'; go_simp; (refine ⟨?_, ?_⟩ <;> rfl)); (first | (intro w' hw'; refine (D4.out _).mono ?_; rintro e wh ⟨rfl, hbh⟩; refine ⟨?_, Below.trans hw' (hbh.mono hw'.size)⟩; skip; rfl) | (intro w' hw'; refine (HST.out w' hw').mono ?_; rintro e w'' ⟨rfl, rfl⟩; refine ⟨?_, hw'⟩; skip; rfl)); (try simp only [Act.put, List.setIfInBounds_toArray, List.set_cons_zero, List.set_cons_succ]); go_big_quiet_on)))
        with_reducible refine wpQuiet_nil ?_
        intro wq hq
        clear c2 g0 g1 g2 g3 g4 g5 g6 g7 g8
        replace HF := Lib.hid (HF.out.go hq)
        clear hq HST D4
        obtain ⟨tG, htG⟩ : ∃ x, liG (sbit s) (8 * s.size) tF = x := ⟨_, rfl⟩
        obtain ⟨tH, htH⟩ : ∃ x, liH (sbit s) (8 * s.size) tG = x := ⟨_, rfl⟩
        obtain ⟨tI, htI⟩ : ∃ x, liI (sbit s) (8 * s.size) tH = x := ⟨_, rfl⟩
        obtain ⟨tJ, htJ⟩ : ∃ x, liJ (sbit s) (8 * s.size) tI = x := ⟨_, rfl⟩
        have hW : tJ = tW := by
          rw [← HTW.out, ← htJ, ← htI, ← htH, ← htG]
          exact (if_pos (by rw [HCW.out]; rfl)).symm
        have HW := Lib.hid hW
        clear hW
        go_wp2_with fail
        refine (HF.out.ue HS.out tF.h.log 11 { tF.h with log := ueV (sbit s) (8 * s.size) tF.h.log tF.k } (by omega) rfl rfl rfl).mono ?_
        rintro e wG ⟨rfl, hq⟩
        replace HF := Lib.hid (hq.eqv htG)
        replace HT := Lib.hid (show Ty tG ty from htG ▸ HT.out.liG)
        clear hq htG
        go_wp2_with fail
        refine (HF.out.ue HS.out tG.h.logC 12 { tG.h with logC := ueV (sbit s) (8 * s.size) tG.h.logC tG.k } (by omega) rfl rfl rfl).mono ?_
        rintro e wH ⟨rfl, hq⟩
        replace HF := Lib.hid (hq.eqv htH)
        replace HT := Lib.hid (show Ty tH ty from htH ▸ HT.out.liH)
        clear hq htH
        have c7 := HF.out.hb.cell 7
        simp [hdV] at c7
        replace HF := Lib.hid ((HF.out.go ((Below.refl _ _).drew)).more (show 2 ≤ 2 by omega) (Nat.le_refl _))
        go_wp2_with fail
        go_still_tail 8, (by kernel_rfl)
        change wpList _ _ _ _ _ (World.drew _)
        clear c7
        go_wp2_with fail
        refine (HF.out.weights_w0 HS.out (by omega) HT.out.a0.1 HT.out.a0.2).mono ?_
        rintro e wI ⟨rfl, qI, hq⟩
        replace HF := Lib.hid (hq.eqv htI)
        replace HT := Lib.hid (show Ty tI ty from htI ▸ HT.out.liI)
        clear hq htI
        have c8 := HF.out.hb.cell 8
        simp [hdV] at c8
        replace HF := Lib.hid (HF.out.go ((Below.refl _ _).drew))
        go_wp2_with fail
        go_still_tail 8, (by kernel_rfl)
        change wpList _ _ _ _ _ (World.drew _)
        clear c8
        go_wp2_with fail
        refine (HF.out.weights_w1 HS.out (by omega) HT.out.a1.1 HT.out.a1.2).mono ?_
        rintro e wJ ⟨rfl, qJ, hq⟩
        replace HF := Lib.hid (hq.eqv (htJ.trans HW.out))
        clear hq htJ
        go_wp2_with fail
        go_end0
        rw [HFIN.out]
        exact ⟨rfl, qJ, HF.out.pop.more (by omega) (by omega)⟩
      · skip
        refine wp_region_class (fun w' => Below w2.heap.size w2 w') (by kernel_rfl) (by kernel_rfl) ((Below.refl _ _).drew) ?_
        repeat (first
          | go_big_quiet_skip
          | (go_big_quiet_want; first
              | (go_big_quiet_op; go_big_quiet_on)
              | (refine qv_val (v := ?_) ?_ ?_; rotate_left 1; (intro w' hw'; obtain ⟨hcc, hff⟩ := bcell hw'; clear hff hw'; go_simp; (try with_reducible rfl)); (try simp only [Act.put, List.setIfInBounds_toArray, List.set_cons_zero, List.set_cons_succ]); go_big_quiet_on)
              | (refine qv_call (v := ?_) (f := ?_) (args := ?_) ?_ ?_ ?_; rotate_left 3; (intro w' hw'; clear hw'; go_simp; (refine ⟨?_, ?_⟩ <;> rfl)); (first | (intro w' hw'; refine (D4.out _).mono ?_; rintro e wh ⟨rfl, hbh⟩; refine ⟨?_, Below.trans hw' (hbh.mono hw'.size)⟩; skip; rfl) | (intro w' hw'; refine (HST.out w' hw').mono ?_; rintro e w'' ⟨rfl, rfl⟩; refine ⟨?_, hw'⟩; skip; rfl)); (try simp only [Act.put, List.setIfInBounds_toArray, List.set_cons_zero, List.set_cons_succ]); go_big_quiet_on)))
        with_reducible refine wpQuiet_nil ?_
        intro wq hq
        clear c2 g0 g1 g2 g3 g4 g5 g6 g7 g8
        replace HF := Lib.hid (HF.out.go hq)
        clear hq
        go_wp2_with fail
        go_end0
        rw [HFIN.out]
        exact ⟨rfl, qE, (HF.out.eqv ((if_neg (by rw [HCW.out]; simp)).symm.trans HTW.out)).pop.more (by omega) (by omega)⟩
set_option maxRecDepth 100000 in
set_option maxHeartbeats 12800000 in
theorem lists_B (p : Pp) (H : HwAt W w0 w base g gk gh s v X t q 0 M) (hs : s.size ≤ 140737488351232) (hM : M ≤ 600000) (T : Ty t 1) :
    Calls Try.prog 44 #[.pointer (some ⟨gk, 0, none⟩), .pointer (some ⟨gh, 0, none⟩), .agg (ppV p)] w fun e w' => e = .returned (.tuple #[]) ∧ ∃ q', HwAt W w0 w' base g gk gh s v X (liS (sbit s) (8 * s.size) p t) q' 4 (M + 30000) := by
  have HF : Hid (HwAt W w0 (w.alloc (.cells (ppV p) 27)) base g gk gh s v ((w.heap.size, 27, ppV p) :: X) t q 0 M) := Lib.hid (H.push 27 (ppV p))
  have HS := Lib.hid hs
  have HT := Lib.hid T
  have c2 := HF.out.hb.cell 2
  simp only [hdV, List.getElem?_toArray, List.getElem?_cons_succ, List.getElem?_cons_zero] at c2
  rw [T.ty] at c2
  obtain ⟨wg, hwg⟩ : ∃ b, wgt 1 p = b := ⟨_, rfl⟩
  have D4 : Hid (∀ w, Calls Try.prog 37 #[.int .i64 1, .agg (ppV p)] w fun e w' => e = .returned (.bool wg) ∧ Below w.heap.size w w') := Lib.hid (fun w => hwg ▸ wgt_any 1 p w)
  simp only [ppV] at D4 c2 ⊢
  have HWG := Lib.hid hwg
  have hpl : w.heap.size < w.heap.size + 1 := by omega
  clear H hs T hwg
  go_enter Try.func44, Try.ntmps44
  go_wp2_with fail
  go_quiet (fail)
  clear c2
  obtain ⟨wz, hwz⟩ : ∃ wz, wz = (w.alloc (.cells (ppV p) 27)).drewN nq := ⟨_, rfl⟩
  replace HF : Hid (HwAt W w0 wz base g gk gh s v ((w.heap.size, 27, ppV p) :: X) t q 0 M) := Lib.hid (by rw [hwz]; exact HF.out.go (below_drewN (Below.refl _ _) nq))
  rw [show (w.alloc (.cells #[.bool p.cabac, .bool p.weighted, .int .i64 p.bipred, .int .i64 p.qp, .int .i64 p.cqp, .bool p.con, .bool p.deb, .int .i64 p.a0, .int .i64 p.a1] 27)).drewN nq = wz from hwz.symm]
  clear hwz
  obtain ⟨tA, htA⟩ : ∃ x, liA (sbit s) (8 * s.size) t = x := ⟨_, rfl⟩
  go_wp2_with fail
  refine (HF.out.flag HS.out t.h.spatial 6 { t.h with spatial := flV (sbit s) (8 * s.size) t.h.spatial t.k } (by omega) rfl rfl rfl).mono ?_
  rintro e w1 ⟨rfl, hq⟩
  replace HF := Lib.hid (hq.eqv ((if_pos HT.out.ty).symm.trans htA))
  clear hq
  replace HT := Lib.hid (show Ty tA 1 from htA ▸ HT.out.liA)
  have HF0 := HF
  obtain ⟨tB, htB⟩ : ∃ x, liB (sbit s) (8 * s.size) tA = x := ⟨_, rfl⟩
  go_wp2_with fail
  refine (HF.out.less HS.out tA.h.a0 7 { tA.h with a0 := lsV (sbit s) (8 * s.size) tA.h.a0 tA.k } (by omega) (by have := HT.out.a0; omega) (by have := HT.out.a0; omega) rfl rfl rfl).mono ?_
  rintro e w2 ⟨rfl, hq⟩
  replace HF := Lib.hid (hq.eqv ((if_pos (by rw [HT.out.ty]; omega)).symm.trans htB))
  clear hq
  replace HT := Lib.hid (show Ty tB 1 from htB ▸ HT.out.liB HF0.out.le)
  clear HF0
  have HF0 := HF
  obtain ⟨tC, htC⟩ : ∃ x, liC (sbit s) (8 * s.size) tB = x := ⟨_, rfl⟩
  go_wp2_with fail
  refine (HF.out.less HS.out tB.h.a1 8 { tB.h with a1 := lsV (sbit s) (8 * s.size) tB.h.a1 tB.k } (by omega) (by have := HT.out.a1; omega) (by have := HT.out.a1; omega) rfl rfl rfl).mono ?_
  rintro e w3 ⟨rfl, hq⟩
  replace HF := Lib.hid (hq.eqv ((if_pos HT.out.ty).symm.trans htC))
  clear hq
  replace HT := Lib.hid (show Ty tC 1 from htC ▸ HT.out.liC HF0.out.le)
  clear HF0
  obtain ⟨tD, htD⟩ : ∃ x, liD tC = x := ⟨_, rfl⟩
  go_upto_region 8 with fail
  go_cut [] (fun wx => HwAt W w0 wx base g gk gh s v ((w.heap.size, 27, ppV p) :: X) tD q 0 (((M + 64) + 64) + 64))
  case first =>
    have c7 := HF.out.hb.cell 7
    have c8 := HF.out.hb.cell 8
    simp [hdV] at c7 c8
    obtain ⟨x0, hx0⟩ : ∃ x, tC.h.a0 = x := ⟨_, rfl⟩
    obtain ⟨x1, hx1⟩ : ∃ x, tC.h.a1 = x := ⟨_, rfl⟩
    have hD : tD = ⟨ckM (decide (x0 ≤ 8) && decide (x1 ≤ 8)) tC.k, tC.h⟩ := by rw [← htD, ← hx0, ← hx1]; rfl
    rw [hx0] at c7
    rw [hx1] at c8
    have HD := Lib.hid hD
    clear hx0 hx1 hD htD
    by_cases z0 : x0 ≤ 8
    · by_cases z1 : x1 ≤ 8
      · rw [decide_eq_true z0, decide_eq_true z1] at HD
        go_wp2_with fail
        refine (HF.out.check _).mono ?_
        rintro e wd ⟨rfl, hq⟩
        replace HF := Lib.hid (hq.eqv HD.out.symm)
        clear hq c7 c8
        go_wp2_with fail
        go_meet
        exact HF.out
      · rw [decide_eq_true z0, decide_eq_false z1] at HD
        have z1' : 8 < x1 := by omega
        go_wp2_with fail
        refine (HF.out.check _).mono ?_
        rintro e wd ⟨rfl, hq⟩
        replace HF := Lib.hid (hq.eqv HD.out.symm)
        clear hq c7 c8
        go_wp2_with fail
        go_meet
        exact HF.out
    · rw [decide_eq_false z0] at HD
      have z0' : 8 < x0 := by omega
      go_wp2_with fail
      refine (HF.out.check _).mono ?_
      rintro e wd ⟨rfl, hq⟩
      replace HF := Lib.hid (hq.eqv HD.out.symm)
      clear hq c7 c8
      go_wp2_with fail
      go_meet
      exact HF.out
  case rest =>
    replace HF := Lib.hid hcut
    clear hcut
    replace HT := Lib.hid (show Ty tD 1 from htD ▸ HT.out.liD)
    obtain ⟨tE, htE⟩ : ∃ x, liE (sbit s) (8 * s.size) tD = x := ⟨_, rfl⟩
    go_wp2_with fail
    refine (HF.out.list_m0 HS.out (by omega)).mono ?_
    rintro e w4 ⟨rfl, qE, hq⟩
    replace HF := Lib.hid (hq.eqv ((if_pos (by rw [HT.out.ty]; omega)).symm.trans htE))
    clear hq
    replace HT := Lib.hid (show Ty tE 1 from htE ▸ HT.out.liE)
    obtain ⟨tF, htF⟩ : ∃ x, liF (sbit s) (8 * s.size) tE = x := ⟨_, rfl⟩
    go_wp2_with fail
    refine (HF.out.list_m1 HS.out (by omega)).mono ?_
    rintro e w5 ⟨rfl, qF, hq⟩
    replace HF := Lib.hid (hq.eqv ((if_pos HT.out.ty).symm.trans htF))
    clear hq
    replace HT := Lib.hid (show Ty tF 1 from htF ▸ HT.out.liF)
    obtain ⟨tW, htW⟩ : ∃ x, liW (sbit s) (8 * s.size) p tF = x := ⟨_, rfl⟩
    obtain ⟨st, hst⟩ : ∃ b, tF.k.stop = b := ⟨_, rfl⟩
    have hcW : (wgt tF.h.type p && !tF.k.stop) = (wg && !st) := by rw [HT.out.ty, HWG.out, hst]
    have hfin : liS (sbit s) (8 * s.size) p t = tW := by unfold liS; rw [htA, htB, htC, htD, htE, htF, htW]
    have HFIN := Lib.hid hfin
    have HCW := Lib.hid hcW
    have HTW := Lib.hid htW
    have HST : Hid (∀ w', Below w5.heap.size w5 w' → Calls Try.prog 63 #[.pointer (some ⟨gk, 0, none⟩)] w' fun e w'' => e = .returned (.bool st) ∧ w' = w'') := Lib.hid (fun w' hb => hst ▸ (HF.out.go hb).stop)
    clear hst hcW htA htB htC htD htE htF htW hfin
    go_upto_region 13 with fail
    have c2 := HF.out.hb.cell 2
    simp [hdV] at c2
    rw [HT.out.ty] at c2
    have g0 := (HF.out.box (List.mem_cons_self ..)).cell 0
    have g1 := (HF.out.box (List.mem_cons_self ..)).cell 1
    have g2 := (HF.out.box (List.mem_cons_self ..)).cell 2
    have g3 := (HF.out.box (List.mem_cons_self ..)).cell 3
    have g4 := (HF.out.box (List.mem_cons_self ..)).cell 4
    have g5 := (HF.out.box (List.mem_cons_self ..)).cell 5
    have g6 := (HF.out.box (List.mem_cons_self ..)).cell 6
    have g7 := (HF.out.box (List.mem_cons_self ..)).cell 7
    have g8 := (HF.out.box (List.mem_cons_self ..)).cell 8
    simp [ppV] at g0 g1 g2 g3 g4 g5 g6 g7 g8
    have hpl2 : w.heap.size < w5.heap.size := (HF.out.box (List.mem_cons_self ..)).lt
    have hgl2 : gh < w5.heap.size := HF.out.hb.lt
    cases wg
    · skip
      refine wp_region_class (fun w' => Below w5.heap.size w5 w') (by kernel_rfl) (by kernel_rfl) ((Below.refl _ _).drew) ?_
      repeat (first
        | go_big_quiet_skip
        | (go_big_quiet_want; first
            | (go_big_quiet_op; go_big_quiet_on)
            | (refine qv_val (v := ?_) ?_ ?_; rotate_left 1; (intro w' hw'; obtain ⟨hcc, hff⟩ := bcell hw'; clear hff hw'; go_simp; (try with_reducible rfl)); (try simp only [Act.put, List.setIfInBounds_toArray, List.set_cons_zero, List.set_cons_succ]); go_big_quiet_on)
            | (refine qv_call (v := ?_) (f := ?_) (args := ?_) ?_ ?_ ?_; rotate_left 3; (intro w' hw'; clear hw'; go_simp; (refine ⟨?_, ?_⟩ <;> rfl)); (first | (intro w' hw'; refine (D4.out _).mono ?_; rintro e wh ⟨rfl, hbh⟩; refine ⟨?_, Below.trans hw' (hbh.mono hw'.size)⟩; skip; rfl)); (try simp only [Act.put, List.setIfInBounds_toArray, List.set_cons_zero, List.set_cons_succ]); go_big_quiet_on)))
      with_reducible refine wpQuiet_nil ?_
      intro wq hq
      clear c2 g0 g1 g2 g3 g4 g5 g6 g7 g8
      replace HF := Lib.hid (HF.out.go hq)
      clear hq
      go_wp2_with fail
      go_end0
      rw [HFIN.out]
      exact ⟨rfl, qF, (HF.out.eqv ((if_neg (by rw [HCW.out]; simp)).symm.trans HTW.out)).pop.more (by omega) (by omega)⟩
    · cases st
      · skip
        refine wp_region_class (fun w' => Below w5.heap.size w5 w') (by kernel_rfl) (by kernel_rfl) ((Below.refl _ _).drew) ?_
        repeat (first
          | go_big_quiet_skip
          | (go_big_quiet_want; first
              | (go_big_quiet_op; go_big_quiet_on)
              | (refine qv_val (v := ?_) ?_ ?_; rotate_left 1; (intro w' hw'; obtain ⟨hcc, hff⟩ := bcell hw'; clear hff hw'; go_simp; (try with_reducible rfl)); (try simp only [Act.put, List.setIfInBounds_toArray, List.set_cons_zero, List.set_cons_succ]); go_big_quiet_on)
              | (refine qv_call (v := ?_) (f := ?_) (args := ?_) ?_ ?_ ?_; rotate_left 3; (intro w' hw'; clear hw'; go_simp; (refine ⟨?_, ?_⟩ <;> rfl)); (first | (intro w' hw'; refine (D4.out _).mono ?_; rintro e wh ⟨rfl, hbh⟩; refine ⟨?_, Below.trans hw' (hbh.mono hw'.size)⟩; skip; rfl) | (intro w' hw'; refine (HST.out w' hw').mono ?_; rintro e w'' ⟨rfl, rfl⟩; refine ⟨?_, hw'⟩; skip; rfl)); (try simp only [Act.put, List.setIfInBounds_toArray, List.set_cons_zero, List.set_cons_succ]); go_big_quiet_on)))
        with_reducible refine wpQuiet_nil ?_
        intro wq hq
        clear c2 g0 g1 g2 g3 g4 g5 g6 g7 g8
        replace HF := Lib.hid (HF.out.go hq)
        clear hq HST D4
        obtain ⟨tG, htG⟩ : ∃ x, liG (sbit s) (8 * s.size) tF = x := ⟨_, rfl⟩
        obtain ⟨tH, htH⟩ : ∃ x, liH (sbit s) (8 * s.size) tG = x := ⟨_, rfl⟩
        obtain ⟨tI, htI⟩ : ∃ x, liI (sbit s) (8 * s.size) tH = x := ⟨_, rfl⟩
        obtain ⟨tJ, htJ⟩ : ∃ x, liJ (sbit s) (8 * s.size) tI = x := ⟨_, rfl⟩
        have hW : tJ = tW := by
          rw [← HTW.out, ← htJ, ← htI, ← htH, ← htG]
          exact (if_pos (by rw [HCW.out]; rfl)).symm
        have HW := Lib.hid hW
        clear hW
        go_wp2_with fail
        refine (HF.out.ue HS.out tF.h.log 11 { tF.h with log := ueV (sbit s) (8 * s.size) tF.h.log tF.k } (by omega) rfl rfl rfl).mono ?_
        rintro e wG ⟨rfl, hq⟩
        replace HF := Lib.hid (hq.eqv htG)
        replace HT := Lib.hid (show Ty tG 1 from htG ▸ HT.out.liG)
        clear hq htG
        go_wp2_with fail
        refine (HF.out.ue HS.out tG.h.logC 12 { tG.h with logC := ueV (sbit s) (8 * s.size) tG.h.logC tG.k } (by omega) rfl rfl rfl).mono ?_
        rintro e wH ⟨rfl, hq⟩
        replace HF := Lib.hid (hq.eqv htH)
        replace HT := Lib.hid (show Ty tH 1 from htH ▸ HT.out.liH)
        clear hq htH
        have c7 := HF.out.hb.cell 7
        simp [hdV] at c7
        replace HF := Lib.hid ((HF.out.go ((Below.refl _ _).drew)).more (show 2 ≤ 2 by omega) (Nat.le_refl _))
        go_wp2_with fail
        go_still_tail 8, (by kernel_rfl)
        change wpList _ _ _ _ _ (World.drew _)
        clear c7
        go_wp2_with fail
        refine (HF.out.weights_w0 HS.out (by omega) HT.out.a0.1 HT.out.a0.2).mono ?_
        rintro e wI ⟨rfl, qI, hq⟩
        replace HF := Lib.hid (hq.eqv htI)
        replace HT := Lib.hid (show Ty tI 1 from htI ▸ HT.out.liI)
        clear hq htI
        have c8 := HF.out.hb.cell 8
        simp [hdV] at c8
        replace HF := Lib.hid (HF.out.go ((Below.refl _ _).drew))
        go_wp2_with fail
        go_still_tail 8, (by kernel_rfl)
        change wpList _ _ _ _ _ (World.drew _)
        clear c8
        go_wp2_with fail
        refine (HF.out.weights_w1 HS.out (by omega) HT.out.a1.1 HT.out.a1.2).mono ?_
        rintro e wJ ⟨rfl, qJ, hq⟩
        replace HF := Lib.hid (hq.eqv (htJ.trans HW.out))
        clear hq htJ
        go_wp2_with fail
        go_end0
        rw [HFIN.out]
        exact ⟨rfl, qJ, HF.out.pop.more (by omega) (by omega)⟩
      · skip
        refine wp_region_class (fun w' => Below w5.heap.size w5 w') (by kernel_rfl) (by kernel_rfl) ((Below.refl _ _).drew) ?_
        repeat (first
          | go_big_quiet_skip
          | (go_big_quiet_want; first
              | (go_big_quiet_op; go_big_quiet_on)
              | (refine qv_val (v := ?_) ?_ ?_; rotate_left 1; (intro w' hw'; obtain ⟨hcc, hff⟩ := bcell hw'; clear hff hw'; go_simp; (try with_reducible rfl)); (try simp only [Act.put, List.setIfInBounds_toArray, List.set_cons_zero, List.set_cons_succ]); go_big_quiet_on)
              | (refine qv_call (v := ?_) (f := ?_) (args := ?_) ?_ ?_ ?_; rotate_left 3; (intro w' hw'; clear hw'; go_simp; (refine ⟨?_, ?_⟩ <;> rfl)); (first | (intro w' hw'; refine (D4.out _).mono ?_; rintro e wh ⟨rfl, hbh⟩; refine ⟨?_, Below.trans hw' (hbh.mono hw'.size)⟩; skip; rfl) | (intro w' hw'; refine (HST.out w' hw').mono ?_; rintro e w'' ⟨rfl, rfl⟩; refine ⟨?_, hw'⟩; skip; rfl)); (try simp only [Act.put, List.setIfInBounds_toArray, List.set_cons_zero, List.set_cons_succ]); go_big_quiet_on)))
        with_reducible refine wpQuiet_nil ?_
        intro wq hq
        clear c2 g0 g1 g2 g3 g4 g5 g6 g7 g8
        replace HF := Lib.hid (HF.out.go hq)
        clear hq
        go_wp2_with fail
        go_end0
        rw [HFIN.out]
        exact ⟨rfl, qF, (HF.out.eqv ((if_neg (by rw [HCW.out]; simp)).symm.trans HTW.out)).pop.more (by omega) (by omega)⟩
theorem Ty.of (a0 : 0 ≤ t.h.a0 ∧ t.h.a0 ≤ 2147483647) (a1 : 0 ≤ t.h.a1 ∧ t.h.a1 ≤ 2147483647) (c : Int) (h : t.h.type = c) : Ty t c := ⟨h, a0, a1⟩
theorem lists_any (p : Pp) (H : HwAt W w0 w base g gk gh s v X t q 0 M) (hs : s.size ≤ 140737488351232) (hM : M ≤ 600000) (a0 : 0 ≤ t.h.a0 ∧ t.h.a0 ≤ 2147483647) (a1 : 0 ≤ t.h.a1 ∧ t.h.a1 ≤ 2147483647) :
    Calls Try.prog 44 #[.pointer (some ⟨gk, 0, none⟩), .pointer (some ⟨gh, 0, none⟩), .agg (ppV p)] w fun e w' => e = .returned (.tuple #[]) ∧ ∃ q', HwAt W w0 w' base g gk gh s v X (liS (sbit s) (8 * s.size) p t) q' 4 (M + 30000) := by
  by_cases h2 : t.h.type = 2
  · exact lists_I p H hs hM (Ty.of a0 a1 _ h2)
  by_cases h1 : t.h.type = 1
  · exact lists_B p H hs hM (Ty.of a0 a1 _ h1)
  · exact lists_P t.h.type p H hs hM (Ty.of a0 a1 _ rfl) h1 h2
end
end Go.Proofs.Ytjokibagciehlaa
