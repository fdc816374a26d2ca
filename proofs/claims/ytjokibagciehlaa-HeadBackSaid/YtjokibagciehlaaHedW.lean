/- A walk over all fields. Printed by gen-heda.py. -/
import Derived.Test.YtjokibagciehlaaHedV
import Derived.Test.YtjokibagciehlaaParF
namespace Go.Proofs.Ytjokibagciehlaa
open Go.RowKit
set_option linter.unusedVariables false
set_option linter.unusedSimpArgs false

/-- the counts of a header -/
structure Cn (t : Hw) : Prop where
  a0 : 0 ≤ t.h.a0 ∧ t.h.a0 ≤ 2147483647
  a1 : 0 ≤ t.h.a1 ∧ t.h.a1 ≤ 2147483647
section
variable {W : Bool} {w0 w : World} {base g gk gh : Nat} {s : ByteArray} {v : Value} {X : List (Nat × TypeId × Array Value)} {t : Hw} {q : Ha} {M : Nat}
set_option maxRecDepth 100000 in
set_option maxHeartbeats 12800000 in
theorem all_any (sq : Sp) (A : Option Addr) (c : Nat) (p : Pp) (ref : Int) (key : Bool) (H : HwAt W w0 w base g gk gh s v X t q 0 M) (hs : s.size ≤ 140737488351232) (hM : M ≤ 500000) (hc : -4611686018427387904 ≤ t.h.count ∧ t.h.count ≤ 4611686018427387904) (T : Cn t) :
    Calls Try.prog 26 #[.pointer (some ⟨gk, 0, none⟩), .pointer (some ⟨gh, 0, none⟩), .agg (spV sq A c), .agg (ppV p), .int .i64 ref, .bool key] w fun e w' => e = .returned (.tuple #[]) ∧ ∃ q', HwAt W w0 w' base g gk gh s v X (alS (sbit s) (8 * s.size) sq p ref key t) q' 5 (M + 40000) := by
  obtain ⟨w1, hw1⟩ : ∃ w1, w1 = w.alloc (.cells (spV sq A c) 25) := ⟨_, rfl⟩
  obtain ⟨w2, hw2⟩ : ∃ w2, w2 = w1.alloc (.cells (ppV p) 27) := ⟨_, rfl⟩
  have hsz : w1.heap.size = w.heap.size + 1 := by rw [hw1]; simp
  have HF : Hid (HwAt W w0 w2 base g gk gh s v ((w.heap.size + 1, 27, ppV p) :: (w.heap.size, 25, spV sq A c) :: X) t q 0 M) := Lib.hid (by
    have h := (H.push 25 (spV sq A c)).push 27 (ppV p)
    rw [← hw1, ← hw2, hsz] at h
    exact h)
  have HS := Lib.hid hs
  have HT := Lib.hid T
  clear H hs T hsz
  have hw2' : w2 = (w.alloc (.cells (spV sq A c) 25)).alloc (.cells (ppV p) 27) := by rw [hw2, hw1]
  simp only [spV, ppV] at hw2' ⊢
  clear hw1 hw2
  go_enter Try.func26, Try.ntmps26
  go_wp2_with fail
  rw [← hw2']
  clear hw2' 
  obtain ⟨tA, htA⟩ : ∃ x, alA (sbit s) (8 * s.size) t = x := ⟨_, rfl⟩
  skip
  refine (HF.out.ue HS.out t.h.first 0 { t.h with first := ueV (sbit s) (8 * s.size) t.h.first t.k } (by omega) rfl rfl rfl).mono ?_
  rintro e wA ⟨rfl, hq⟩
  replace HF := Lib.hid (hq.eqv htA)
  clear hq
  replace HT := Lib.hid (show Cn tA from htA ▸ ⟨HT.out.a0, HT.out.a1⟩)
  have hcA : tA.h.count = t.h.count := by rw [← htA]; rfl
  rw [← hcA] at hc
  clear hcA
  obtain ⟨tB, htB⟩ : ∃ x, alB (sbit s) (8 * s.size) tA = x := ⟨_, rfl⟩
  go_wp2_with fail
  refine (HF.out.less HS.out tA.h.count 1 { tA.h with count := lsV (sbit s) (8 * s.size) tA.h.count tA.k } (by omega) hc.1 hc.2 rfl rfl rfl).mono ?_
  rintro e wB ⟨rfl, hq⟩
  replace HF := Lib.hid (hq.eqv htB)
  clear hq
  replace HT := Lib.hid (show Cn tB from htB ▸ ⟨HT.out.a0, HT.out.a1⟩)
  clear hc
  obtain ⟨tC, htC⟩ : ∃ x, alC (sbit s) (8 * s.size) tB = x := ⟨_, rfl⟩
  go_wp2_with fail
  refine (HF.out.ue HS.out tB.h.type 2 { tB.h with type := ueV (sbit s) (8 * s.size) tB.h.type tB.k } (by omega) rfl rfl rfl).mono ?_
  rintro e wC ⟨rfl, hq⟩
  replace HF := Lib.hid (hq.eqv htC)
  clear hq
  replace HT := Lib.hid (show Cn tC from htC ▸ ⟨HT.out.a0, HT.out.a1⟩)
  obtain ⟨tD, htD⟩ : ∃ x, alD tC = x := ⟨_, rfl⟩
  have c2 := HF.out.hb.cell 2
  simp [hdV] at c2
  go_wp2_with fail
  refine (hin_any tC.h.type 0 2 wC).mono ?_
  rintro e wC' ⟨rfl, rfl⟩
  clear c2
  go_wp2_with fail
  refine (HF.out.check (inR 0 2 tC.h.type)).mono ?_
  rintro e wD ⟨rfl, hq⟩
  replace HF := Lib.hid (hq.eqv htD)
  clear hq
  replace HT := Lib.hid (show Cn tD from htD ▸ ⟨HT.out.a0, HT.out.a1⟩)
  obtain ⟨tE, htE⟩ : ∃ x, alE (sbit s) (8 * s.size) sq tD = x := ⟨_, rfl⟩
  have s2 := (HF.out.box (List.mem_cons_of_mem _ (List.mem_cons_self ..))).cell 2
  simp [spV] at s2
  go_wp2_with fail
  replace HF := Lib.hid (HF.out.go ((Below.refl _ _).drew))
  go_still_tail 6, (by kernel_rfl)
  change wpList _ _ _ _ _ (World.drew _)
  clear s2
  go_wp2_with fail
  refine (HF.out.fixed HS.out sq.fb tD.h.fn 3 { tD.h with fn := fxV (sbit s) (8 * s.size) sq.fb tD.h.fn tD.k } (by omega) rfl rfl rfl).mono ?_
  rintro e wE ⟨rfl, hq⟩
  replace HF := Lib.hid (hq.eqv htE)
  clear hq
  replace HT := Lib.hid (show Cn tE from htE ▸ ⟨HT.out.a0, HT.out.a1⟩)
  obtain ⟨tF, htF⟩ : ∃ x, alF (sbit s) (8 * s.size) key tE = x := ⟨_, rfl⟩
  go_upto_if 41 with fail
  go_cut [] (fun wx => HwAt W w0 wx base g gk gh s v ((w.heap.size + 1, 27, ppV p) :: (w.heap.size, 25, spV sq A c) :: X) tF q 0 ((M + 64 + 64 + 64 + 64) + 64))
  case first =>
    cases key
    · replace HF := Lib.hid ((HF.out.eqv ((if_neg (by simp)).symm.trans htF)).more (Nat.le_refl _) (show _ ≤ (M + 64 + 64 + 64 + 64) + 64 by omega))
      go_wp2_with fail
      go_meet
      exact HF.out
    · skip
      go_wp2_with fail
      refine (HF.out.ue HS.out tE.h.id 4 { tE.h with id := ueV (sbit s) (8 * s.size) tE.h.id tE.k } (by omega) rfl rfl rfl).mono ?_
      rintro e wF ⟨rfl, hq⟩
      replace HF := Lib.hid (hq.eqv ((if_pos rfl).symm.trans htF))
      clear hq
      go_wp2_with fail
      go_meet
      exact HF.out
  case rest =>
    replace HF := Lib.hid hcut
    clear hcut
    replace HT := Lib.hid (show Cn tF from htF ▸ (by unfold alF; split <;> exact ⟨HT.out.a0, HT.out.a1⟩))
    obtain ⟨tG, htG⟩ : ∃ x, alG (sbit s) (8 * s.size) sq tF = x := ⟨_, rfl⟩
    have hsl : w.heap.size < wc.heap.size := (HF.out.box (List.mem_cons_of_mem _ (List.mem_cons_self ..))).lt
    have s3 := (HF.out.box (List.mem_cons_of_mem _ (List.mem_cons_self ..))).cell 3
    simp [spV] at s3
    go_upto_if 49 with fail
    clear s3
    go_cut [] (fun wx => HwAt W w0 wx base g gk gh s v ((w.heap.size + 1, 27, ppV p) :: (w.heap.size, 25, spV sq A c) :: X) tG q 0 ((M + 64 + 64 + 64 + 64 + 64) + 64))
    case first =>
      by_cases hp : sq.pt = 0
      · have hp' : (sq.pt == 0) = true := by rw [hp]; rfl
        have s4 := (HF.out.box (List.mem_cons_of_mem _ (List.mem_cons_self ..))).cell 4
        simp [spV] at s4
        have HP := Lib.hid hp
        clear hp
        go_wp2_with fail
        replace HF := Lib.hid (HF.out.go ((Below.refl _ _).drew))
        go_still_tail 6, (by kernel_rfl)
        change wpList _ _ _ _ _ (World.drew _)
        clear s4
        go_wp2_with fail
        refine (HF.out.fixed HS.out sq.pb tF.h.poc 5 { tF.h with poc := fxV (sbit s) (8 * s.size) sq.pb tF.h.poc tF.k } (by omega) rfl rfl rfl).mono ?_
        rintro e wG ⟨rfl, hq⟩
        replace HF := Lib.hid (hq.eqv ((if_pos HP.out).symm.trans htG))
        clear hq
        go_wp2_with fail
        go_meet
        exact HF.out
      · have hp' : (sq.pt == 0) = false := by simpa using hp
        replace HF := Lib.hid ((HF.out.eqv ((if_neg hp).symm.trans htG)).more (Nat.le_refl _) (show _ ≤ (M + 64 + 64 + 64 + 64 + 64) + 64 by omega))
        clear hp
        go_wp2_with fail
        go_meet
        exact HF.out
    case rest =>
      replace HF := Lib.hid hcut
      clear hcut
      replace HT := Lib.hid (show Cn tG from htG ▸ (by unfold alG; split <;> exact ⟨HT.out.a0, HT.out.a1⟩))
      clear hsl
      obtain ⟨tL, htL⟩ : ∃ x, liS (sbit s) (8 * s.size) p tG = x := ⟨_, rfl⟩
      have g0 := (HF.out.box (List.mem_cons_self ..)).cell 0
      have g1 := (HF.out.box (List.mem_cons_self ..)).cell 1
      have g2 := (HF.out.box (List.mem_cons_self ..)).cell 2
      have g3 := (HF.out.box (List.mem_cons_self ..)).cell 3
      have g4 := (HF.out.box (List.mem_cons_self ..)).cell 4
      have g5 := (HF.out.box (List.mem_cons_self ..)).cell 5
      have g6 := (HF.out.box (List.mem_cons_self ..)).cell 6
      have g7 := (HF.out.box (List.mem_cons_self ..)).cell 7
      have g8 := (HF.out.box (List.mem_cons_self ..)).cell 8
      simp [ppV] at g0 g1 g2 g3 g4 g5 g6 g7 g8
      have HLI : Hid (Calls Try.prog 44 #[.pointer (some ⟨gk, 0, none⟩), .pointer (some ⟨gh, 0, none⟩), .agg #[.bool p.cabac, .bool p.weighted, .int .i64 p.bipred, .int .i64 p.qp, .int .i64 p.cqp, .bool p.con, .bool p.deb, .int .i64 p.a0, .int .i64 p.a1]] wc fun e w' => e = .returned (.tuple #[]) ∧ ∃ q', HwAt W w0 w' base g gk gh s v ((w.heap.size + 1, 27, ppV p) :: (w.heap.size, 25, spV sq A c) :: X) (liS (sbit s) (8 * s.size) p tG) q' 4 ((M + 64 + 64 + 64 + 64 + 64 + 64) + 30000)) := Lib.hid (lists_any p HF.out HS.out (by omega) HT.out.a0 HT.out.a1)
      go_wp2_with fail
      refine HLI.out.mono ?_
      rintro e wL ⟨rfl, qL, hq⟩
      replace HF : Hid (HwAt W w0 wL base g gk gh s v ((w.heap.size + 1, 27, ppV p) :: (w.heap.size, 25, spV sq A c) :: X) tL qL 4 ((M + 64 + 64 + 64 + 64 + 64 + 64) + 30000)) := Lib.hid (hq.eqv htL)
      clear hq HLI g0 g1 g2 g3 g4 g5 g6 g7 g8
      obtain ⟨tH, htH⟩ : ∃ x, alH (sbit s) (8 * s.size) ref key tL = x := ⟨_, rfl⟩
      obtain ⟨tQ, htQ⟩ : ∃ x, alQ (sbit s) (8 * s.size) tH = x := ⟨_, rfl⟩
      have hfin : alS (sbit s) (8 * s.size) sq p ref key t = alI (sbit s) (8 * s.size) p tQ := by unfold alS al1; rw [htA, htB, htC, htD, htE, htF, htG, htL, htH, htQ]
      have HFIN := Lib.hid hfin
      clear hfin htA htB htC htD htE htF htG htL HT
      obtain ⟨db, hdb⟩ : ∃ b, p.deb = b := ⟨_, rfl⟩
      have HDB := Lib.hid hdb
      clear hdb
      by_cases hr : 0 < ref
      · have HR := Lib.hid hr
        cases key
        · have hH : alH (sbit s) (8 * s.size) ref false tL = alO (sbit s) (8 * s.size) tL := by unfold alH; rw [if_pos hr]; exact if_neg (by simp)
          have hO : (⟨rwM (sbit s) (8 * s.size) (moM (sbit s) (8 * s.size)) Mo.zero tL.h.ops tL.k, { tL.h with ops := rwV (sbit s) (8 * s.size) (moM (sbit s) (8 * s.size)) (moV (sbit s) (8 * s.size)) Mo.zero tL.h.ops tL.k }⟩ : Hw) = tH := by rw [← htH, hH]; rfl
          go_wp2_with fail
          refine (HF.out.list_ops HS.out (by omega)).mono ?_
          rintro e wH ⟨rfl, qO, hq⟩
          replace HF := Lib.hid (hq.eqv hO)
          clear hq hO hH htH
          have s6 := (HF.out.box (List.mem_cons_self ..)).cell 6
          simp [ppV] at s6
          rw [HDB.out] at s6
          go_wp2_with fail
          refine (HF.out.ue HS.out tH.h.qp 17 { tH.h with qp := ueV (sbit s) (8 * s.size) tH.h.qp tH.k } (by omega) rfl rfl rfl).mono ?_
          rintro e wQ ⟨rfl, hq⟩
          replace HF := Lib.hid (hq.eqv htQ)
          clear hq
          clear s6
          have s6 := (HF.out.box (List.mem_cons_self ..)).cell 6
          simp [ppV] at s6
          rw [HDB.out] at s6
          have hdbl : w.heap.size + 1 < wQ.heap.size := (HF.out.box (List.mem_cons_self ..)).lt
          cases db
          · have hI : alI (sbit s) (8 * s.size) p tQ = tQ := if_neg (by rw [HDB.out]; simp)
            go_wp2_with fail
            first | refine bodyPost_ret (results_none rfl _ _ _) rfl ?_ | go_end0
            rw [HFIN.out, hI]
            exact ⟨rfl, qO, HF.out.pop.pop.more (by omega) (by omega)⟩
          · obtain ⟨tX, htX⟩ : ∃ x, alX (sbit s) (8 * s.size) tQ = x := ⟨_, rfl⟩
            have hI : alI (sbit s) (8 * s.size) p tQ = alV (sbit s) (8 * s.size) tX := by rw [← htX]; exact if_pos HDB.out
            go_wp2_with fail
            refine (HF.out.flag HS.out tQ.h.off 18 { tQ.h with off := flV (sbit s) (8 * s.size) tQ.h.off tQ.k } (by omega) rfl rfl rfl).mono ?_
            rintro e wX ⟨rfl, hq⟩
            replace HF := Lib.hid (hq.eqv htX)
            clear hq
            clear s6
            have c18 := HF.out.hb.cell 18
            simp [hdV] at c18
            obtain ⟨of, hof⟩ : ∃ b, tX.h.off = b := ⟨_, rfl⟩
            rw [hof] at c18
            have HI := Lib.hid hI
            clear hI
            cases of
            · obtain ⟨tY, htY⟩ : ∃ x, alY (sbit s) (8 * s.size) tX = x := ⟨_, rfl⟩
              obtain ⟨tZ, htZ⟩ : ∃ x, alZ (sbit s) (8 * s.size) tY = x := ⟨_, rfl⟩
              have hV : alV (sbit s) (8 * s.size) tX = tZ := by rw [← htZ, ← htY]; exact if_neg (by rw [hof]; simp)
              have HV := Lib.hid hV
              clear hV hof
              go_wp2_with fail
              refine (HF.out.se HS.out tX.h.a 19 { tX.h with a := seV (sbit s) (8 * s.size) tX.h.a tX.k } (by omega) rfl rfl rfl).mono ?_
              rintro e wY ⟨rfl, hq⟩
              replace HF := Lib.hid (hq.eqv htY)
              clear hq
              clear c18
              go_wp2_with fail
              refine (HF.out.se HS.out tY.h.b 20 { tY.h with b := seV (sbit s) (8 * s.size) tY.h.b tY.k } (by omega) rfl rfl rfl).mono ?_
              rintro e wZ ⟨rfl, hq⟩
              replace HF := Lib.hid (hq.eqv htZ)
              clear hq
              go_wp2_with fail
              go_end0
              rw [HFIN.out, HI.out, HV.out]
              exact ⟨rfl, qO, HF.out.pop.pop.more (by omega) (by omega)⟩
            · have hV : alV (sbit s) (8 * s.size) tX = tX := if_pos hof
              have HV := Lib.hid hV
              clear hV hof
              go_wp2_with fail
              go_end0
              rw [HFIN.out, HI.out, HV.out]
              exact ⟨rfl, qO, HF.out.pop.pop.more (by omega) (by omega)⟩
        · have hH : alH (sbit s) (8 * s.size) ref true tL = alK (sbit s) (8 * s.size) tL := by unfold alH; rw [if_pos hr]; exact if_pos rfl
          have hK : (⟨flM (sbit s) (8 * s.size) tL.h.longKey tL.k, { tL.h with longKey := flV (sbit s) (8 * s.size) tL.h.longKey tL.k }⟩ : Hw) = tH := by rw [← htH, hH]; rfl
          go_wp2_with fail
          refine (HF.out.flag HS.out tL.h.longKey 15 { tL.h with longKey := flV (sbit s) (8 * s.size) tL.h.longKey tL.k } (by omega) rfl rfl rfl).mono ?_
          rintro e wH ⟨rfl, hq⟩
          replace HF := Lib.hid (hq.eqv hK)
          clear hq
          clear hK hH htH
          have s6 := (HF.out.box (List.mem_cons_self ..)).cell 6
          simp [ppV] at s6
          rw [HDB.out] at s6
          go_wp2_with fail
          refine (HF.out.ue HS.out tH.h.qp 17 { tH.h with qp := ueV (sbit s) (8 * s.size) tH.h.qp tH.k } (by omega) rfl rfl rfl).mono ?_
          rintro e wQ ⟨rfl, hq⟩
          replace HF := Lib.hid (hq.eqv htQ)
          clear hq
          clear s6
          have s6 := (HF.out.box (List.mem_cons_self ..)).cell 6
          simp [ppV] at s6
          rw [HDB.out] at s6
          have hdbl : w.heap.size + 1 < wQ.heap.size := (HF.out.box (List.mem_cons_self ..)).lt
          cases db
          · have hI : alI (sbit s) (8 * s.size) p tQ = tQ := if_neg (by rw [HDB.out]; simp)
            go_wp2_with fail
            first | refine bodyPost_ret (results_none rfl _ _ _) rfl ?_ | go_end0
            rw [HFIN.out, hI]
            exact ⟨rfl, qL, HF.out.pop.pop.more (by omega) (by omega)⟩
          · obtain ⟨tX, htX⟩ : ∃ x, alX (sbit s) (8 * s.size) tQ = x := ⟨_, rfl⟩
            have hI : alI (sbit s) (8 * s.size) p tQ = alV (sbit s) (8 * s.size) tX := by rw [← htX]; exact if_pos HDB.out
            go_wp2_with fail
            refine (HF.out.flag HS.out tQ.h.off 18 { tQ.h with off := flV (sbit s) (8 * s.size) tQ.h.off tQ.k } (by omega) rfl rfl rfl).mono ?_
            rintro e wX ⟨rfl, hq⟩
            replace HF := Lib.hid (hq.eqv htX)
            clear hq
            clear s6
            have c18 := HF.out.hb.cell 18
            simp [hdV] at c18
            obtain ⟨of, hof⟩ : ∃ b, tX.h.off = b := ⟨_, rfl⟩
            rw [hof] at c18
            have HI := Lib.hid hI
            clear hI
            cases of
            · obtain ⟨tY, htY⟩ : ∃ x, alY (sbit s) (8 * s.size) tX = x := ⟨_, rfl⟩
              obtain ⟨tZ, htZ⟩ : ∃ x, alZ (sbit s) (8 * s.size) tY = x := ⟨_, rfl⟩
              have hV : alV (sbit s) (8 * s.size) tX = tZ := by rw [← htZ, ← htY]; exact if_neg (by rw [hof]; simp)
              have HV := Lib.hid hV
              clear hV hof
              go_wp2_with fail
              refine (HF.out.se HS.out tX.h.a 19 { tX.h with a := seV (sbit s) (8 * s.size) tX.h.a tX.k } (by omega) rfl rfl rfl).mono ?_
              rintro e wY ⟨rfl, hq⟩
              replace HF := Lib.hid (hq.eqv htY)
              clear hq
              clear c18
              go_wp2_with fail
              refine (HF.out.se HS.out tY.h.b 20 { tY.h with b := seV (sbit s) (8 * s.size) tY.h.b tY.k } (by omega) rfl rfl rfl).mono ?_
              rintro e wZ ⟨rfl, hq⟩
              replace HF := Lib.hid (hq.eqv htZ)
              clear hq
              go_wp2_with fail
              go_end0
              rw [HFIN.out, HI.out, HV.out]
              exact ⟨rfl, qL, HF.out.pop.pop.more (by omega) (by omega)⟩
            · have hV : alV (sbit s) (8 * s.size) tX = tX := if_pos hof
              have HV := Lib.hid hV
              clear hV hof
              go_wp2_with fail
              go_end0
              rw [HFIN.out, HI.out, HV.out]
              exact ⟨rfl, qL, HF.out.pop.pop.more (by omega) (by omega)⟩
      · have hH : alH (sbit s) (8 * s.size) ref key tL = tL := if_neg hr
        have hr' : ref ≤ 0 := by omega
        replace HF := Lib.hid (HF.out.eqv (hH.symm.trans htH))
        clear hH htH
        have s6 := (HF.out.box (List.mem_cons_self ..)).cell 6
        simp [ppV] at s6
        rw [HDB.out] at s6
        go_wp2_with fail
        refine (HF.out.ue HS.out tH.h.qp 17 { tH.h with qp := ueV (sbit s) (8 * s.size) tH.h.qp tH.k } (by omega) rfl rfl rfl).mono ?_
        rintro e wQ ⟨rfl, hq⟩
        replace HF := Lib.hid (hq.eqv htQ)
        clear hq
        clear s6
        have s6 := (HF.out.box (List.mem_cons_self ..)).cell 6
        simp [ppV] at s6
        rw [HDB.out] at s6
        have hdbl : w.heap.size + 1 < wQ.heap.size := (HF.out.box (List.mem_cons_self ..)).lt
        cases db
        · have hI : alI (sbit s) (8 * s.size) p tQ = tQ := if_neg (by rw [HDB.out]; simp)
          go_wp2_with fail
          first | refine bodyPost_ret (results_none rfl _ _ _) rfl ?_ | go_end0
          rw [HFIN.out, hI]
          exact ⟨rfl, qL, HF.out.pop.pop.more (by omega) (by omega)⟩
        · obtain ⟨tX, htX⟩ : ∃ x, alX (sbit s) (8 * s.size) tQ = x := ⟨_, rfl⟩
          have hI : alI (sbit s) (8 * s.size) p tQ = alV (sbit s) (8 * s.size) tX := by rw [← htX]; exact if_pos HDB.out
          go_wp2_with fail
          refine (HF.out.flag HS.out tQ.h.off 18 { tQ.h with off := flV (sbit s) (8 * s.size) tQ.h.off tQ.k } (by omega) rfl rfl rfl).mono ?_
          rintro e wX ⟨rfl, hq⟩
          replace HF := Lib.hid (hq.eqv htX)
          clear hq
          clear s6
          have c18 := HF.out.hb.cell 18
          simp [hdV] at c18
          obtain ⟨of, hof⟩ : ∃ b, tX.h.off = b := ⟨_, rfl⟩
          rw [hof] at c18
          have HI := Lib.hid hI
          clear hI
          cases of
          · obtain ⟨tY, htY⟩ : ∃ x, alY (sbit s) (8 * s.size) tX = x := ⟨_, rfl⟩
            obtain ⟨tZ, htZ⟩ : ∃ x, alZ (sbit s) (8 * s.size) tY = x := ⟨_, rfl⟩
            have hV : alV (sbit s) (8 * s.size) tX = tZ := by rw [← htZ, ← htY]; exact if_neg (by rw [hof]; simp)
            have HV := Lib.hid hV
            clear hV hof
            go_wp2_with fail
            refine (HF.out.se HS.out tX.h.a 19 { tX.h with a := seV (sbit s) (8 * s.size) tX.h.a tX.k } (by omega) rfl rfl rfl).mono ?_
            rintro e wY ⟨rfl, hq⟩
            replace HF := Lib.hid (hq.eqv htY)
            clear hq
            clear c18
            go_wp2_with fail
            refine (HF.out.se HS.out tY.h.b 20 { tY.h with b := seV (sbit s) (8 * s.size) tY.h.b tY.k } (by omega) rfl rfl rfl).mono ?_
            rintro e wZ ⟨rfl, hq⟩
            replace HF := Lib.hid (hq.eqv htZ)
            clear hq
            go_wp2_with fail
            go_end0
            rw [HFIN.out, HI.out, HV.out]
            exact ⟨rfl, qL, HF.out.pop.pop.more (by omega) (by omega)⟩
          · have hV : alV (sbit s) (8 * s.size) tX = tX := if_pos hof
            have HV := Lib.hid hV
            clear hV hof
            go_wp2_with fail
            go_end0
            rw [HFIN.out, HI.out, HV.out]
            exact ⟨rfl, qL, HF.out.pop.pop.more (by omega) (by omega)⟩
end
end Go.Proofs.Ytjokibagciehlaa
