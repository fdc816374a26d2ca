/- Plan: a configuration that may be: the walk. -/
import Derived.Test.YtoniejneoibpoaaPlanG
namespace Go.Proofs.Ytoniejneoibpoaa
open Go.RowKit
set_option linter.unusedVariables false
set_option linter.unusedSimpArgs false
attribute [local go_sem] ite_max ite_min

set_option maxRecDepth 100000 in
set_option maxHeartbeats 3200000 in
theorem plan_yes (wide high refs qp : Int) (b p : Nat) (cabac : Bool) (slices : Int) (pcm deblock : Bool) (poc bits : Int) (m : Nat) (w : World)
    (h : mayB wide high refs qp b p slices poc bits = true) (hb : b ≤ 2) (hp : 1 ≤ p ∧ p ≤ 7) (hm : m ≤ 64) :
    Calls Try.prog 19 #[.agg (cfgV wide high refs qp b p cabac slices pcm deblock poc bits), .int .i64 m] w (Row w (planned p b m) 0) := by
  have hmf : ∀ (fn : Fn) (first cap : Array Value) (w : World), (Instr.makeFunc fn first cap).run Try.prog w = .ok (.func fn first cap) w := fun _ _ _ _ => rfl
  obtain ⟨T, hT⟩ : ∃ T, T = planned p b m := ⟨_, rfl⟩
  have hTl : T.length ≤ 1000 := by have := planned_len p b m hp.1; rw [hT]; omega
  rw [← hT]
  have HT := Lib.hid hT
  clear hT
  have hc := may_any wide high refs qp b p cabac slices pcm deblock poc bits
  unfold cfgV at hc ⊢
  have HC := Lib.hid hc
  clear hc
  go_enter Try.func19, Try.ntmps19
  go_wp2_with fail
  refine (HC.out _).mono ?_
  rw [h]
  rintro e w1 ⟨rfl, hb1⟩
  have hs1 := hb1.size
  simp at hs1
  have HB := Lib.hid (((Below.refl w.heap.size w).alloc (Nat.le_refl _) _).trans (hb1.mono (by simp)))
  have HCf : Hid (Bk w1 w.heap.size 24 (cfgV wide high refs qp b p cabac slices pcm deblock poc bits)) := Lib.hid ((Bk.new _ _ _).go hb1)
  clear hb1 h HC
  go_wp2_with fail
  refine (in_yes _ _ _ _ (by omega)).mono ?_
  rintro e w' ⟨rfl, rfl⟩
  go_wp2_with fail
  go_loopw [7] (fun t wr => ∃ (f u gf : Nat) (v : Value) (L : List Pic), t = .pointer (some ⟨gf, 0, none⟩) ∧ PS w wr w.heap.size w1.heap.size gf (cfgV wide high refs qp b p cabac slices pcm deblock poc bits) v L f ∧ L ++ rows p b m u f = T ∧ m ≤ f + u ∧ f ≤ 100) (fun t wr => 200 - (intOf (cellOf wr t)).toNat)
  case atStart =>
    exact ⟨0, 65, _, _, [], rfl, ⟨(HCf.out.alloc _).alloc _, (Bk.new _ _ _).alloc _, by simpa using Bk.new (w1.alloc (.cells #[.slice none 0 0] 25)) 3 #[.int .i64 0], World.ownsRow_nil _ _ _ _, (HB.out.alloc HB.out.size _).alloc (by have := HB.out.size; simp; omega) _, HB.out.size⟩, by rw [HT.out]; rfl, by omega, by omega⟩
  case round =>
    obtain ⟨f, u, gf, v, L, rfl, hps, hL, hu, hf⟩ := hrel
    have hLl := len_of hL hTl
    have hms := hps.meas
    by_cases hlt : f < m
    · obtain ⟨u, rfl⟩ : ∃ u', u = u' + 1 := ⟨u - 1, by omega⟩
      obtain ⟨g, hg0, hg1⟩ : ∃ g : Nat, g = min p (m - f) ∧ min (p : Int) ((m : Int) - f) = (g : Int) := ⟨min p (m - f), rfl, by omega⟩
      have hgb : 1 ≤ g ∧ g ≤ 7 := by omega
      have hR : L ++ (picI f :: (mids f b g 8 1 ++ rows p b m u (f + p))) = T := by
        rw [← hL, hg0]
        conv => rhs; rw [rows, if_pos hlt]
      obtain ⟨R, hRR⟩ : ∃ R, R = rows p b m u (f + p) := ⟨_, rfl⟩
      rw [← hRR] at hR
      have HR0 := Lib.hid hRR
      clear hRR
      obtain ⟨k1, k2, k3, k4⟩ := hps.cells
      have HMS := Lib.hid hms
      have HP := Lib.hid hps
      have HR := Lib.hid hR
      have HL := Lib.hid hL
      have HG := Lib.hid hg0
      clear hps hR hL hg0 hms
      go_wp2_with fail
      refine (clo_I _ _ _ _ _ _ _ _ _ HP.out hLl (by omega)).mono ?_
      rintro e w2 hq
      obtain ⟨v2, rfl, hps⟩ := PS.more HP.out hq
      clear hq k1 k2 k3 k4 HP hg1
      have hR2 : (L ++ [picI f]) ++ (mids f b g 8 1 ++ R) = T := by rw [← HR.out]; simp
      have HP := Lib.hid hps
      have HR2 := Lib.hid hR2
      clear hps hR2
      go_wp2_with fail
      go_loopw [10] (fun t wr => ∃ (a u : Nat) (v : Value) (L : List Pic), t = .int .i64 a ∧ PS w wr w.heap.size w1.heap.size gf (cfgV wide high refs qp b p cabac slices pcm deblock poc bits) v L f ∧ L ++ (mids f b g u a ++ R) = T ∧ g ≤ a + u ∧ 1 ≤ a ∧ a ≤ 20) (fun t wr => 100 - (intOf t).toNat)
      case atStart => exact ⟨1, 8, v2, _, rfl, HP.out, HR2.out, by omega, by omega, by omega⟩
      case round =>
        clear HR2 HP HR HL
        obtain ⟨a, u2, v3, L3, rfl, hps, hL, hu2, ha1, ha2⟩ := hrel
        have hL3 := len_of hL hTl
        by_cases hag : a < g
        · obtain ⟨u2, rfl⟩ : ∃ u', u2 = u' + 1 := ⟨u2 - 1, by omega⟩
          obtain ⟨l, hl0, hl1⟩ : ∃ l : Nat, l = min (a + b) (g - 1) ∧ min ((a : Int) + b) ((g : Int) - 1) = (l : Int) := ⟨min (a + b) (g - 1), rfl, by omega⟩
          have hlb : a ≤ l ∧ l ≤ 7 := by omega
          have hR : L3 ++ (picP f l :: (betw f (l - a) a ++ (mids f b g u2 (a + b + 1) ++ R))) = T := by
            rw [← hL, hl0]
            conv => rhs; rw [mids, if_pos hag]
            simp
          obtain ⟨k1, k2, k3, k4⟩ := hps.cells
          have HP := Lib.hid hps
          have HR := Lib.hid hR
          have HL := Lib.hid hL
          have HG := Lib.hid hl0
          clear hps hR hL hl0
          go_wp2_with fail
          refine (clo_P _ _ _ _ _ _ _ _ _ l HP.out hL3 (by omega) (by omega)).mono ?_
          rintro e w4 hq
          obtain ⟨v4, rfl, hps⟩ := PS.more HP.out hq
          clear hq k1 k2 k3 k4 HP hl1
          have hR2 : (L3 ++ [picP f l]) ++ (betw f (l - a) a ++ (mids f b g u2 (a + b + 1) ++ R)) = T := by rw [← HR.out]; simp
          have HP := Lib.hid hps
          have HR2 := Lib.hid hR2
          clear hps hR2
          go_wp2_with fail
          go_loopw [12] (fun t wr => ∃ (k : Nat) (v : Value) (L : List Pic), t = .int .i64 k ∧ PS w wr w.heap.size w1.heap.size gf (cfgV wide high refs qp b p cabac slices pcm deblock poc bits) v L f ∧ L ++ (betw f (l - k) k ++ (mids f b g u2 (a + b + 1) ++ R)) = T ∧ a ≤ k ∧ k ≤ l) (fun t wr => 100 - (intOf t).toNat)
          case atStart => exact ⟨a, v4, _, rfl, HP.out, HR2.out, by omega, by omega⟩
          case round =>
            clear HR2 HP HR HL
            obtain ⟨k, v5, L5, rfl, hps, hL, hk1, hk2⟩ := hrel
            have hL5 := len_of hL hTl
            by_cases hkl : k < l
            · have hR : (L5 ++ [picB f k]) ++ (betw f (l - (k + 1)) (k + 1) ++ (mids f b g u2 (a + b + 1) ++ R)) = T := by
                rw [← hL, show l - k = (l - (k + 1)) + 1 by omega]
                simp [betw]
              have HP := Lib.hid hps
              have HR := Lib.hid hR
              clear hps hR hL
              go_wp2_with fail
              refine (clo_B _ _ _ _ _ _ _ _ _ k HP.out hL5 (by omega) (by omega)).mono ?_
              rintro e w6 hq
              obtain ⟨v6, rfl, hps⟩ := PS.more HP.out hq
              clear hq HP
              have HP := Lib.hid hps
              clear hps
              go_wp2_with fail
              go_roundw
              case rel => exact ⟨k + 1, v6, _, by go_num, HP.out, HR.out, by omega, by omega⟩
              case measure => simp [intOf]; omega
            · obtain rfl : k = l := by omega
              obtain ⟨k1, k2, k3, k4⟩ := hps.cells
              have HP := Lib.hid hps
              have HL := Lib.hid hL
              clear hps hL
              go_wp2_with fail
              go_roundw
              case rel => exact ⟨a + b + 1, u2, v5, L5, by go_num, HP.out, by rw [← HL.out, Nat.sub_self]; simp [betw], by omega, by omega, by omega⟩
              case measure => simp [intOf]; omega
        · have hR : L3 ++ R = T := by
            rw [← hL]
            cases u2 with
            | zero => simp [mids]
            | succ u2 => rw [mids, if_neg hag]; simp
          obtain ⟨k1, k2, k3, k4⟩ := hps.cells
          have hlt2 := hps.1.lt
          have hnx := PS.next (f + p) hps
          have hm2 := hnx.meas
          have HP := Lib.hid hnx
          have HR := Lib.hid hR
          have HM := Lib.hid hm2
          clear hps hR hL hnx hm2
          go_wp2_with fail
          go_roundw
          case rel => exact ⟨f + p, u, _, v3, L3, rfl, HP.out, by rw [← HR0.out]; exact HR.out, by omega, by omega⟩
          case measure => rw [HMS.out]; have := HM.out; simp at this; rw [this]; omega
    · have hR : L = T := by
        rw [← hL]
        cases u with
        | zero => simp [rows]
        | succ u => rw [rows, if_neg hlt]; simp
      subst hR
      obtain ⟨k1, k2, k3, k4⟩ := hps.cells
      have HP := Lib.hid hps
      clear hps hL hms
      go_wp2_with fail
      go_ret2
      exact ⟨v, rfl, HP.out.2.2.2.1, HP.out.2.2.2.2.1⟩

end Go.Proofs.Ytoniejneoibpoaa
