/- The document's Plan: every configuration, however many frames. -/
import Derived.Test.YtoniejneoibpoaaPlanE
import Derived.Test.YtoniejneoibpoaaPlanH
namespace Go.Proofs.Ytoniejneoibpoaa
open Go.RowKit
set_option linter.unusedVariables false
set_option linter.unusedSimpArgs false
attribute [local go_sem] ite_max ite_min

theorem cells_new (w : World) (l : List Value) (t : TypeId) : ∀ (j : Nat) (u : Value), l[j]? = some u → (w.alloc (.cells l.toArray t)).cell? ((⟨w.heap.size, 0, none⟩ : Addr).add j) = some u := by
  intro j u hj
  rw [add_new, World.cell?_alloc_at _ _ _ _ rfl]
  simpa using hj

/-- The document's Plan in its middle. -/
def PR (w0 wr : World) (gc : Nat) (cs : Array Value) (v : Value) (L : List Pic) : Prop :=
  Bk wr gc 24 cs ∧ wr.ownsRow w0.heap.size 37 5 v L.length (cellsOf L) ∧ Below w0.heap.size w0 wr

theorem PR.more {w0 w w' : World} {gc : Nat} {cs : Array Value} {v v' : Value} {L : List Pic} {p : Pic} {o : Obj} (h : PR w0 w gc cs v L) (hown : w'.ownsRow w0.heap.size 37 5 v' (L.length + 1) (cellsOf L ++ p.cells)) (hg : (w.alloc o).grownBy w' v.ownBlock) :
    PR w0 w' gc cs v' (L ++ [p]) := by
  obtain ⟨h1, h2, h3⟩ := h
  refine ⟨(h1.alloc o).grown hg (fun q => h1.ne_own h2 (by decide) q.symm), ?_, (h3.alloc h3.size o).grown hg (by have := h3.size; simp; omega) (fun k hk => (h2.lt k hk).1)⟩
  rw [List.length_append, cellsOf_append, cellsOf_one]
  exact hown
theorem PR.size {w0 w : World} {gc : Nat} {cs : Array Value} {v : Value} {L : List Pic} (h : PR w0 w gc cs v L) : w0.heap.size ≤ w.heap.size := h.2.2.size

set_option maxRecDepth 100000 in
set_option maxHeartbeats 1600000 in
theorem plan2_no (wide high refs qp bs period : Int) (cabac : Bool) (slices : Int) (pcm deblock : Bool) (poc bits many : Int) (w : World)
    (h : mayB wide high refs qp bs period slices poc bits = false ∨ (mayB wide high refs qp bs period slices poc bits = true ∧ ¬ (0 ≤ many ∧ many ≤ 64))) :
    Calls Try.prog 20 #[.agg (cfgV wide high refs qp bs period cabac slices pcm deblock poc bits), .int .i64 many] w (Row w [] 2500) := by
  refine Calls.mono (R := fun e w' => e = .returned (.tuple #[.slice none 0 0, .int .i64 2500]) ∧ Below w.heap.size w w') ?_ (fun e w' q => row_no w w' e q)
  have hc := valid_any wide high refs qp bs period cabac slices pcm deblock poc bits
  unfold cfgV at hc ⊢
  have HC := Lib.hid hc
  clear hc
  rcases h with h | ⟨h, h2⟩
  · go_enter Try.func20, Try.ntmps20
    go_wp2_with fail
    refine (HC.out _).mono ?_
    rw [h]
    rintro e w1 ⟨rfl, hb⟩
    have HB := Lib.hid (((Below.refl w.heap.size w).alloc (Nat.le_refl _) _).trans (hb.mono (by simp)))
    clear hb h
    go_wp2_with fail
    go_ret2
    exact ⟨rfl, HB.out⟩
  · rcases (by omega : many < 0 ∨ (0 ≤ many ∧ 64 < many)) with h3 | ⟨h3, h4⟩
    all_goals
      clear h2
      go_enter Try.func20, Try.ntmps20
      go_wp2_with fail
      refine (HC.out _).mono ?_
      rw [h]
      rintro e w1 ⟨rfl, hb⟩
      have HB := Lib.hid (((Below.refl w.heap.size w).alloc (Nat.le_refl _) _).trans (hb.mono (by simp)))
      clear hb h
      go_wp2_with fail
      go_ret2
      exact ⟨rfl, HB.out⟩

set_option maxRecDepth 100000 in
set_option maxHeartbeats 3200000 in
theorem plan2_yes (wide high refs qp : Int) (b p : Nat) (cabac : Bool) (slices : Int) (pcm deblock : Bool) (poc bits : Int) (m : Nat) (w : World)
    (h : mayB wide high refs qp b p slices poc bits = true) (hb : b ≤ 2) (hp : 1 ≤ p ∧ p ≤ 7) (hm : m ≤ 64) :
    Calls Try.prog 20 #[.agg (cfgV wide high refs qp b p cabac slices pcm deblock poc bits), .int .i64 m] w (Row w (planned p b m) 0) := by
  obtain ⟨i0, hi, hz0, hz1, hz2⟩ := info_parts pic_info
  obtain ⟨T, hT⟩ : ∃ T, T = planned p b m := ⟨_, rfl⟩
  have hTl : T.length ≤ 1000 := by have := planned_len p b m hp.1; rw [hT]; omega
  rw [← hT]
  have HT := Lib.hid hT
  clear hT
  have hc := valid_any wide high refs qp b p cabac slices pcm deblock poc bits
  unfold cfgV at hc ⊢
  have HC := Lib.hid hc
  clear hc
  go_enter Try.func20, Try.ntmps20
  go_wp2_with fail
  refine (HC.out _).mono ?_
  rw [h]
  rintro e w1 ⟨rfl, hb1⟩
  have hs1 := hb1.size
  simp at hs1
  have HB := Lib.hid (((Below.refl w.heap.size w).alloc (Nat.le_refl _) _).trans (hb1.mono (by simp)))
  have HCf : Hid (Bk w1 w.heap.size 24 (cfgV wide high refs qp b p cabac slices pcm deblock poc bits)) := Lib.hid ((Bk.new _ _ _).go hb1)
  clear hb1 h HC
  go_wp2_with fail
  go_loopw [6, 7] (fun v t wr => ∃ (f u : Nat) (L : List Pic), t = .int .i64 f ∧ PR w wr w.heap.size (cfgV wide high refs qp b p cabac slices pcm deblock poc bits) v L ∧ L ++ rows p b m u f = T ∧ m ≤ f + u ∧ f ≤ 100) (fun _ t _ => 200 - (intOf t).toNat)
  case atStart => exact ⟨0, 65, [], rfl, ⟨HCf.out, World.ownsRow_nil _ _ _ _, HB.out⟩, by rw [HT.out]; rfl, by omega, by omega⟩
  case round =>
    obtain ⟨f, u, L, rfl, hps, hL, hu, hf⟩ := hrel
    have hLl := len_of hL hTl
    have hsz := hps.size
    by_cases hlt : f < m
    · obtain ⟨u, rfl⟩ : ∃ u', u = u' + 1 := ⟨u - 1, by omega⟩
      obtain ⟨g, hg0⟩ : ∃ g : Nat, g = min p (m - f) := ⟨min p (m - f), rfl⟩
      obtain ⟨t, ht0, ht1⟩ : ∃ t : Nat, t = f + g ∧ min (m : Int) ((f : Int) + p) = (t : Int) := ⟨f + g, rfl, by omega⟩
      have hgb : 1 ≤ g ∧ g ≤ 7 := by omega
      have htb : t ≤ 110 := by omega
      have hR : L ++ (picI f :: (mids f b g 8 1 ++ rows p b m u (f + p))) = T := by
        rw [← hL, hg0]
        conv => rhs; rw [rows, if_pos hlt]
      obtain ⟨R, hRR⟩ : ∃ R, R = rows p b m u (f + p) := ⟨_, rfl⟩
      rw [← hRR] at hR
      have HR0 := Lib.hid hRR
      clear hRR
      have k2 : wr.cell? ⟨w.heap.size, 5, none⟩ = some (.int .i64 p) := hps.1.cell 5
      have kl := hps.1.lt
      have HP := Lib.hid hps
      have HR := Lib.hid hR
      have HL := Lib.hid hL
      have HG := Lib.hid hg0
      have HT0 := Lib.hid ht0
      clear hps hR hL hg0 ht0
      go_wp2_with (at_builtin; refine wpList_append_own _ rfl (.tmp 36) (.tmp 39) 25 rfl w.heap.size 37 i0 _ 5 32 Try.underlying25 hi hz0 hz1 hz2 rfl (by decide) _ L.length (cellsOf L) rfl (HP.out.2.1.alloc _) ⟨wr.heap.size, 0, none⟩ 1 1 [.int .i64 f, .int .i64 2, .bool true, .bool true, .int .i64 0] rfl rfl (cells_new _ _ _) ?c2 (by unfold maxLen; omega) (by omega) (by simp; omega) ?_)
      case c2 => intro u hu; simp at hu; rcases hu with rfl | rfl | rfl | rfl | rfl <;> rfl
      intro v2 w2 hown hgr _
      have hps := PR.more (p := picI f) HP.out hown hgr
      clear hown hgr k2 HP ht1 kl
      have hR2 : (L ++ [picI f]) ++ (mids f b g 8 1 ++ R) = T := by rw [← HR.out]; simp
      have HP := Lib.hid hps
      have HR2 := Lib.hid hR2
      clear hps hR2
      go_wp2_with fail
      go_loopw [6, 9] (fun v s wr => ∃ (A a u : Nat) (L : List Pic), s = .int .i64 A ∧ A = f + a ∧ PR w wr w.heap.size (cfgV wide high refs qp b p cabac slices pcm deblock poc bits) v L ∧ L ++ (mids f b g u a ++ R) = T ∧ g ≤ a + u ∧ 1 ≤ a ∧ a ≤ 20) (fun _ s _ => 200 - (intOf s).toNat)
      case atStart => exact ⟨f + 1, 1, 8, _, by go_num, rfl, HP.out, HR2.out, by omega, by omega, by omega⟩
      case round =>
        clear HR2 HP HR HL
        obtain ⟨A, a, u2, L3, rfl, hA, hps, hL, hu2, ha1, ha2⟩ := hrel
        have hL3 := len_of hL hTl
        have hsz3 := hps.size
        have ht0 := HT0.out
        by_cases hag : a < g
        · obtain ⟨u2, rfl⟩ : ∃ u', u2 = u' + 1 := ⟨u2 - 1, by omega⟩
          obtain ⟨l, hl0⟩ : ∃ l : Nat, l = min (a + b) (g - 1) := ⟨min (a + b) (g - 1), rfl⟩
          have hlb : a ≤ l ∧ l ≤ 7 := by omega
          have hR : L3 ++ (picP f l :: (betw f (l - a) a ++ (mids f b g u2 (a + b + 1) ++ R))) = T := by
            rw [← hL, hl0]
            conv => rhs; rw [mids, if_pos hag]
            simp
          have hAt : A < t := by omega
          obtain ⟨M, hM0, hM1⟩ : ∃ M : Nat, M = f + l ∧ min (t : Int) ((A : Int) + b + 1) - 1 = (M : Int) := ⟨f + l, rfl, by omega⟩
          have hMf : f ≤ M ∧ M ≤ 120 := by omega
          have k2 : wr.cell? ⟨w.heap.size, 4, none⟩ = some (.int .i64 b) := hps.1.cell 4
          have kl := hps.1.lt
          have hA2 : A ≤ 130 := by omega
          have HP := Lib.hid hps
          have HR := Lib.hid hR
          have HL := Lib.hid hL
          have HG := Lib.hid hl0
          have HA := Lib.hid hA
          have HM := Lib.hid hM0
          clear hps hR hL hl0 hA hM0 ht0
          go_wp2_with (at_builtin; refine wpList_append_own _ rfl (.tmp 59) (.tmp 66) 25 rfl w.heap.size 37 i0 _ 5 32 Try.underlying25 hi hz0 hz1 hz2 rfl (by decide) _ L3.length (cellsOf L3) rfl (HP.out.2.1.alloc _) ⟨wr.heap.size, 0, none⟩ 1 1 [.int .i64 M, .int .i64 0, .bool true, .bool false, .int .i64 (2 * ((M : Int) - f))] rfl rfl (cells_new _ _ _) ?c3 (by unfold maxLen; omega) (by omega) (by simp; omega) ?_)
          case c3 => intro u hu; simp at hu; rcases hu with rfl | rfl | rfl | rfl | rfl <;> rfl
          intro v4 w4 hown hgr _
          have hpc : (picP f l).cells = [.int .i64 M, .int .i64 0, .bool true, .bool false, .int .i64 (2 * ((M : Int) - f))] := by
            have := HM.out
            simp [picP, Pic.cells, this]
            omega
          rw [← hpc] at hown
          have hps := PR.more (p := picP f l) HP.out hown hgr
          clear hown hgr k2 HP kl hpc hM1
          have hR2 : (L3 ++ [picP f l]) ++ (betw f (l - a) a ++ (mids f b g u2 (a + b + 1) ++ R)) = T := by rw [← HR.out]; simp
          have HP := Lib.hid hps
          have HR2 := Lib.hid hR2
          clear hps hR2
          go_wp2_with fail
          go_loopw [6, 11] (fun v s wr => ∃ (K k : Nat) (L : List Pic), s = .int .i64 K ∧ K = f + k ∧ PR w wr w.heap.size (cfgV wide high refs qp b p cabac slices pcm deblock poc bits) v L ∧ L ++ (betw f (l - k) k ++ (mids f b g u2 (a + b + 1) ++ R)) = T ∧ a ≤ k ∧ k ≤ l) (fun _ s _ => 200 - (intOf s).toNat)
          case atStart => exact ⟨A, a, _, rfl, HA.out, HP.out, HR2.out, by omega, by omega⟩
          case round =>
            clear HR2 HP HR HL
            obtain ⟨K, k, L5, rfl, hK, hps, hL, hk1, hk2⟩ := hrel
            have hL5 := len_of hL hTl
            have hsz5 := hps.size
            have hM0 := HM.out
            have hKf : f ≤ K ∧ K ≤ 130 := by omega
            by_cases hkl : k < l
            · have hR : (L5 ++ [picB f k]) ++ (betw f (l - (k + 1)) (k + 1) ++ (mids f b g u2 (a + b + 1) ++ R)) = T := by
                rw [← hL, show l - k = (l - (k + 1)) + 1 by omega]
                simp [betw]
              have hKM : K < M := by omega
              have HP := Lib.hid hps
              have HR := Lib.hid hR
              have HK := Lib.hid hK
              clear hps hR hL hM0 hK
              go_wp2_with (at_builtin; refine wpList_append_own _ rfl (.tmp 74) (.tmp 81) 25 rfl w.heap.size 37 i0 _ 5 32 Try.underlying25 hi hz0 hz1 hz2 rfl (by decide) _ L5.length (cellsOf L5) rfl (HP.out.2.1.alloc _) ⟨wr.heap.size, 0, none⟩ 1 1 [.int .i64 K, .int .i64 1, .bool false, .bool false, .int .i64 (2 * ((K : Int) - f))] rfl rfl (cells_new _ _ _) ?c4 (by unfold maxLen; omega) (by omega) (by simp; omega) ?_)
              case c4 => intro u hu; simp at hu; rcases hu with rfl | rfl | rfl | rfl | rfl <;> rfl
              intro v6 w6 hown hgr _
              have hpc : (picB f k).cells = [.int .i64 K, .int .i64 1, .bool false, .bool false, .int .i64 (2 * ((K : Int) - f))] := by
                have := HK.out
                simp [picB, Pic.cells, this]
                omega
              rw [← hpc] at hown
              have hps := PR.more (p := picB f k) HP.out hown hgr
              clear hown hgr hpc HP
              have HP := Lib.hid hps
              clear hps
              go_wp2_with fail
              go_roundw
              case rel => exact ⟨K + 1, k + 1, _, by go_num, by have := HK.out; omega, HP.out, HR.out, by omega, by omega⟩
              case measure => simp [intOf]; omega
            · obtain rfl : k = l := by omega
              have hKM : ¬ (K < M) := by omega
              have k2 : wr.cell? ⟨w.heap.size, 4, none⟩ = some (.int .i64 b) := hps.1.cell 4
              have HP := Lib.hid hps
              have HL := Lib.hid hL
              clear hps hL hM0 hK
              go_wp2_with fail
              go_roundw
              case rel => exact ⟨A + b + 1, a + b + 1, u2, L5, by go_num, by have := HA.out; omega, HP.out, by rw [← HL.out, Nat.sub_self]; simp [betw], by omega, by omega, by omega⟩
              case measure => simp [intOf]; omega
        · have hR : L3 ++ R = T := by
            rw [← hL]
            cases u2 with
            | zero => simp [mids]
            | succ u2 => rw [mids, if_neg hag]; simp
          have hAt : ¬ (A < t) := by omega
          have hA2 : A ≤ 130 := by omega
          have k2 : wr.cell? ⟨w.heap.size, 5, none⟩ = some (.int .i64 p) := hps.1.cell 5
          have HP := Lib.hid hps
          have HR := Lib.hid hR
          clear hps hR hL ht0 hA
          go_wp2_with fail
          go_roundw
          case rel => exact ⟨f + p, u, L3, by go_num, HP.out, by rw [← HR0.out]; exact HR.out, by omega, by omega⟩
          case measure => simp [intOf]; omega
    · have hR : L = T := by
        rw [← hL]
        cases u with
        | zero => simp [rows]
        | succ u => rw [rows, if_neg hlt]; simp
      subst hR
      have HP := Lib.hid hps
      clear hps hL
      go_wp2_with fail
      go_ret2
      exact ⟨_, rfl, HP.out.2.1, HP.out.2.2⟩

end Go.Proofs.Ytoniejneoibpoaa
