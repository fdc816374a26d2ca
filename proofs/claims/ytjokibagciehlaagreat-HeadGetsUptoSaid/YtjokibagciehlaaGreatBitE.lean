/- The program's Reader: its codes. -/
import Derived.Test.YtjokibagciehlaaGreatBitD
import Derived.Deep.CutBlock
namespace Go.Proofs.YtjokibagciehlaaGreat
open Go.RowKit
set_option linter.unusedVariables false
set_option linter.unusedSimpArgs false
attribute [local go_sem] and_1

def Answers (w : World) (g : Nat) (s : ByteArray) (r : Got) (e : Ending) (w' : World) : Prop := e = .returned (.tuple #[.int .i64 r.x, .int .i64 r.e]) ∧ RPost w g s r.at_ w'

set_option maxRecDepth 100000 in
set_option maxHeartbeats 1600000 in
theorem rue_any (g : Nat) (s : ByteArray) (a : Nat) (w : World) (h : Rr w g s a) (hs : s.size ≤ 140737488351232) (ha : a ≤ 8 * s.size) :
    Calls Tryz.prog 98 #[.pointer (some ⟨g, 0, none⟩)] w (Answers w g s (ueR (sbit s) (8 * s.size) a)) := by
  have H := Lib.hid h
  have HS := Lib.hid hs
  obtain ⟨N, hN⟩ : ∃ N, N = 8 * s.size := ⟨_, rfl⟩
  have hNb : N ≤ 1125899906809856 := by omega
  have HN := Lib.hid hN
  rw [← hN] at ha ⊢
  have HL : Hid (∀ m, Calls Tryz.prog 56 #[.pointer (some ⟨g, 0, none⟩)] (w.drewN m) fun e w' => e = .returned (.int .i64 ((N : Int) - a)) ∧ ∃ n, w' = (w.drewN m).drewN n) :=
    Lib.hid fun m => by
      have := left_any g s a (w.drewN m) (Bk.drewN h m) hs (by omega)
      rw [show (8 * (s.size : Int) - a) = (N : Int) - a by omega] at this
      exact this
  have c0 := h.s
  have c1 := h.a
  clear h hs hN
  go_enter Tryz.func98, Tryz.ntmps98
  go_wp2_with fail
  go_loopw [4] (fun t wr => ∃ k m : Nat, k ≤ 31 ∧ t = .int .i64 k ∧ wr = w.drewN m ∧ scan (sbit s) N a 31 0 = scan (sbit s) N a (31 - k) k) (fun t _ => 40 - (intOf t).toNat)
  case atStart => exact ⟨0, 0, by omega, rfl, rfl, rfl⟩
  case round =>
    obtain ⟨k, m, hk, rfl, rfl, hsc⟩ := hrel
    have hk0 : (0 : Int) ≤ k := Int.natCast_nonneg _
    by_cases h31 : 30 < k
    · obtain rfl : k = 31 := by omega
      have hu : ueR (sbit s) N a = ⟨0, 101, a⟩ := by unfold ueR; rw [hsc]; rfl
      have HU := Lib.hid hu
      clear hsc hu HL
      go_wp2_with fail
      go_ret2
      refine ⟨?_, ?_⟩
      · rw [HU.out]; rfl
      · rw [HU.out]; exact RPost.drew H.out
    · have hsc2 : scan (sbit s) N a (31 - k) k = if N ≤ a + k then .inr 100 else if sbit s (a + k) = true then .inl k else scan (sbit s) N a (31 - (k + 1)) (k + 1) := by
        rw [show 31 - k = (31 - (k + 1)) + 1 by omega, scan]
      by_cases hend : N ≤ a + k
      · have h5 : (N : Int) - a ≤ k := by omega
        have hu : ueR (sbit s) N a = ⟨0, 100, a⟩ := by unfold ueR; rw [hsc, hsc2, if_pos hend]
        have HU := Lib.hid hu
        clear hsc hsc2 hu
        go_wp2_with fail
        refine (HL.out m).mono ?_
        rintro e w' ⟨rfl, m2, hm⟩
        subst hm
        go_wp2_with fail
        go_ret2
        refine ⟨?_, ?_⟩
        · rw [HU.out]; rfl
        · rw [HU.out]; exact RPost.drew H.out
      · have h5 : (k : Int) < (N : Int) - a := by omega
        rw [if_neg hend] at hsc2
        have HB : Hid (∀ m, Calls Tryz.prog 89 #[.pointer (some ⟨g, 0, none⟩), .int .i64 ((a : Int) + k)] (w.drewN m) fun e w' => e = .returned (.int .i64 (((sbit s (a + k)).toNat : Nat) : Int)) ∧ w.drewN m = w') :=
          Lib.hid fun m => by
            have := bit_any g s (a + k) (w.drewN m) c0 HS.out (by have := HN.out; omega)
            rw [show ((a + k : Nat) : Int) = (a : Int) + k by omega] at this
            exact this
        by_cases hb : sbit s (a + k) = true
        · rw [if_pos hb] at hsc2
          rw [hb] at HB
          have hsc3 := hsc.trans hsc2
          have HSC := Lib.hid hsc3
          clear hsc hsc2 hsc3 hend hb
          go_wp2_with fail
          refine (HL.out m).mono ?_
          rintro e w' ⟨rfl, m2, hm⟩
          subst hm
          go_wp2_with fail
          refine (HB.out (m + m2)).mono ?_
          rintro e w' ⟨rfl, rfl⟩
          go_wp2_with fail
          refine (HL.out (m + m2)).mono ?_
          rintro e w' ⟨rfl, m3, hm⟩
          subst hm
          rw [World.drewN_drewN]
          by_cases hlast : N < a + (2 * k + 1)
          · have h6 : (N : Int) - a < 2 * (k : Int) + 1 := by omega
            have hu : ueR (sbit s) N a = ⟨0, 100, a⟩ := by unfold ueR; rw [HSC.out]; simp only; rw [if_pos hlast]
            have HU := Lib.hid hu
            clear hu hlast
            go_wp2_with fail
            go_ret2
            refine ⟨?_, ?_⟩
            · rw [HU.out]; rfl
            · rw [HU.out]; exact RPost.drew H.out
          · have h6 : 2 * (k : Int) + 1 ≤ (N : Int) - a := by omega
            have hu : ueR (sbit s) N a = ⟨(val (sbit s) a (2 * k + 1) : Int) - 1, 0, a + (2 * k + 1)⟩ := by unfold ueR; rw [HSC.out]; simp only; rw [if_neg hlast]
            have hval := ueR_val HSC.out
            have hlt := val_lt (sbit s) (a + k) (k + 1)
            have h31 : (2 : Nat) ^ (k + 1) ≤ 2 ^ 31 := Nat.pow_le_pow_right (by omega) (by omega)
            have hxb : val (sbit s) a (2 * k + 1) ≤ 2147483648 := by omega
            have HT := take_any g s a (2 * k + 1) (w.drewN (m + m2 + m3)) (Bk.drewN H.out _) HS.out (by omega) (by have := HN.out; omega)
            rw [show ((2 * k + 1 : Nat) : Int) = 2 * (k : Int) + 1 by omega] at HT
            have HU := Lib.hid hu
            obtain ⟨x, hx⟩ : ∃ x, x = val (sbit s) a (2 * k + 1) := ⟨_, rfl⟩
            rw [← hx] at HT hxb
            have HX := Lib.hid hx
            have HT := Lib.hid HT
            clear hu hlast hval hlt h31 hx
            go_wp2_with fail
            refine HT.out.mono ?_
            rintro e w2 ⟨rfl, hp⟩
            have HP := Lib.hid ((RPost.drew H.out).then hp)
            clear hp HT
            go_wp2_with fail
            go_ret2
            refine ⟨?_, ?_⟩
            · rw [HU.out]
              show _ = Ending.returned (.tuple #[.int .i64 ((val (sbit s) a (2 * k + 1) : Int) - 1), .int .i64 0])
              rw [← HX.out]
              rfl
            · rw [HU.out]; exact HP.out
        · have hb0 : sbit s (a + k) = false := by simpa using hb
          rw [if_neg hb] at hsc2
          rw [hb0] at HB
          have hsc3 := hsc.trans hsc2
          have HSC := Lib.hid hsc3
          clear hsc hsc2 hsc3 hend hb hb0
          go_wp2_with fail
          refine (HL.out m).mono ?_
          rintro e w' ⟨rfl, m2, hm⟩
          subst hm
          go_wp2_with fail
          refine (HB.out (m + m2)).mono ?_
          rintro e w' ⟨rfl, rfl⟩
          go_wp2_with fail
          go_roundw
          case rel => exact ⟨k + 1, m + m2, by omega, by go_num, rfl, HSC.out⟩
          case measure => simp [intOf]; omega

theorem rse_any (g : Nat) (s : ByteArray) (a : Nat) (w : World) (h : Rr w g s a) (hs : s.size ≤ 140737488351232) (ha : a ≤ 8 * s.size) :
    Calls Tryz.prog 108 #[.pointer (some ⟨g, 0, none⟩)] w (Answers w g s (seR (sbit s) (8 * s.size) a)) := by
  have HU := Lib.hid (rue_any g s a w h hs ha)
  have hb := ueR_bd (sbit s) (8 * s.size) a ha
  unfold seR
  obtain ⟨r, hr⟩ : ∃ r, r = ueR (sbit s) (8 * s.size) a := ⟨_, rfl⟩
  rw [← hr] at HU hb ⊢
  obtain ⟨x, ec, q⟩ := r
  have hx0 : 0 ≤ x := hb.1
  have hx1 : x ≤ 2147483646 := hb.2.1
  clear hr hb h hs ha
  by_cases hx : x % 2 = 1
  · have h2 : (x % 2 == 1) = true := by simp [hx]
    have HX : Hid (sgn x = (x + 1) / 2) := Lib.hid (if_pos hx)
    clear hx
    go_enter Tryz.func108, Tryz.ntmps108
    go_wp2_with fail
    refine HU.out.mono ?_
    rintro e w' ⟨rfl, hp⟩
    have HP := Lib.hid hp
    clear hp HU
    go_wp2_with fail
    go_ret2
    exact ⟨by show _ = Ending.returned (.tuple #[.int .i64 (sgn x), .int .i64 ec]); rw [HX.out]; rfl, HP.out⟩
  · have h2 : (x % 2 == 1) = false := by simp; omega
    have h3 : (-x).tdiv 2 = -(x / 2) := by rw [Int.neg_tdiv, Int.tdiv_eq_ediv_of_nonneg hx0]
    have HX : Hid (sgn x = -(x / 2)) := Lib.hid (if_neg hx)
    clear hx
    go_enter Tryz.func108, Tryz.ntmps108
    go_wp2_with fail
    refine HU.out.mono ?_
    rintro e w' ⟨rfl, hp⟩
    have HP := Lib.hid hp
    clear hp HU
    go_wp2_with fail
    go_ret2
    exact ⟨by show _ = Ending.returned (.tuple #[.int .i64 (sgn x), .int .i64 ec]); rw [HX.out]; rfl, HP.out⟩

theorem Rr.f1 {w : World} {g : Nat} {s : ByteArray} {a : Nat} (h : Rr w g s a) : w.frozen? ⟨g, 1, none⟩ = false := Bk.frozen h 1
theorem RPost.back {w w1 : World} {g : Nat} {s : ByteArray} {a b : Nat} (h : RPost w g s a w1) : RPost w g s b (w1.setCell ⟨g, 1, none⟩ (.int .i64 b)) :=
  ⟨Bk.set_ h.1 1 _, h.2.setCell (p := ⟨g, 1, none⟩) (fun _ => rfl) _⟩

theorem at_any (g : Nat) (s : ByteArray) (a : Nat) (w : World) (h : Rr w g s a) :
    Calls Tryz.prog 26 #[.pointer (some ⟨g, 0, none⟩)] w fun e w' => e = .returned (.int .i64 a) ∧ w = w' := by
  have c1 := h.a
  clear h
  go_enter Tryz.func26, Tryz.ntmps26
  go_wp2_with fail
  go_ret
  exact ⟨rfl, rfl⟩
theorem open_any (s : ByteArray) (w : World) : Calls Tryz.prog 19 #[.string s] w fun e w' => e = .returned (.pointer (some ⟨w.heap.size, 0, none⟩)) ∧ w.alloc (.cells #[.string s, .int .i64 0] 103) = w' := by
  go_enter Tryz.func19, Tryz.ntmps19
  go_wp2_with fail
  go_ret
  exact ⟨rfl, rfl⟩
theorem Rr.new (w : World) (s : ByteArray) : Rr (w.alloc (.cells #[.string s, .int .i64 0] 103)) w.heap.size s 0 := Bk.new _ _ _
end Go.Proofs.YtjokibagciehlaaGreat
