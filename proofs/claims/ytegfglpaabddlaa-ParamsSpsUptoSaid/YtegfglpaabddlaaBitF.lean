/- The program's Reader: last, More, Trail. -/
import Derived.Test.YtegfglpaabddlaaBitE
namespace Go.Proofs.Ytegfglpaabddlaa
open Go.RowKit
set_option linter.unusedVariables false
set_option linter.unusedSimpArgs false
attribute [local go_sem] and_1

theorem sbit_zero {s : ByteArray} {q : Nat} (h : gS s q = 0) (i : Nat) (h1 : 8 * q ≤ i) (h2 : i < 8 * q + 8) : sbit s i = false := by
  unfold sbit bitOf
  rw [show i / 8 = q by omega, h, Nat.zero_testBit]

set_option maxRecDepth 100000 in
set_option maxHeartbeats 800000 in
theorem last_any (g : Nat) (s : ByteArray) (w : World) (c0 : w.cell? ⟨g, 0, none⟩ = some (.string s)) (hs : s.size ≤ 140737488351232) :
    Calls Try.prog 79 #[.pointer (some ⟨g, 0, none⟩)] w fun e w' => e = .returned (.int .i64 (lastI (sbit s) (8 * s.size))) ∧ w = w' := by
  have C0 := Lib.hid c0
  have HS := Lib.hid hs
  go_enter Try.func79, Try.ntmps79
  go_wp2_with fail
  go_loop [3] (fun t => ∃ k : Nat, k ≤ 8 * s.size ∧ t = .int .i64 ((k : Int) - 1) ∧ lastI (sbit s) (8 * s.size) = lastI (sbit s) k) (fun t => (intOf t + 1).toNat)
  case atStart => exact ⟨8 * s.size, Nat.le_refl _, by go_num, rfl⟩
  case round =>
    obtain ⟨k, hk, rfl, hl⟩ := hrel
    rcases Nat.eq_zero_or_pos k with rfl | hpos
    · have HL := Lib.hid hl
      have e0 : ((0 : Nat) : Int) - 1 = -1 := rfl
      rw [e0]
      clear hl e0
      go_wp2_with fail
      go_ret
      exact ⟨by rw [HL.out]; rfl, rfl⟩
    · obtain ⟨p, rfl⟩ : ∃ p, k = p + 1 := ⟨k - 1, by omega⟩
      rw [show ((p + 1 : Nat) : Int) - 1 = p by omega]
      obtain ⟨q, hq⟩ : ∃ q : Nat, (p : Int) / 8 = q := ⟨p / 8, by omega⟩
      have hqs : q < s.size := by omega
      have hg := gS_at s q hqs
      have hpb : p ≤ 1125899906809856 := by omega
      obtain ⟨y, hy⟩ : ∃ y : Nat, y = gS s q := ⟨_, rfl⟩
      rw [← hy] at hg
      have HY := Lib.hid hy
      have HQ := Lib.hid hq
      by_cases hy0 : y = 0
      · have hy0' : ((y : Int) == 0) = true := by simp [hy0]
        obtain ⟨r, hr⟩ : ∃ r : Nat, (p : Int) - (p : Int) % 8 = r := ⟨p - p % 8, by omega⟩
        have hr8 : r = 8 * q := by omega
        have hlast : lastI (sbit s) (8 * s.size) = lastI (sbit s) r := by
          rw [hl, show p + 1 = r + (p + 1 - r) by omega]
          exact lastI_skip _ _ _ fun i h1 h2 => sbit_zero (q := q) (by omega) i (by omega) (by omega)
        have hrk : r ≤ 8 * s.size := by omega
        have hrp : r ≤ p := by omega
        have HL := Lib.hid hlast
        clear hl hlast hr8 hy hy0
        go_wp2_with fail
        go_round
        case rel => exact ⟨r, hrk, by go_num, HL.out⟩
        case measure => simp [intOf]; omega
      · have hy0' : ((y : Int) == 0) = false := by simp; omega
        have HB := bit_any g s p w C0.out HS.out (by omega)
        rw [lastI] at hl
        by_cases hb : sbit s p = true
        · rw [if_pos hb] at hl
          rw [hb] at HB
          have HB := Lib.hid HB
          have HL := Lib.hid hl
          clear hl hb hy hy0
          go_wp2_with fail
          refine HB.out.mono ?_
          rintro e w' ⟨rfl, rfl⟩
          go_wp2_with fail
          go_ret
          exact ⟨by rw [HL.out]; rfl, rfl⟩
        · rw [if_neg hb] at hl
          have hb0 : sbit s p = false := by simpa using hb
          rw [hb0] at HB
          have HB := Lib.hid HB
          have HL := Lib.hid hl
          clear hl hb hb0 hy hy0
          go_wp2_with fail
          refine HB.out.mono ?_
          rintro e w' ⟨rfl, rfl⟩
          go_wp2_with fail
          go_round
          case rel => exact ⟨p, by omega, rfl, HL.out⟩
          case measure => simp [intOf]

set_option maxRecDepth 100000 in
set_option maxHeartbeats 800000 in
theorem trail_any (g : Nat) (s : ByteArray) (a : Nat) (w : World) (h : Rr w g s a) (hs : s.size ≤ 140737488351232) (ha : a ≤ 8 * s.size) :
    Calls Try.prog 66 #[.pointer (some ⟨g, 0, none⟩)] w fun e w' => e = .returned (.int .i64 (trailR (sbit s) (8 * s.size) a).1) ∧ RPost w g s (trailR (sbit s) (8 * s.size) a).2 w' := by
  have H := Lib.hid h
  have c0 := h.s
  have c1 := h.a
  have f1 := h.f1
  have hb := lastI_bd (sbit s) (8 * s.size)
  have HL : Hid (∀ n, Calls Try.prog 79 #[.pointer (some ⟨g, 0, none⟩)] (w.drewN n) fun e w' => e = .returned (.int .i64 (lastI (sbit s) (8 * s.size))) ∧ w' = w.drewN n) := Lib.hid fun n => (last_any g s (w.drewN n) c0 hs).mono fun _ _ q => ⟨q.1, q.2.symm⟩
  have HF : Hid (∀ n, Calls Try.prog 70 #[.pointer (some ⟨g, 0, none⟩)] (w.drewN n) fun e w' => e = .returned (.int .i64 (8 * s.size - a)) ∧ ∃ m, w' = (w.drewN n).drewN m) := Lib.hid fun n => left_any g s a (w.drewN n) (Bk.drewN h n) hs ha
  unfold trailR
  obtain ⟨l, hl⟩ : ∃ l, l = lastI (sbit s) (8 * s.size) := ⟨_, rfl⟩
  rw [← hl] at HL hb ⊢
  clear h hl
  by_cases h1 : l = a
  · have h1' : (l != (a : Int)) = false := by simp [h1]
    by_cases h2 : 8 * s.size ≤ a + 8
    · rw [if_pos ⟨h1, h2⟩]
      have h3 : ¬ 8 < 8 * (s.size : Int) - a := by omega
      clear h1 h2
      go_enter Try.func66, Try.ntmps66
      go_wp2_with fail
      go_quiet ((first | (go_at_call 79; exact Calls.quiet_of_same (HL.out _)) | (go_at_call 70; exact Calls.quiet_of (HF.out _))))
      go_wp2_with fail
      go_ret
      refine ⟨rfl, ?_⟩
      have h9 := RPost.back (b := 8 * s.size) (RPost.drew (n := nq) H.out)
      rw [show ((8 * s.size : Nat) : Int) = 8 * (s.size : Int) by omega] at h9
      exact h9
    · rw [if_neg (fun q => h2 q.2)]
      have h3 : 8 < 8 * (s.size : Int) - a := by omega
      clear h1 h2
      go_enter Try.func66, Try.ntmps66
      go_wp2_with fail
      go_quiet ((first | (go_at_call 79; exact Calls.quiet_of_same (HL.out _)) | (go_at_call 70; exact Calls.quiet_of (HF.out _))))
      go_wp2_with fail
      go_ret
      exact ⟨rfl, RPost.drew H.out⟩
  · have h1' : (l != (a : Int)) = true := by simp [h1]
    rw [if_neg (fun q => h1 q.1)]
    clear h1
    go_enter Try.func66, Try.ntmps66
    go_wp2_with fail
    go_quiet ((first | (go_at_call 79; exact Calls.quiet_of_same (HL.out _)) | (go_at_call 70; exact Calls.quiet_of (HF.out _))))
    go_wp2_with fail
    go_ret
    exact ⟨rfl, RPost.drew H.out⟩
end Go.Proofs.Ytegfglpaabddlaa
