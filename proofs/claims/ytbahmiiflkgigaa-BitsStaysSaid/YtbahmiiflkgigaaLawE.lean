/- The statement BitsStays: the walk. -/
import Derived.Test.YtbahmiiflkgigaaLawA
namespace Go.Proofs.Ytbahmiiflkgigaa
open Go.RowKit
set_option linter.unusedVariables false
set_option linter.unusedSimpArgs false

set_option maxRecDepth 100000 in
set_option maxHeartbeats 6400000 in
theorem walk_BitsStays (s : ByteArray) (x : Int) (w : World) (hs : s.size ≤ 140737488351232) (_ : (Lit.int .i64 x).wf = true) :
    Calls Try.prog 6 #[.string s, .int .i64 x] w fun e w' => e = .returned (.bool true) ∧ Below w.heap.size w w' := by
  obtain ⟨N, hN⟩ : ∃ N, N = 8 * s.size := ⟨_, rfl⟩
  have hNb : N ≤ 1125899906809856 := by omega
  have hHN := Lib.hid hN
  have hNi : 8 * (s.size : Int) = N := by omega
  have hNw : IntKind.u64.wrap (N : Int) = N := by rw [u64_wrap]; omega
  by_cases h0 : 0 < s.size
  · have hu := u64_tmod_bd x N (by omega)
    obtain ⟨k, hk, hkN⟩ : ∃ k : Nat, (IntKind.u64.wrap x).tmod (N : Int) = k ∧ k < N := ⟨((IntKind.u64.wrap x).tmod (N : Int)).toNat, by omega, by omega⟩
    have hkb : k ≤ N := by omega
    have hn1 : ¬ (N : Int) = 0 := by omega
    have hn2 : ((N : Int) == 0) = false := by simp; omega
    have hn3 : ¬ N = 0 := by omega
    clear hN hu
    go_enter Try.func6, Try.ntmps6
    go_wp2_with fail
    refine (awake_any _).mono ?_
    rintro e w1 ⟨rfl, hb⟩
    have BB := Lib.hid hb
    clear hb
    go_wp2_with fail
    refine (st_open _ _).mono ?_
    rintro e w2 ⟨rfl, hr⟩
    have HR := Lib.hid hr
    clear hr
    go_wp2_with fail
    clear hn1 hn2 hn3 hk
    go_loopw [7] (fun t wr => ∃ i : Nat, i ≤ k ∧ t = .int .i64 i ∧ RStep w1 wr w1.heap.size s i) (fun t _ => k - (intOf t).toNat)
    case atStart => exact ⟨0, Nat.zero_le _, rfl, HR.out⟩
    case round =>
      clear HR
      obtain ⟨i, hi, rfl, hr⟩ := hrel
      have HR := Lib.hid hr
      by_cases hlt : i < k
      · have hq := st_rbits HR.out hs (by have := hHN.out; omega) 1
        have e1 : (bitsR (sbit s) (8 * s.size) i 1).at_ = i + 1 := by
          unfold bitsR
          rw [if_neg (by omega), if_neg (by have := hHN.out; omega)]
          rfl
        rw [e1] at hq
        have HQ := Lib.hid hq
        clear hq e1 hr
        go_wp2_with fail
        refine HQ.out.mono ?_
        rintro e w3 ⟨rfl, hr⟩
        have HR := Lib.hid hr
        clear hr
        go_wp2_with fail
        go_roundw
        case rel => exact ⟨i + 1, by omega, by go_num, HR.out⟩
        case measure => simp [intOf]; omega
      · obtain rfl : i = k := by omega
        have hat := st_at HR.out
        have hbd := ueR_bd (sbit s) (8 * s.size) i (by have := hHN.out; omega)
        have hue := st_rue HR.out hs (by have := hHN.out; omega)
        obtain ⟨r, hr'⟩ : ∃ r, r = ueR (sbit s) (8 * s.size) i := ⟨_, rfl⟩
        rw [← hr'] at hue hbd
        obtain ⟨y, e, q⟩ := r
        have HUR := Lib.hid hr'
        have hUE := Lib.hid hue
        have hAT := Lib.hid hat
        have he : e = 0 ∨ (q = i ∧ (e = 100 ∨ e = 101)) := by
          rcases hbd.2.2.2.2 with h | h
          · exact .inl h
          · exact .inr ⟨h.2.1, h.2.2⟩
        clear hr hr' hue hat hbd
        by_cases hleft : N - i < 32
        · have hl1 : (N : Int) - (i : Int) < 32 := by omega
          have hq := st_rbits HR.out hs (by have := hHN.out; omega) ((N : Int) - (i : Int) + 1)
          have e1 : bitsR (sbit s) (8 * s.size) i ((N : Int) - (i : Int) + 1) = ⟨0, 100, i⟩ := by
            unfold bitsR
            rw [if_neg (by omega), if_pos (by have := hHN.out; omega)]
          rw [e1] at hq
          have HQ := Lib.hid hq
          have hl2 : (N : Int) - (i : Int) + 1 ≤ 32 := by omega
          clear hq e1 hleft
          go_wp2_with (go_at_call 28; refine hAT.out.mono ?_; rintro e w' ⟨rfl, rfl⟩)
          ((with_reducible refine HQ.out.mono ?_))
          rintro e' w3 ⟨rfl, hr⟩
          have HR3 := Lib.hid hr
          have hue := st_rue hr hs (by have := hHN.out; omega)
          rw [← HUR.out] at hue
          have hUE := Lib.hid hue
          clear hr hue
          rcases he with rfl | ⟨rfl, rfl | rfl⟩
          all_goals
            go_wp2_with (first | (go_at_call 12; refine (num_any _ _).mono ?_; rintro e w' ⟨rfl, rfl⟩) | (go_at_call 28; refine (st_at HR3.out).mono ?_; rintro e w' ⟨rfl, rfl⟩))
            refine hUE.out.mono ?_
            rintro e w4 ⟨rfl, hr⟩
            have HR := Lib.hid hr
            clear hr
            go_wp2_with (first | (go_at_call 12; refine (num_any _ _).mono ?_; rintro e w' ⟨rfl, rfl⟩) | (go_at_call 28; refine (st_at HR.out).mono ?_; rintro e w' ⟨rfl, rfl⟩))
            go_ret
            exact ⟨rfl, HR.out.from BB.out⟩
        · have hl1 : ¬ (N : Int) - (i : Int) < 32 := by omega
          clear hleft
          rcases he with rfl | ⟨rfl, rfl | rfl⟩
          all_goals
            go_wp2_with (go_at_call 28; refine hAT.out.mono ?_; rintro e w' ⟨rfl, rfl⟩)
            refine hUE.out.mono ?_
            rintro e w3 ⟨rfl, hr⟩
            have HR := Lib.hid hr
            clear hr
            go_wp2_with (first | (go_at_call 12; refine (num_any _ _).mono ?_; rintro e w' ⟨rfl, rfl⟩) | (go_at_call 28; refine (st_at HR.out).mono ?_; rintro e w' ⟨rfl, rfl⟩))
            go_ret
            exact ⟨rfl, HR.out.from BB.out⟩
  · obtain hs0 : s.size = 0 := by omega
    have hN0 : N = 0 := by omega
    have hs0' := Lib.hid hs0
    skip
    skip
    skip
    clear hN hN0
    go_enter Try.func6, Try.ntmps6
    go_wp2_with fail
    refine (awake_any _).mono ?_
    rintro e w1 ⟨rfl, hb⟩
    have BB := Lib.hid hb
    clear hb
    go_wp2_with fail
    refine (st_open _ _).mono ?_
    rintro e w2 ⟨rfl, hr⟩
    have HR := Lib.hid hr
    clear hr
    go_wp2_with fail
    go_loopw [7] (fun t wr => ∃ i : Nat, i ≤ 0 ∧ t = .int .i64 i ∧ RStep w1 wr w1.heap.size s i) (fun t _ => 0 - (intOf t).toNat)
    case atStart => exact ⟨0, Nat.zero_le _, rfl, HR.out⟩
    case round =>
      clear HR
      obtain ⟨i, hi, rfl, hr⟩ := hrel
      have HR := Lib.hid hr
      by_cases hlt : i < 0
      · omega
      · obtain rfl : i = 0 := by omega
        have hat := st_at HR.out
        have hbd := ueR_bd (sbit s) (8 * s.size) 0 (by have := hHN.out; omega)
        have hue := st_rue HR.out hs (by have := hHN.out; omega)
        obtain ⟨r, hr'⟩ : ∃ r, r = ueR (sbit s) (8 * s.size) 0 := ⟨_, rfl⟩
        rw [← hr'] at hue hbd
        obtain ⟨y, e, q⟩ := r
        have HUR := Lib.hid hr'
        have hUE := Lib.hid hue
        have hAT := Lib.hid hat
        have he : e = 0 ∨ (q = 0 ∧ (e = 100 ∨ e = 101)) := by
          rcases hbd.2.2.2.2 with h | h
          · exact .inl h
          · exact .inr ⟨h.2.1, h.2.2⟩
        clear hr hr' hue hat hbd
        by_cases hleft : N - 0 < 32
        · have hl1 : (N : Int) - 0 < 32 := by omega
          have hq := st_rbits HR.out hs (by have := hHN.out; omega) (1)
          have e1 : bitsR (sbit s) (8 * s.size) 0 (1) = ⟨0, 100, 0⟩ := by
            unfold bitsR
            rw [if_neg (by omega), if_pos (by have := hHN.out; omega)]
          rw [e1] at hq
          have HQ := Lib.hid hq
          have hl2 : (N : Int) - 0 + 1 ≤ 32 := by omega
          clear hq e1 hleft
          go_wp2_with (go_at_call 28; refine hAT.out.mono ?_; rintro e w' ⟨rfl, rfl⟩)
          ((with_reducible refine HQ.out.mono ?_))
          rintro e' w3 ⟨rfl, hr⟩
          have HR3 := Lib.hid hr
          have hue := st_rue hr hs (by have := hHN.out; omega)
          rw [← HUR.out] at hue
          have hUE := Lib.hid hue
          clear hr hue
          rcases he with rfl | ⟨rfl, rfl | rfl⟩
          all_goals
            go_wp2_with (first | (go_at_call 12; refine (num_any _ _).mono ?_; rintro e w' ⟨rfl, rfl⟩) | (go_at_call 28; refine (st_at HR3.out).mono ?_; rintro e w' ⟨rfl, rfl⟩))
            refine hUE.out.mono ?_
            rintro e w4 ⟨rfl, hr⟩
            have HR := Lib.hid hr
            clear hr
            go_wp2_with (first | (go_at_call 12; refine (num_any _ _).mono ?_; rintro e w' ⟨rfl, rfl⟩) | (go_at_call 28; refine (st_at HR.out).mono ?_; rintro e w' ⟨rfl, rfl⟩))
            go_ret
            exact ⟨rfl, HR.out.from BB.out⟩
        · omega
end Go.Proofs.Ytbahmiiflkgigaa
