/- The statement BitsRefuses: the walk. -/
import Derived.Test.YtbahmiiflkgigaaLawA
namespace Go.Proofs.Ytbahmiiflkgigaa
open Go.RowKit
set_option linter.unusedVariables false
set_option linter.unusedSimpArgs false
attribute [local go_sem] ite_max ite_min

theorem te_refuse (g : Nat) (w : World) : Calls Try.prog 18 #[.pointer (some ⟨g, 0, none⟩), .int .i64 5, .int .i64 4] w fun e w' => e = .returned (.int .i64 101) ∧ w = w' := te_no g 5 4 w (by omega)
theorem te_refuse0 (g : Nat) (w : World) : Calls Try.prog 18 #[.pointer (some ⟨g, 0, none⟩), .int .i64 0, .int .i64 0] w fun e w' => e = .returned (.int .i64 101) ∧ w = w' := te_no g 0 0 w (by omega)
theorem ue_refuse (g : Nat) (w : World) : Calls Try.prog 14 #[.pointer (some ⟨g, 0, none⟩), .int .i64 (-1)] w fun e w' => e = .returned (.int .i64 101) ∧ w = w' := ue_no g (-1) w (by omega)

set_option maxRecDepth 100000 in
set_option maxHeartbeats 6400000 in
theorem walk_BitsRefuses (x k : Int) (w : World) (_ : (Lit.int .i64 x).wf = true) (_ : (Lit.int .i64 k).wf = true) :
    Calls Try.prog 5 #[.int .i64 x, .int .i64 k] w fun e w' => e = .returned (.bool true) ∧ Below w.heap.size w w' := by
  have hab := tmod_bd k 40 (by omega)
  obtain ⟨a, ha⟩ : ∃ a, k.tmod 40 = a := ⟨_, rfl⟩
  rw [ha] at hab
  have hc : (0 ≤ a ∧ a ≤ 32 ∧ 0 ≤ x ∧ x < 2 ^ a.toNat) ∨ a < 0 ∨ (0 ≤ a ∧ 32 < a) ∨ (0 ≤ a ∧ a ≤ 32 ∧ x < 0) ∨ (0 ≤ a ∧ a ≤ 32 ∧ 0 ≤ x ∧ 2 ^ a.toNat ≤ x) := by omega
  rcases hc with h | h | h | h | h
  · have HF := Lib.hid h
    have h0 : 0 ≤ a := by omega
    have h1 : a ≤ 32 := by omega
    have h2 : 0 ≤ x := by omega
    obtain ⟨P, hP, hP2⟩ : ∃ P : Int, (0 ≤ a → a ≤ 32 → wrap64 (2 ^ a.toNat) = P) ∧ x < P := by
      by_cases hh : 0 ≤ a ∧ a ≤ 32
      · have hp : (2 : Int) ^ a.toNat ≤ 4294967296 := by
          have : (2 : Nat) ^ a.toNat ≤ 2 ^ 32 := Nat.pow_le_pow_right (by omega) (by omega)
          have e : (2 : Int) ^ a.toNat = ((2 ^ a.toNat : Nat) : Int) := by simp
          rw [e]
          omega
        have hp0 : (0 : Int) ≤ 2 ^ a.toNat := Int.pow_nonneg (by omega)
        exact ⟨2 ^ a.toNat, fun _ _ => IntWalk.wrap64_in _ ⟨by omega, by omega⟩, by first | trivial | omega⟩
      · exact ⟨x + 1, fun h1 h2 => absurd ⟨h1, h2⟩ hh, by first | trivial | omega⟩
    have hP1 := hP h0 h1
    clear h hP
    go_enter Try.func5, Try.ntmps5
    go_wp2_with fail
    refine (awake_any _).mono ?_
    rintro e w1 ⟨rfl, hb⟩
    have BB := Lib.hid hb
    clear hb
    go_wp2_with fail
    refine (st_new _).mono ?_
    rintro e w2 ⟨rfl, hw⟩
    have HW := Lib.hid hw
    clear hw
    go_wp2_with fail
    refine (st_bits HW.out (by omega) 1 3 (by omega) (by omega) (by omega) (by decide)).mono ?_
    rintro e w3 ⟨rfl, v, hw⟩
    have HW := Lib.hid hw
    clear hw
    go_wp2_with fail
    ((with_reducible refine (st_bits HW.out (by omega) x a h0 h1 h2 HF.out.2.2.2).mono ?_))
    rintro e w4 ⟨rfl, v, hw⟩
    have HW := Lib.hid hw
    clear hw
    obtain ⟨n, hn⟩ : ∃ n : Nat, ((([] ++ dig (1 : Int).toNat (3 : Int).toNat) ++ dig x.toNat a.toNat).length : Int) = n ∧ True := ⟨_, rfl, by first | trivial | (simp [dig_len])⟩
    obtain ⟨hn, hn3⟩ := hn
    have HN := Lib.hid hn
    skip
    clear hn 
    go_wp2_with (first | (go_at_call 12; refine (num_any _ _).mono ?_; rintro e w' ⟨rfl, rfl⟩) | (go_at_call 22; refine (st_len HW.out HN.out).mono ?_; rintro e w' ⟨rfl, rfl⟩))
    refine (te_refuse _ _).mono ?_
    rintro e w' ⟨rfl, rfl⟩
    go_wp2_with fail
    refine (ue_refuse _ _).mono ?_
    rintro e w' ⟨rfl, rfl⟩
    go_wp2_with fail
    refine (te_refuse0 _ _).mono ?_
    rintro e w' ⟨rfl, rfl⟩
    go_wp2_with (first | (go_at_call 12; refine (num_any _ _).mono ?_; rintro e w' ⟨rfl, rfl⟩) | (go_at_call 22; refine (st_len HW.out HN.out).mono ?_; rintro e w' ⟨rfl, rfl⟩))
    go_ret
    exact ⟨rfl, HW.out.from BB.out⟩
  · have HF := Lib.hid (show a < 0 ∨ 32 < a ∨ x < 0 ∨ 2 ^ a.toNat ≤ x from .inl h)
    have h0 : a < 0 := by omega
    have h1 : a < 0 := by omega
    have h2 : a < 0 := by omega
    obtain ⟨P, hP, hP2⟩ : ∃ P : Int, (0 ≤ a → a ≤ 32 → wrap64 (2 ^ a.toNat) = P) ∧ True := by
      by_cases hh : 0 ≤ a ∧ a ≤ 32
      · have hp : (2 : Int) ^ a.toNat ≤ 4294967296 := by
          have : (2 : Nat) ^ a.toNat ≤ 2 ^ 32 := Nat.pow_le_pow_right (by omega) (by omega)
          have e : (2 : Int) ^ a.toNat = ((2 ^ a.toNat : Nat) : Int) := by simp
          rw [e]
          omega
        have hp0 : (0 : Int) ≤ 2 ^ a.toNat := Int.pow_nonneg (by omega)
        exact ⟨2 ^ a.toNat, fun _ _ => IntWalk.wrap64_in _ ⟨by omega, by omega⟩, by first | trivial | omega⟩
      · exact ⟨0, fun h1 h2 => absurd ⟨h1, h2⟩ hh, by first | trivial | omega⟩
    have hP1 := trivial
    clear h hP
    go_enter Try.func5, Try.ntmps5
    go_wp2_with fail
    refine (awake_any _).mono ?_
    rintro e w1 ⟨rfl, hb⟩
    have BB := Lib.hid hb
    clear hb
    go_wp2_with fail
    refine (st_new _).mono ?_
    rintro e w2 ⟨rfl, hw⟩
    have HW := Lib.hid hw
    clear hw
    go_wp2_with fail
    refine (st_bits HW.out (by omega) 1 3 (by omega) (by omega) (by omega) (by decide)).mono ?_
    rintro e w3 ⟨rfl, v, hw⟩
    have HW := Lib.hid hw
    clear hw
    go_wp2_with fail
    ((with_reducible refine (bits_no _ x a _ HF.out).mono ?_))
    rintro e w' ⟨rfl, rfl⟩
    obtain ⟨n, hn⟩ : ∃ n : Nat, (([] ++ dig (1 : Int).toNat (3 : Int).toNat).length : Int) = n ∧ n = 3 := ⟨_, rfl, by first | trivial | (simp [dig_len])⟩
    obtain ⟨hn, hn3⟩ := hn
    have HN := Lib.hid hn
    subst hn3
    clear hn ha
    go_wp2_with (first | (go_at_call 12; refine (num_any _ _).mono ?_; rintro e w' ⟨rfl, rfl⟩) | (go_at_call 22; refine (st_len HW.out HN.out).mono ?_; rintro e w' ⟨rfl, rfl⟩))
    refine (te_refuse _ _).mono ?_
    rintro e w' ⟨rfl, rfl⟩
    go_wp2_with fail
    refine (ue_refuse _ _).mono ?_
    rintro e w' ⟨rfl, rfl⟩
    go_wp2_with fail
    refine (te_refuse0 _ _).mono ?_
    rintro e w' ⟨rfl, rfl⟩
    go_wp2_with (first | (go_at_call 12; refine (num_any _ _).mono ?_; rintro e w' ⟨rfl, rfl⟩) | (go_at_call 22; refine (st_len HW.out HN.out).mono ?_; rintro e w' ⟨rfl, rfl⟩))
    go_ret
    exact ⟨rfl, HW.out.from BB.out⟩
  · have HF := Lib.hid (show a < 0 ∨ 32 < a ∨ x < 0 ∨ 2 ^ a.toNat ≤ x from .inr (.inl h.2))
    have h0 : 32 < a := by omega
    have h1 : 0 ≤ a := by omega
    have h2 : 0 ≤ a := by omega
    obtain ⟨P, hP, hP2⟩ : ∃ P : Int, (0 ≤ a → a ≤ 32 → wrap64 (2 ^ a.toNat) = P) ∧ True := by
      by_cases hh : 0 ≤ a ∧ a ≤ 32
      · have hp : (2 : Int) ^ a.toNat ≤ 4294967296 := by
          have : (2 : Nat) ^ a.toNat ≤ 2 ^ 32 := Nat.pow_le_pow_right (by omega) (by omega)
          have e : (2 : Int) ^ a.toNat = ((2 ^ a.toNat : Nat) : Int) := by simp
          rw [e]
          omega
        have hp0 : (0 : Int) ≤ 2 ^ a.toNat := Int.pow_nonneg (by omega)
        exact ⟨2 ^ a.toNat, fun _ _ => IntWalk.wrap64_in _ ⟨by omega, by omega⟩, by first | trivial | omega⟩
      · exact ⟨0, fun h1 h2 => absurd ⟨h1, h2⟩ hh, by first | trivial | omega⟩
    have hP1 := trivial
    clear h hP
    go_enter Try.func5, Try.ntmps5
    go_wp2_with fail
    refine (awake_any _).mono ?_
    rintro e w1 ⟨rfl, hb⟩
    have BB := Lib.hid hb
    clear hb
    go_wp2_with fail
    refine (st_new _).mono ?_
    rintro e w2 ⟨rfl, hw⟩
    have HW := Lib.hid hw
    clear hw
    go_wp2_with fail
    refine (st_bits HW.out (by omega) 1 3 (by omega) (by omega) (by omega) (by decide)).mono ?_
    rintro e w3 ⟨rfl, v, hw⟩
    have HW := Lib.hid hw
    clear hw
    go_wp2_with fail
    ((with_reducible refine (bits_no _ x a _ HF.out).mono ?_))
    rintro e w' ⟨rfl, rfl⟩
    obtain ⟨n, hn⟩ : ∃ n : Nat, (([] ++ dig (1 : Int).toNat (3 : Int).toNat).length : Int) = n ∧ n = 3 := ⟨_, rfl, by first | trivial | (simp [dig_len])⟩
    obtain ⟨hn, hn3⟩ := hn
    have HN := Lib.hid hn
    subst hn3
    clear hn ha
    go_wp2_with (first | (go_at_call 12; refine (num_any _ _).mono ?_; rintro e w' ⟨rfl, rfl⟩) | (go_at_call 22; refine (st_len HW.out HN.out).mono ?_; rintro e w' ⟨rfl, rfl⟩))
    refine (te_refuse _ _).mono ?_
    rintro e w' ⟨rfl, rfl⟩
    go_wp2_with fail
    refine (ue_refuse _ _).mono ?_
    rintro e w' ⟨rfl, rfl⟩
    go_wp2_with fail
    refine (te_refuse0 _ _).mono ?_
    rintro e w' ⟨rfl, rfl⟩
    go_wp2_with (first | (go_at_call 12; refine (num_any _ _).mono ?_; rintro e w' ⟨rfl, rfl⟩) | (go_at_call 22; refine (st_len HW.out HN.out).mono ?_; rintro e w' ⟨rfl, rfl⟩))
    go_ret
    exact ⟨rfl, HW.out.from BB.out⟩
  · have HF := Lib.hid (show a < 0 ∨ 32 < a ∨ x < 0 ∨ 2 ^ a.toNat ≤ x from .inr (.inr (.inl h.2.2)))
    have h0 : 0 ≤ a := by omega
    have h1 : a ≤ 32 := by omega
    have h2 : x < 0 := by omega
    obtain ⟨P, hP, hP2⟩ : ∃ P : Int, (0 ≤ a → a ≤ 32 → wrap64 (2 ^ a.toNat) = P) ∧ True := by
      by_cases hh : 0 ≤ a ∧ a ≤ 32
      · have hp : (2 : Int) ^ a.toNat ≤ 4294967296 := by
          have : (2 : Nat) ^ a.toNat ≤ 2 ^ 32 := Nat.pow_le_pow_right (by omega) (by omega)
          have e : (2 : Int) ^ a.toNat = ((2 ^ a.toNat : Nat) : Int) := by simp
          rw [e]
          omega
        have hp0 : (0 : Int) ≤ 2 ^ a.toNat := Int.pow_nonneg (by omega)
        exact ⟨2 ^ a.toNat, fun _ _ => IntWalk.wrap64_in _ ⟨by omega, by omega⟩, by first | trivial | omega⟩
      · exact ⟨0, fun h1 h2 => absurd ⟨h1, h2⟩ hh, by first | trivial | omega⟩
    have hP1 := trivial
    clear h hP
    go_enter Try.func5, Try.ntmps5
    go_wp2_with fail
    refine (awake_any _).mono ?_
    rintro e w1 ⟨rfl, hb⟩
    have BB := Lib.hid hb
    clear hb
    go_wp2_with fail
    refine (st_new _).mono ?_
    rintro e w2 ⟨rfl, hw⟩
    have HW := Lib.hid hw
    clear hw
    go_wp2_with fail
    refine (st_bits HW.out (by omega) 1 3 (by omega) (by omega) (by omega) (by decide)).mono ?_
    rintro e w3 ⟨rfl, v, hw⟩
    have HW := Lib.hid hw
    clear hw
    go_wp2_with fail
    ((with_reducible refine (bits_no _ x a _ HF.out).mono ?_))
    rintro e w' ⟨rfl, rfl⟩
    obtain ⟨n, hn⟩ : ∃ n : Nat, (([] ++ dig (1 : Int).toNat (3 : Int).toNat).length : Int) = n ∧ n = 3 := ⟨_, rfl, by first | trivial | (simp [dig_len])⟩
    obtain ⟨hn, hn3⟩ := hn
    have HN := Lib.hid hn
    subst hn3
    clear hn ha
    go_wp2_with (first | (go_at_call 12; refine (num_any _ _).mono ?_; rintro e w' ⟨rfl, rfl⟩) | (go_at_call 22; refine (st_len HW.out HN.out).mono ?_; rintro e w' ⟨rfl, rfl⟩))
    refine (te_refuse _ _).mono ?_
    rintro e w' ⟨rfl, rfl⟩
    go_wp2_with fail
    refine (ue_refuse _ _).mono ?_
    rintro e w' ⟨rfl, rfl⟩
    go_wp2_with fail
    refine (te_refuse0 _ _).mono ?_
    rintro e w' ⟨rfl, rfl⟩
    go_wp2_with (first | (go_at_call 12; refine (num_any _ _).mono ?_; rintro e w' ⟨rfl, rfl⟩) | (go_at_call 22; refine (st_len HW.out HN.out).mono ?_; rintro e w' ⟨rfl, rfl⟩))
    go_ret
    exact ⟨rfl, HW.out.from BB.out⟩
  · have HF := Lib.hid (show a < 0 ∨ 32 < a ∨ x < 0 ∨ 2 ^ a.toNat ≤ x from .inr (.inr (.inr h.2.2.2)))
    have h0 : 0 ≤ a := by omega
    have h1 : a ≤ 32 := by omega
    have h2 : 0 ≤ x := by omega
    obtain ⟨P, hP, hP2⟩ : ∃ P : Int, (0 ≤ a → a ≤ 32 → wrap64 (2 ^ a.toNat) = P) ∧ P ≤ x := by
      by_cases hh : 0 ≤ a ∧ a ≤ 32
      · have hp : (2 : Int) ^ a.toNat ≤ 4294967296 := by
          have : (2 : Nat) ^ a.toNat ≤ 2 ^ 32 := Nat.pow_le_pow_right (by omega) (by omega)
          have e : (2 : Int) ^ a.toNat = ((2 ^ a.toNat : Nat) : Int) := by simp
          rw [e]
          omega
        have hp0 : (0 : Int) ≤ 2 ^ a.toNat := Int.pow_nonneg (by omega)
        exact ⟨2 ^ a.toNat, fun _ _ => IntWalk.wrap64_in _ ⟨by omega, by omega⟩, by first | trivial | omega⟩
      · exact ⟨x, fun h1 h2 => absurd ⟨h1, h2⟩ hh, by first | trivial | omega⟩
    have hP1 := hP h0 h1
    clear h hP
    go_enter Try.func5, Try.ntmps5
    go_wp2_with fail
    refine (awake_any _).mono ?_
    rintro e w1 ⟨rfl, hb⟩
    have BB := Lib.hid hb
    clear hb
    go_wp2_with fail
    refine (st_new _).mono ?_
    rintro e w2 ⟨rfl, hw⟩
    have HW := Lib.hid hw
    clear hw
    go_wp2_with fail
    refine (st_bits HW.out (by omega) 1 3 (by omega) (by omega) (by omega) (by decide)).mono ?_
    rintro e w3 ⟨rfl, v, hw⟩
    have HW := Lib.hid hw
    clear hw
    go_wp2_with fail
    ((with_reducible refine (bits_no _ x a _ HF.out).mono ?_))
    rintro e w' ⟨rfl, rfl⟩
    obtain ⟨n, hn⟩ : ∃ n : Nat, (([] ++ dig (1 : Int).toNat (3 : Int).toNat).length : Int) = n ∧ n = 3 := ⟨_, rfl, by first | trivial | (simp [dig_len])⟩
    obtain ⟨hn, hn3⟩ := hn
    have HN := Lib.hid hn
    subst hn3
    clear hn ha
    go_wp2_with (first | (go_at_call 12; refine (num_any _ _).mono ?_; rintro e w' ⟨rfl, rfl⟩) | (go_at_call 22; refine (st_len HW.out HN.out).mono ?_; rintro e w' ⟨rfl, rfl⟩))
    refine (te_refuse _ _).mono ?_
    rintro e w' ⟨rfl, rfl⟩
    go_wp2_with fail
    refine (ue_refuse _ _).mono ?_
    rintro e w' ⟨rfl, rfl⟩
    go_wp2_with fail
    refine (te_refuse0 _ _).mono ?_
    rintro e w' ⟨rfl, rfl⟩
    go_wp2_with (first | (go_at_call 12; refine (num_any _ _).mono ?_; rintro e w' ⟨rfl, rfl⟩) | (go_at_call 22; refine (st_len HW.out HN.out).mono ?_; rintro e w' ⟨rfl, rfl⟩))
    go_ret
    exact ⟨rfl, HW.out.from BB.out⟩
end Go.Proofs.Ytbahmiiflkgigaa
