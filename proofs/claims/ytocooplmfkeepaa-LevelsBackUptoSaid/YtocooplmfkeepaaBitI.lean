/- The document's Reader: Se, Te, More, Trail; Open. -/
import Derived.Test.YtocooplmfkeepaaBitH
namespace Go.Proofs.Ytocooplmfkeepaa
open Go.RowKit
set_option linter.unusedVariables false
set_option linter.unusedSimpArgs false

theorem ueR_e0 {f : Nat → Bool} {N a : Nat} (ha : a ≤ N) : ((ueR f N a).e = 0 ∧ 0 ≤ (ueR f N a).x ∧ (ueR f N a).x ≤ 2147483646) ∨ ((ueR f N a).x = 0 ∧ ((ueR f N a).e = 100 ∨ (ueR f N a).e = 101)) := by
  have h := ueR_bd f N a ha
  rcases h.2.2.2.2 with q | q
  · exact .inl ⟨q, h.1, h.2.1⟩
  · exact .inr ⟨q.1, q.2.2⟩

theorem ser_any (g gB N : Nat) (f : Nat → Bool) (a : Nat) (w : World) (h : RR w g gB N f a) (hN : N ≤ 1125899906842624) (ha : a ≤ N) :
    Calls Try.prog 62 #[.pointer (some ⟨g, 0, none⟩)] w (Answers2 w g gB N f (seR f N a)) := by
  have HU := Lib.hid (uer_any g gB N f a w h hN ha)
  have hb := ueR_e0 (f := f) ha
  unfold seR
  obtain ⟨r, hr⟩ : ∃ r, r = ueR f N a := ⟨_, rfl⟩
  rw [← hr] at HU hb ⊢
  obtain ⟨x, ec, q⟩ := r
  simp only at hb
  clear hr h hN ha
  rcases hb with ⟨rfl, hx0, hx1⟩ | ⟨rfl, rfl | rfl⟩
  · by_cases hx : x % 2 = 1
    · have h2 : (x % 2 == 1) = true := by simp [hx]
      have HX : Hid (sgn x = (x + 1) / 2) := Lib.hid (if_pos hx)
      clear hx
      go_enter Try.func62, Try.ntmps62
      go_wp2_with fail
      refine HU.out.mono ?_
      rintro e w' ⟨rfl, hp⟩
      have HP := Lib.hid hp
      clear hp HU
      go_wp2_with fail
      go_ret2
      exact ⟨by show _ = Ending.returned (.tuple #[.int .i64 (sgn x), .int .i64 ((0 : Nat) : Int)]); rw [HX.out]; rfl, HP.out⟩
    · have h2 : (x % 2 == 1) = false := by simp; omega
      have h3 : (-x).tdiv 2 = -(x / 2) := by rw [Int.neg_tdiv, Int.tdiv_eq_ediv_of_nonneg hx0]
      have HX : Hid (sgn x = -(x / 2)) := Lib.hid (if_neg hx)
      clear hx
      go_enter Try.func62, Try.ntmps62
      go_wp2_with fail
      refine HU.out.mono ?_
      rintro e w' ⟨rfl, hp⟩
      have HP := Lib.hid hp
      clear hp HU
      go_wp2_with fail
      go_ret2
      exact ⟨by show _ = Ending.returned (.tuple #[.int .i64 (sgn x), .int .i64 ((0 : Nat) : Int)]); rw [HX.out]; rfl, HP.out⟩
  all_goals
    go_enter Try.func62, Try.ntmps62
    go_wp2_with fail
    refine HU.out.mono ?_
    rintro e w' ⟨rfl, hp⟩
    have HP := Lib.hid hp
    clear hp HU
    go_wp2_with fail
    go_ret2
    exact ⟨rfl, HP.out⟩

set_option maxHeartbeats 800000 in
theorem ter_any (g gB N : Nat) (f : Nat → Bool) (a : Nat) (most : Int) (w : World) (h : RR w g gB N f a) (hN : N ≤ 1125899906842624) (ha : a ≤ N) :
    Calls Try.prog 53 #[.pointer (some ⟨g, 0, none⟩), .int .i64 most] w (Answers2 w g gB N f (teR f N a most)) := by
  unfold teR
  have H := Lib.hid h
  have c1 : w.cell? ⟨g, 1, none⟩ = some (.int .i64 a) := by obtain ⟨⟨cp, hk⟩, hr⟩ := h; exact hk.cell 1
  by_cases h1 : most < 1
  · rw [if_pos h1]
    clear h
    go_enter Try.func53, Try.ntmps53
    go_wp2_with fail
    go_ret2
    exact ⟨rfl, H.out, Touch.refl _ _⟩
  rw [if_neg h1]
  by_cases h2 : most = 1
  · rw [if_pos h2]
    subst h2
    have HU := Lib.hid (bits2_any g gB N f a 1 w h hN ha)
    have hr1 : (bitsR f N a 1 = ⟨0, 100, a⟩) ∨ ∃ x : Nat, x ≤ 1 ∧ bitsR f N a 1 = ⟨x, 0, a + 1⟩ := by
      unfold bitsR
      rw [if_neg (by omega)]
      split
      · exact .inl rfl
      · exact .inr ⟨val f a 1, by have := val_lt f a 1; omega, rfl⟩
    rcases hr1 with hr | ⟨x, hx, hr⟩
    all_goals
      rw [hr] at HU ⊢
      clear hr h hN ha c1
      go_enter Try.func53, Try.ntmps53
      go_wp2_with fail
      refine HU.out.mono ?_
      rintro e w' ⟨rfl, hp⟩
      have HP := Lib.hid hp
      clear hp HU
      go_wp2_with fail
      go_ret2
      exact ⟨rfl, HP.out⟩
  · rw [if_neg h2]
    have h3 : (most == 1) = false := by simp [h2]
    have HU := Lib.hid (uer_any g gB N f a w h hN ha)
    have hb := ueR_e0 (f := f) ha
    obtain ⟨r, hr⟩ : ∃ r, r = ueR f N a := ⟨_, rfl⟩
    rw [← hr] at HU hb ⊢
    obtain ⟨x, ec, q⟩ := r
    simp only at hb
    clear hr h hN ha h2
    by_cases hx : most < x
    · show Calls _ _ _ _ (Answers2 w g gB N f (if most < x then _ else _))
      rw [if_pos hx]
      have he : ec = 0 := by rcases hb with h | h; exact h.1; omega
      subst he
      clear hb
      go_enter Try.func53, Try.ntmps53
      go_wp2_with fail
      refine HU.out.mono ?_
      rintro e w' ⟨rfl, hp⟩
      have f1 : w'.frozen? ⟨g, 1, none⟩ = false := by obtain ⟨⟨⟨cp, hk⟩, hr⟩, ht⟩ := hp; exact hk.frozen 1
      have k1 : w'.cell? ⟨g, 1, none⟩ = some (.int .i64 q) := by obtain ⟨⟨⟨cp, hk⟩, hr⟩, ht⟩ := hp; exact hk.cell 1
      have HP := Lib.hid hp
      clear hp HU
      go_wp2_with fail
      go_ret2
      exact ⟨rfl, HP.out.then (HP.out.1.set a)⟩
    · show Calls _ _ _ _ (Answers2 w g gB N f (if most < x then _ else _))
      rw [if_neg hx]
      rcases hb with ⟨rfl, hx0, hx1⟩ | ⟨rfl, rfl | rfl⟩
      all_goals
        go_enter Try.func53, Try.ntmps53
        go_wp2_with fail
        refine HU.out.mono ?_
        rintro e w' ⟨rfl, hp⟩
        have HP := Lib.hid hp
        clear hp HU
        go_wp2_with fail
        go_ret2
        exact ⟨rfl, HP.out⟩
end Go.Proofs.Ytocooplmfkeepaa
