/- The document's Reader: Se, Te, More, Trail; Open. -/
import Derived.Test.YtegfglpaabddlaaBitH
namespace Go.Proofs.Ytegfglpaabddlaa
open Go.RowKit
set_option linter.unusedVariables false
set_option linter.unusedSimpArgs false

theorem ueR_e0 {f : Nat → Bool} {N a : Nat} (ha : a ≤ N) : ((ueR f N a).e = 0 ∧ 0 ≤ (ueR f N a).x ∧ (ueR f N a).x ≤ 2147483646) ∨ ((ueR f N a).x = 0 ∧ ((ueR f N a).e = 100 ∨ (ueR f N a).e = 101)) := by
  have h := ueR_bd f N a ha
  rcases h.2.2.2.2 with q | q
  · exact .inl ⟨q, h.1, h.2.1⟩
  · exact .inr ⟨q.1, q.2.2⟩

theorem ser_any (g gB N : Nat) (f : Nat → Bool) (a : Nat) (w : World) (h : RR w g gB N f a) (hN : N ≤ 1125899906842624) (ha : a ≤ N) :
    Calls Try.prog 68 #[.pointer (some ⟨g, 0, none⟩)] w (Answers2 w g gB N f (seR f N a)) := by
  have HU := Lib.hid (uer_any g gB N f a w h hN ha)
  have hb := ueR_e0 (f := f) ha
  unfold seR
  obtain ⟨r, hr⟩ : ∃ r, r = ueR f N a := ⟨_, rfl⟩
  rw [← hr] at HU hb ⊢
  obtain ⟨x, ec, q⟩ := r
  simp only at hb
  clear hr h hN ha
  rcases hb with ⟨rfl, hx0, hx1⟩ | ⟨rfl, rfl | rfl⟩
  · by_cases hx : x % 2 = 1
    · have h2 : (x % 2 == 1) = true := by simp [hx]
      have HX : Hid (sgn x = (x + 1) / 2) := Lib.hid (if_pos hx)
      clear hx
      go_enter Try.func68, Try.ntmps68
      go_wp2_with fail
      refine HU.out.mono ?_
      rintro e w' ⟨rfl, hp⟩
      have HP := Lib.hid hp
      clear hp HU
      go_wp2_with fail
      go_ret2
      exact ⟨by show _ = Ending.returned (.tuple #[.int .i64 (sgn x), .int .i64 ((0 : Nat) : Int)]); rw [HX.out]; rfl, HP.out⟩
    · have h2 : (x % 2 == 1) = false := by simp; omega
      have h3 : (-x).tdiv 2 = -(x / 2) := by rw [Int.neg_tdiv, Int.tdiv_eq_ediv_of_nonneg hx0]
      have HX : Hid (sgn x = -(x / 2)) := Lib.hid (if_neg hx)
      clear hx
      go_enter Try.func68, Try.ntmps68
      go_wp2_with fail
      refine HU.out.mono ?_
      rintro e w' ⟨rfl, hp⟩
      have HP := Lib.hid hp
      clear hp HU
      go_wp2_with fail
      go_ret2
      exact ⟨by show _ = Ending.returned (.tuple #[.int .i64 (sgn x), .int .i64 ((0 : Nat) : Int)]); rw [HX.out]; rfl, HP.out⟩
  all_goals
    go_enter Try.func68, Try.ntmps68
    go_wp2_with fail
    refine HU.out.mono ?_
    rintro e w' ⟨rfl, hp⟩
    have HP := Lib.hid hp
    clear hp HU
    go_wp2_with fail
    go_ret2
    exact ⟨rfl, HP.out⟩

end Go.Proofs.Ytegfglpaabddlaa
