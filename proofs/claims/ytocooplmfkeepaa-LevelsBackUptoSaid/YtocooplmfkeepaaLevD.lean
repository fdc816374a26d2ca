/- Blocks of coefficients: the program's reader. -/
import Derived.Test.YtocooplmfkeepaaLevA
import Derived.Test.YtocooplmfkeepaaLevQ
namespace Go.Proofs.Ytocooplmfkeepaa
open Go.RowKit
set_option linter.unusedVariables false
set_option linter.unusedSimpArgs false
attribute [local go_sem] ite_max ite_min

/-- what is thrown -/
def thr (c : Int) : Ending := .panicked [{ v := .iface 77 (.agg #[.int .i64 c]), recovered := false }]
def T1 (w : World) (g : Nat) (s : ByteArray) (r : Except Int (Int × Nat)) (e : Ending) (w' : World) : Prop :=
  match r with
  | .ok (x, a) => e = .returned (.int .i64 x) ∧ RPost w g s a w'
  | .error c => e = thr c ∧ ∃ a, RPost w g s a w'

theorem got_ok (P : Value) (x : Int) (w : World) : Calls Try.prog 51 #[P, .int .i64 x, .int .i64 0] w fun e w' => e = .returned (.int .i64 x) ∧ w = w' := by
  go_enter Try.func51, Try.ntmps51
  go_wp2_with fail
  go_ret
  exact ⟨rfl, rfl⟩
theorem got_end (P : Value) (x : Int) (w : World) : Calls Try.prog 51 #[P, .int .i64 x, .int .i64 100] w fun e w' => e = thr 701 ∧ w = w' := by
  go_enter Try.func51, Try.ntmps51
  go_wp2_with fail
  exact ⟨rfl, rfl, rfl⟩
theorem got_form (P : Value) (x : Int) (w : World) : Calls Try.prog 51 #[P, .int .i64 x, .int .i64 101] w fun e w' => e = thr 700 ∧ w = w' := by
  go_enter Try.func51, Try.ntmps51
  go_wp2_with fail
  exact ⟨rfl, rfl, rfl⟩

theorem lrte_any (gr g : Nat) (s : ByteArray) (a most : Nat) (w : World) (h : Rr w g s a) (hs : s.size ≤ 140737488351232) (ha : a ≤ 8 * s.size) (hr : w.cell? ⟨gr, 0, none⟩ = some (.pointer (some ⟨g, 0, none⟩))) :
    Calls Try.prog 50 #[.pointer (some ⟨gr, 0, none⟩), .int .i64 most] w (T1 w g s ((getT (sbit s) (8 * s.size) most a).map fun r => ((r.1 : Int), r.2))) := by
  unfold getT
  by_cases h0 : most = 0
  · subst h0
    rw [if_pos rfl]
    have hq : RPost w g s a w := ⟨h, Touch.refl _ _⟩
    have HQ := Lib.hid hq
    clear h hr hq
    go_enter Try.func50, Try.ntmps50
    go_wp2_with fail
    go_ret
    exact ⟨rfl, HQ.out⟩
  · rw [if_neg h0]
    have hp := rte_any g s a most w h hs ha
    have hbd := teR_bd (sbit s) (8 * s.size) a most ha (by omega)
    have hm0 : ((most : Int) == 0) = false := by rw [beq_eq_false_iff_ne]; omega
    generalize teR (sbit s) (8 * s.size) a most = r at *
    obtain ⟨x, e, at_⟩ := r
    simp only at hp hbd ⊢
    have HP := Lib.hid hp
    clear hp h h0
    obtain ⟨_, _, hx, hbd⟩ := hbd
    rcases hbd with rfl | rfl | rfl
    · have hx0 := hx rfl
      rw [if_pos rfl]
      have HX : Hid (((x.toNat : Nat) : Int) = x) := Lib.hid (by omega)
      clear hx hx0
      go_enter Try.func50, Try.ntmps50
      go_wp2_with fail
      refine HP.out.mono ?_
      rintro e w1 ⟨rfl, hq⟩
      have HQ := Lib.hid hq
      clear hq HP
      go_wp2_with (go_at_call 51; refine (got_ok _ _ _).mono ?_; rintro e w' ⟨rfl, rfl⟩)
      go_ret
      exact ⟨by rw [HX.out]; rfl, HQ.out⟩
    · rw [if_neg (by decide)]
      clear hx
      go_enter Try.func50, Try.ntmps50
      go_wp2_with fail
      refine HP.out.mono ?_
      rintro e w1 ⟨rfl, hq⟩
      have HQ := Lib.hid hq
      clear hq HP
      go_wp2_with (go_at_call 51; refine (got_end _ _ _).mono ?_; rintro e w' ⟨rfl, rfl⟩; unfold thr)
      exact ⟨rfl, rfl, _, HQ.out⟩
    · rw [if_neg (by decide)]
      clear hx
      go_enter Try.func50, Try.ntmps50
      go_wp2_with fail
      refine HP.out.mono ?_
      rintro e w1 ⟨rfl, hq⟩
      have HQ := Lib.hid hq
      clear hq HP
      go_wp2_with (go_at_call 51; refine (got_form _ _ _).mono ?_; rintro e w' ⟨rfl, rfl⟩; unfold thr)
      exact ⟨rfl, rfl, _, HQ.out⟩

def nearB (nr : Bool) : Bool := nr
theorem lrv_any (gr g : Nat) (s : ByteArray) (a : Nat) (nr : Bool) (w : World) (h : Rr w g s a) (hs : s.size ≤ 140737488351232) (ha : a ≤ 8 * s.size) (hr : w.cell? ⟨gr, 0, none⟩ = some (.pointer (some ⟨g, 0, none⟩))) :
    Calls Try.prog 52 #[.pointer (some ⟨gr, 0, none⟩), .bool nr] w (T1 w g s (getV (sbit s) (8 * s.size) nr a)) := by
  unfold getV
  have hp := rse_any g s a w h hs ha
  have hbd := seR_bd (sbit s) (8 * s.size) a ha
  generalize seR (sbit s) (8 * s.size) a = r at *
  obtain ⟨x, e, at_⟩ := r
  simp only at hp hbd ⊢
  have HP := Lib.hid hp
  clear hp h
  obtain ⟨_, _, hx1, hx2, hbd⟩ := hbd
  rcases hbd with rfl | rfl | rfl
  · rw [if_pos rfl]
    by_cases h0 : x = 0
    · subst h0
      rw [if_pos rfl]
      go_enter Try.func52, Try.ntmps52
      go_wp2_with fail
      refine HP.out.mono ?_
      rintro e w1 ⟨rfl, hq⟩
      have HQ := Lib.hid hq
      clear hq HP
      go_wp2_with (go_at_call 51; refine (got_ok _ _ _).mono ?_; rintro e w' ⟨rfl, rfl⟩)
      exact ⟨rfl, rfl, _, HQ.out⟩
    · rw [if_neg h0]
      have hxb : (x == 0) = false := by rw [beq_eq_false_iff_ne]; exact h0
      have hways : nr = false ∨ (nr = true ∧ 0 < x) ∨ (nr = true ∧ ¬ 0 < x) := by
        cases nr
        · exact .inl rfl
        · by_cases h : 0 < x
          · exact .inr (.inl ⟨rfl, h⟩)
          · exact .inr (.inr ⟨rfl, h⟩)
      obtain ⟨c, hc⟩ : ∃ c, c = far nr x := ⟨_, rfl⟩
      rw [← hc]
      have hcc : (nr = false ∧ c = x) ∨ (nr = true ∧ 0 < x ∧ c = x + 1) ∨ (nr = true ∧ ¬ 0 < x ∧ c = x - 1) := by
        unfold far at hc
        rcases hways with h | ⟨h, h1⟩ | ⟨h, h1⟩
        · subst h; exact .inl ⟨rfl, by simpa using hc⟩
        · subst h; exact .inr (.inl ⟨rfl, h1, by rw [hc, if_pos rfl, if_pos h1]⟩)
        · subst h; exact .inr (.inr ⟨rfl, h1, by rw [hc, if_pos rfl, if_neg h1]⟩)
      clear hc hways h0
      rcases hcc with ⟨rfl, rfl⟩ | ⟨rfl, h1, rfl⟩ | ⟨rfl, h1, rfl⟩
      · by_cases hr1 : c < -32767
        · rw [if_pos (.inl hr1)]
          go_enter Try.func52, Try.ntmps52
          go_wp2_with fail
          refine HP.out.mono ?_
          rintro e w1 ⟨rfl, hq⟩
          have HQ := Lib.hid hq
          clear hq HP
          go_wp2_with (go_at_call 51; refine (got_ok _ _ _).mono ?_; rintro e w' ⟨rfl, rfl⟩)
          all_goals exact ⟨rfl, rfl, _, HQ.out⟩
        · by_cases hr2 : 32767 < c
          · rw [if_pos (.inr hr2)]
            go_enter Try.func52, Try.ntmps52
            go_wp2_with fail
            refine HP.out.mono ?_
            rintro e w1 ⟨rfl, hq⟩
            have HQ := Lib.hid hq
            clear hq HP
            go_wp2_with (go_at_call 51; refine (got_ok _ _ _).mono ?_; rintro e w' ⟨rfl, rfl⟩)
            all_goals exact ⟨rfl, rfl, _, HQ.out⟩
          · rw [if_neg (by omega)]
            go_enter Try.func52, Try.ntmps52
            go_wp2_with fail
            refine HP.out.mono ?_
            rintro e w1 ⟨rfl, hq⟩
            have HQ := Lib.hid hq
            clear hq HP
            go_wp2_with (go_at_call 51; refine (got_ok _ _ _).mono ?_; rintro e w' ⟨rfl, rfl⟩)
            go_ret
            exact ⟨rfl, HQ.out⟩
      · by_cases hr1 : x + 1 < -32767
        · exfalso; omega
        · by_cases hr2 : 32767 < x + 1
          · rw [if_pos (.inr hr2)]
            go_enter Try.func52, Try.ntmps52
            go_wp2_with fail
            refine HP.out.mono ?_
            rintro e w1 ⟨rfl, hq⟩
            have HQ := Lib.hid hq
            clear hq HP
            go_wp2_with (go_at_call 51; refine (got_ok _ _ _).mono ?_; rintro e w' ⟨rfl, rfl⟩)
            all_goals exact ⟨rfl, rfl, _, HQ.out⟩
          · rw [if_neg (by omega)]
            go_enter Try.func52, Try.ntmps52
            go_wp2_with fail
            refine HP.out.mono ?_
            rintro e w1 ⟨rfl, hq⟩
            have HQ := Lib.hid hq
            clear hq HP
            go_wp2_with (go_at_call 51; refine (got_ok _ _ _).mono ?_; rintro e w' ⟨rfl, rfl⟩)
            go_ret
            exact ⟨rfl, HQ.out⟩
      · by_cases hr1 : x - 1 < -32767
        · rw [if_pos (.inl hr1)]
          go_enter Try.func52, Try.ntmps52
          go_wp2_with fail
          refine HP.out.mono ?_
          rintro e w1 ⟨rfl, hq⟩
          have HQ := Lib.hid hq
          clear hq HP
          go_wp2_with (go_at_call 51; refine (got_ok _ _ _).mono ?_; rintro e w' ⟨rfl, rfl⟩)
          all_goals exact ⟨rfl, rfl, _, HQ.out⟩
        · by_cases hr2 : 32767 < x - 1
          · exfalso; omega
          · rw [if_neg (by omega)]
            go_enter Try.func52, Try.ntmps52
            go_wp2_with fail
            refine HP.out.mono ?_
            rintro e w1 ⟨rfl, hq⟩
            have HQ := Lib.hid hq
            clear hq HP
            go_wp2_with (go_at_call 51; refine (got_ok _ _ _).mono ?_; rintro e w' ⟨rfl, rfl⟩)
            go_ret
            exact ⟨rfl, HQ.out⟩
  · rw [if_neg (by decide)]
    go_enter Try.func52, Try.ntmps52
    go_wp2_with fail
    refine HP.out.mono ?_
    rintro e w1 ⟨rfl, hq⟩
    have HQ := Lib.hid hq
    clear hq HP
    go_wp2_with (go_at_call 51; refine (got_end _ _ _).mono ?_; rintro e w' ⟨rfl, rfl⟩; unfold thr)
    exact ⟨rfl, rfl, _, HQ.out⟩
  · rw [if_neg (by decide)]
    go_enter Try.func52, Try.ntmps52
    go_wp2_with fail
    refine HP.out.mono ?_
    rintro e w1 ⟨rfl, hq⟩
    have HQ := Lib.hid hq
    clear hq HP
    go_wp2_with (go_at_call 51; refine (got_form _ _ _).mono ?_; rintro e w' ⟨rfl, rfl⟩; unfold thr)
    exact ⟨rfl, rfl, _, HQ.out⟩
end Go.Proofs.Ytocooplmfkeepaa
