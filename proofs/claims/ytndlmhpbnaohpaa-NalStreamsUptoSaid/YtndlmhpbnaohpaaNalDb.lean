/- A unit as bytes: the document's. -/
import Derived.Test.YtndlmhpbnaohpaaNalD
namespace Go.Proofs.Ytndlmhpbnaohpaa
open Go.RowKit
set_option linter.unusedVariables false
set_option linter.unusedSimpArgs false

theorem pack1_no (r t : Int) (s : ByteArray) (w : World) (h : fitB r t = false) :
    Calls Try.prog 18 #[.agg #[.int .i64 r, .int .i64 t, .string s]] w fun e w' => e = .returned (.tuple #[.string ByteArray.empty, .int .i64 200]) ∧ Below w.heap.size w w' := by
  unfold fitB at h
  rw [decide_eq_false_iff_not] at h
  have hc : r < 0 ∨ (¬ r < 0 ∧ 3 < r) ∨ (¬ r < 0 ∧ ¬ 3 < r ∧ t < 1) ∨ (¬ r < 0 ∧ ¬ 3 < r ∧ ¬ t < 1 ∧ 31 < t) := by omega
  clear h
  rcases hc with h | ⟨h0, h⟩ | ⟨h0, h1, h⟩ | ⟨h0, h1, h2, h⟩
  all_goals
    go_enter Try.func18, Try.ntmps18
    go_wp2_with fail
    go_ret2
    exact ⟨rfl, (Below.refl _ _).alloc (Nat.le_refl _) _⟩
set_option maxHeartbeats 1600000 in
theorem pack1_yes (r t : Int) (s : ByteArray) (w : World) (h : fitB r t = true) (hs : s.size ≤ 4194304) :
    Calls Try.prog 18 #[.agg #[.int .i64 r, .int .i64 t, .string s]] w fun e w' => e = .returned (.tuple #[.string (txt (packL r t (bl s))), .int .i64 0]) ∧ Below w.heap.size w w' := by
  unfold fitB at h
  rw [decide_eq_true_iff] at h
  obtain ⟨h0, h1, h2, h3⟩ := h
  obtain ⟨b, hb⟩ : ∃ b : Nat, 32 * r + t = b := ⟨(32 * r + t).toNat, by omega⟩
  have hw1 : IntKind.u8.wrap (32 * r + t) = b := by
    rw [hb]
    simp [IntKind.wrap, IntKind.signed, IntKind.bits]
    omega
  have hw2 : IntKind.i64.wrap (32 * r) = 32 * r := (IntWalk.i64_left _).trans (IntWalk.wrap64_in (32 * r) ⟨by omega, by omega⟩)
  have hw3 : IntKind.i64.wrap (32 * r + t) = 32 * r + t := (IntWalk.i64_left _).trans (IntWalk.wrap64_in (32 * r + t) ⟨by omega, by omega⟩)
  have HBN : Hid ((32 * r + t).toNat = b ∧ b < 256) := Lib.hid ⟨by omega, by omega⟩
  obtain ⟨O, hO⟩ : ∃ O, O = txt [b] := ⟨_, rfl⟩
  have hOs : (O.size : Int) ≤ 8388608 := by rw [hO, txt_size]; simp
  have hcv : ∀ (B : Nat) w', w'.cell? ⟨B, 0, none⟩ = some (.int .u8 b) → (convert 51 9 (.slice (some ⟨B, 0, none⟩) 1 1)).run Try.prog w' = .ok (.string O) w' := by rw [hO]; exact one_txt b
  have HO := Lib.hid hO
  clear hb hO
  have hE := fun w => esc2_any s w hs
  have hpl : txt [b] ++ txt (esc (bl s)) = txt (packL r t (bl s)) := by rw [txt_append]; unfold packL; rw [HBN.out.1]; rfl
  obtain ⟨T, hT⟩ : ∃ T, T = txt (esc (bl s)) := ⟨_, rfl⟩
  have hTs : (T.size : Int) ≤ 8388608 := by
    rw [hT, txt_size]
    have := esc_len (bl s)
    rw [bl_len] at this
    omega
  rw [← hT] at hE hpl
  rw [← HO.out] at hpl
  have HPL := Lib.hid hpl
  have HE := Lib.hid hE
  clear hE hpl hT
  go_enter Try.func18, Try.ntmps18
  go_wp2_with fail
  go_region_with (go_at_call 14; refine (HE.out _).mono ?_; rintro e wh0 ⟨rfl, hbh0⟩; have hcl := fun p h => Below.cell (p := p) hbh0 h)
  all_goals
    go_wp2_with fail
    go_ret2
    have hb0 : Below w.heap.size w wh0 := Below.trans (by repeat (first | exact Below.refl _ _ | assumption | refine Below.alloc ?_ (by first | omega | (simp <;> omega)) _ | refine Below.drew ?_ | refine Below.setCell ?_ (by first | omega | (simp <;> omega)) _)) (hbh0.mono (by simp [go_sem] <;> omega))
    exact ⟨by (rw [← HPL.out]; rfl), by first | exact hb0 | exact hb0.alloc (by have := hb0.size; omega) _⟩
end Go.Proofs.Ytndlmhpbnaohpaa
