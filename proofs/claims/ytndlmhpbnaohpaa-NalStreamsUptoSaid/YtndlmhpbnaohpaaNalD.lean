/- A unit as bytes, bytes as a unit. -/
import Derived.Test.YtndlmhpbnaohpaaNalC
import Derived.Deep.RegionWith
namespace Go.Proofs.Ytndlmhpbnaohpaa
open Go.RowKit
set_option linter.unusedVariables false
set_option linter.unusedSimpArgs false

theorem num_any (x : Int) (w : World) : Calls Try.prog 15 #[.int .i64 x] w fun e w' => e = .returned (.int .i64 x) ∧ w = w' := by
  go_enter Try.func15, Try.ntmps15
  go_wp2_with fail
  go_ret
  exact ⟨rfl, rfl⟩

def fitB (r t : Int) : Bool := decide (0 ≤ r ∧ r ≤ 3 ∧ 1 ≤ t ∧ t ≤ 31)
def packL (r t : Int) (l : List Nat) : List Nat := (32 * r + t).toNat :: esc l
theorem one_txt (b B : Nat) (w' : World) (h : w'.cell? ⟨B, 0, none⟩ = some (.int .u8 b)) : (convert 51 9 (.slice (some ⟨B, 0, none⟩) 1 1)).run Try.prog w' = .ok (.string (txt [b])) w' := by
  have hr : Rd w' (B + 1) (some ⟨B, 0, none⟩) 1 fun k => .int .u8 (([b].getD k 0 : Nat) : Int) := fun _ => ⟨_, rfl, Nat.lt_succ_self _, fun k hk => by
    obtain rfl : k = 0 := by omega
    exact h⟩
  rw [run_str Try.underlying51 Try.underlying5 Try.underlying9 hr]
  rfl
theorem txt_append (a b : List Nat) : txt a ++ txt b = txt (a ++ b) := by
  apply ByteArray.ext
  simp [txt, strOfNums]
theorem pack0_no (r t : Int) (s : ByteArray) (w : World) (h : fitB r t = false) :
    Calls Try.prog 17 #[.agg #[.int .i64 r, .int .i64 t, .string s]] w fun e w' => e = .returned (.tuple #[.string ByteArray.empty, .int .i64 200]) ∧ Below w.heap.size w w' := by
  unfold fitB at h
  rw [decide_eq_false_iff_not] at h
  have hc : r < 0 ∨ (¬ r < 0 ∧ 3 < r) ∨ (¬ r < 0 ∧ ¬ 3 < r ∧ t < 1) ∨ (¬ r < 0 ∧ ¬ 3 < r ∧ ¬ t < 1 ∧ 31 < t) := by omega
  clear h
  rcases hc with h | ⟨h0, h⟩ | ⟨h0, h1, h⟩ | ⟨h0, h1, h2, h⟩
  all_goals
    go_enter Try.func17, Try.ntmps17
    go_wp2_with fail
    go_ret2
    exact ⟨rfl, (Below.refl _ _).alloc (Nat.le_refl _) _⟩
set_option maxHeartbeats 1600000 in
theorem pack0_yes (r t : Int) (s : ByteArray) (w : World) (h : fitB r t = true) (hs : s.size ≤ 4194304) :
    Calls Try.prog 17 #[.agg #[.int .i64 r, .int .i64 t, .string s]] w fun e w' => e = .returned (.tuple #[.string (txt (packL r t (bl s))), .int .i64 0]) ∧ Below w.heap.size w w' := by
  unfold fitB at h
  rw [decide_eq_true_iff] at h
  obtain ⟨h0, h1, h2, h3⟩ := h
  obtain ⟨b, hb⟩ : ∃ b : Nat, 32 * r + t = b := ⟨(32 * r + t).toNat, by omega⟩
  have hw1 : IntKind.u8.wrap (32 * r + t) = b := by
    rw [hb]
    simp [IntKind.wrap, IntKind.signed, IntKind.bits]
    omega
  have hw2 : IntKind.i64.wrap (32 * r) = 32 * r := (IntWalk.i64_left _).trans (IntWalk.wrap64_in (32 * r) ⟨by omega, by omega⟩)
  have hw3 : IntKind.i64.wrap (32 * r + t) = 32 * r + t := (IntWalk.i64_left _).trans (IntWalk.wrap64_in (32 * r + t) ⟨by omega, by omega⟩)
  have HBN : Hid ((32 * r + t).toNat = b ∧ b < 256) := Lib.hid ⟨by omega, by omega⟩
  obtain ⟨O, hO⟩ : ∃ O, O = txt [b] := ⟨_, rfl⟩
  have hOs : (O.size : Int) ≤ 8388608 := by rw [hO, txt_size]; simp
  have hcv : ∀ (B : Nat) w', w'.cell? ⟨B, 0, none⟩ = some (.int .u8 b) → (convert 51 9 (.slice (some ⟨B, 0, none⟩) 1 1)).run Try.prog w' = .ok (.string O) w' := by rw [hO]; exact one_txt b
  have HO := Lib.hid hO
  clear hb hO
  have hE := fun w => esc_any s w hs
  have hpl : txt [b] ++ txt (esc (bl s)) = txt (packL r t (bl s)) := by rw [txt_append]; unfold packL; rw [HBN.out.1]; rfl
  obtain ⟨T, hT⟩ : ∃ T, T = txt (esc (bl s)) := ⟨_, rfl⟩
  have hTs : (T.size : Int) ≤ 8388608 := by
    rw [hT, txt_size]
    have := esc_len (bl s)
    rw [bl_len] at this
    omega
  rw [← hT] at hE hpl
  rw [← HO.out] at hpl
  have HPL := Lib.hid hpl
  have HE := Lib.hid hE
  clear hE hpl hT
  go_enter Try.func17, Try.ntmps17
  go_wp2_with fail
  go_region_with (go_at_call 13; refine (HE.out _).mono ?_; rintro e wh0 ⟨rfl, hbh0⟩; have hcl := fun p h => Below.cell (p := p) hbh0 h)
  all_goals
    go_wp2_with fail
    go_ret2
    have hb0 : Below w.heap.size w wh0 := Below.trans (by repeat (first | exact Below.refl _ _ | assumption | refine Below.alloc ?_ (by first | omega | (simp <;> omega)) _ | refine Below.drew ?_ | refine Below.setCell ?_ (by first | omega | (simp <;> omega)) _)) (hbh0.mono (by simp [go_sem] <;> omega))
    exact ⟨by (rw [← HPL.out]; rfl), by first | exact hb0 | exact hb0.alloc (by have := hb0.size; omega) _⟩
end Go.Proofs.Ytndlmhpbnaohpaa
