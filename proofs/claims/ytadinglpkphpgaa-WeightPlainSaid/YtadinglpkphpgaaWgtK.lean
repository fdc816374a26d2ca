/- Implicit of both. -/
import Derived.Test.YtadinglpkphpgaaWgtJ
import Derived.Test.YtadinglpkphpgaaDirC
namespace Go.Proofs.Ytadinglpkphpgaa
open Go.RowKit
set_option linter.unusedVariables false

theorem scale_bd (a b c : Int) : -1024 ≤ Dir.scaleV a b c ∧ Dir.scaleV a b c ≤ 1023 := by
  unfold Dir.scaleV
  have := Dir.clip_bd ((Dir.diff a b * Dir.txOf (Dir.diff c b) + 32) / 64) (-1024) 1023 (by omega)
  split <;> omega
/-- is the weight by distances taken? -/
def impOk (a b c : Int) (long : Bool) : Bool := Dir.scaleB a b c && (!long && decide (-64 ≤ Dir.scaleV a b c / 4 ∧ Dir.scaleV a b c / 4 ≤ 128))
def imp0 (a b c : Int) (long : Bool) : Int := if impOk a b c long = true then 64 - Dir.scaleV a b c / 4 else 32
def imp1 (a b c : Int) (long : Bool) : Int := if impOk a b c long = true then Dir.scaleV a b c / 4 else 32
theorem imp_sum (a b c : Int) (long : Bool) : imp0 a b c long + imp1 a b c long = 64 := by
  unfold imp0 imp1
  split <;> omega
theorem imp_bd (a b c : Int) (long : Bool) : -64 ≤ imp1 a b c long ∧ imp1 a b c long ≤ 128 ∧ -64 ≤ imp0 a b c long ∧ imp0 a b c long ≤ 128 := by
  unfold imp0 imp1
  by_cases h : impOk a b c long = true
  · rw [if_pos h, if_pos h]
    unfold impOk at h
    rw [Bool.and_eq_true, Bool.and_eq_true, decide_eq_true_iff] at h
    omega
  · rw [if_neg h, if_neg h]
    omega

theorem imp_ways {V : Int} {B long : Bool} (P : Prop) (h1 : B = false → P) (h2 : B = true → long = true → P) (h3 : B = true → long = false → V / 4 < -64 → P) (h4 : B = true → long = false → 128 < V / 4 → P) (h5 : B = true → long = false → -64 ≤ V / 4 → V / 4 ≤ 128 → P) : P := by
  cases B
  · exact h1 rfl
  · cases long
    · rcases (by omega : V / 4 < -64 ∨ 128 < V / 4 ∨ (-64 ≤ V / 4 ∧ V / 4 ≤ 128)) with h | h | ⟨h, g⟩
      · exact h3 rfl rfl h
      · exact h4 rfl rfl h
      · exact h5 rfl rfl h g
    · exact h2 rfl rfl

set_option maxHeartbeats 1600000 in
theorem imp_any1 (a b c : Int) (long : Bool) (w : World) :
    Calls Try.prog 20 #[.int .i64 a, .int .i64 b, .int .i64 c, .bool long] w fun e w' => e = .returned (.tuple #[.int .i64 (imp0 a b c long), .int .i64 (imp1 a b c long)]) ∧ w = w' := by
  have hv := scale_bd a b c
  have h0 : imp0 a b c long = if (Dir.scaleB a b c && (!long && decide (-64 ≤ Dir.scaleV a b c / 4 ∧ Dir.scaleV a b c / 4 ≤ 128))) = true then 64 - Dir.scaleV a b c / 4 else 32 := rfl
  have h1 : imp1 a b c long = if (Dir.scaleB a b c && (!long && decide (-64 ≤ Dir.scaleV a b c / 4 ∧ Dir.scaleV a b c / 4 ≤ 128))) = true then Dir.scaleV a b c / 4 else 32 := rfl
  have HS := Dir.scale_any a b c
  generalize imp0 a b c long = X at *
  generalize imp1 a b c long = Y at *
  generalize Dir.scaleV a b c = V at *
  generalize Dir.scaleB a b c = B at *
  have KS := Lib.hid HS
  have H0 := Lib.hid h0
  have H1 := Lib.hid h1
  clear HS h0 h1
  refine imp_ways (V := V) (B := B) (long := long) _ ?_ ?_ ?_ ?_ ?_
  · rintro rfl
    go_enter Try.func20, Try.ntmps20
    go_wp2_with fail
    refine (KS.out _).mono ?_
    rintro e w' ⟨rfl, rfl⟩
    cases long <;>
    · go_wp2_with (go_at_call 23; refine (in_any _ _ _ _).mono ?_; rintro e w' ⟨rfl, rfl⟩)
      go_ret2
      exact ⟨ret_ii (by rw [H0.out]; rfl) (by rw [H1.out]; rfl), rfl⟩
  · rintro rfl rfl
    go_enter Try.func20, Try.ntmps20
    go_wp2_with fail
    refine (KS.out _).mono ?_
    rintro e w' ⟨rfl, rfl⟩
    go_wp2_with (go_at_call 23; refine (in_any _ _ _ _).mono ?_; rintro e w' ⟨rfl, rfl⟩)
    go_ret2
    exact ⟨ret_ii (by rw [H0.out]; rfl) (by rw [H1.out]; rfl), rfl⟩
  · rintro rfl rfl h
    go_enter Try.func20, Try.ntmps20
    go_wp2_with fail
    refine (KS.out _).mono ?_
    rintro e w' ⟨rfl, rfl⟩
    go_wp2_with (go_at_call 23; refine (in_no _ _ _ (by omega) _).mono ?_; rintro e w' ⟨rfl, rfl⟩)
    go_ret2
    exact ⟨ret_ii (by rw [H0.out, if_neg (by simp; omega)]) (by rw [H1.out, if_neg (by simp; omega)]), rfl⟩
  · rintro rfl rfl h
    go_enter Try.func20, Try.ntmps20
    go_wp2_with fail
    refine (KS.out _).mono ?_
    rintro e w' ⟨rfl, rfl⟩
    have h' : -64 ≤ V / 4 := by omega
    go_wp2_with (go_at_call 23; refine (in_no _ _ _ (by omega) _).mono ?_; rintro e w' ⟨rfl, rfl⟩)
    go_ret2
    exact ⟨ret_ii (by rw [H0.out, if_neg (by simp; omega)]) (by rw [H1.out, if_neg (by simp; omega)]), rfl⟩
  · rintro rfl rfl h h'
    go_enter Try.func20, Try.ntmps20
    go_wp2_with fail
    refine (KS.out _).mono ?_
    rintro e w' ⟨rfl, rfl⟩
    go_wp2_with (go_at_call 23; refine (in_yes _ _ _ (by omega) _).mono ?_; rintro e w' ⟨rfl, rfl⟩)
    go_ret2
    exact ⟨ret_ii (by rw [H0.out, if_pos (by simp; omega)]) (by rw [H1.out, if_pos (by simp; omega)]), rfl⟩
set_option maxHeartbeats 1600000 in
theorem imp_any2 (a b c : Int) (long : Bool) (w : World) :
    Calls Try.prog 21 #[.int .i64 a, .int .i64 b, .int .i64 c, .bool long] w fun e w' => e = .returned (.tuple #[.int .i64 (imp0 a b c long), .int .i64 (imp1 a b c long)]) ∧ w = w' := by
  have hv := scale_bd a b c
  have h0 : imp0 a b c long = if (Dir.scaleB a b c && (!long && decide (-64 ≤ Dir.scaleV a b c / 4 ∧ Dir.scaleV a b c / 4 ≤ 128))) = true then 64 - Dir.scaleV a b c / 4 else 32 := rfl
  have h1 : imp1 a b c long = if (Dir.scaleB a b c && (!long && decide (-64 ≤ Dir.scaleV a b c / 4 ∧ Dir.scaleV a b c / 4 ≤ 128))) = true then Dir.scaleV a b c / 4 else 32 := rfl
  have HS := Dir.scale2_any a b c
  generalize imp0 a b c long = X at *
  generalize imp1 a b c long = Y at *
  generalize Dir.scaleV a b c = V at *
  generalize Dir.scaleB a b c = B at *
  have KS := Lib.hid HS
  have H0 := Lib.hid h0
  have H1 := Lib.hid h1
  clear HS h0 h1
  refine imp_ways (V := V) (B := B) (long := long) _ ?_ ?_ ?_ ?_ ?_
  · rintro rfl
    go_enter Try.func21, Try.ntmps21
    go_wp2_with fail
    refine (KS.out _).mono ?_
    rintro e w' ⟨rfl, rfl⟩
    cases long <;>
    · go_wp2_with (go_at_call 23; refine (in_any _ _ _ _).mono ?_; rintro e w' ⟨rfl, rfl⟩)
      go_ret2
      exact ⟨ret_ii (by rw [H0.out]; rfl) (by rw [H1.out]; rfl), rfl⟩
  · rintro rfl rfl
    go_enter Try.func21, Try.ntmps21
    go_wp2_with fail
    refine (KS.out _).mono ?_
    rintro e w' ⟨rfl, rfl⟩
    go_wp2_with (go_at_call 23; refine (in_any _ _ _ _).mono ?_; rintro e w' ⟨rfl, rfl⟩)
    go_ret2
    exact ⟨ret_ii (by rw [H0.out]; rfl) (by rw [H1.out]; rfl), rfl⟩
  · rintro rfl rfl h
    go_enter Try.func21, Try.ntmps21
    go_wp2_with fail
    refine (KS.out _).mono ?_
    rintro e w' ⟨rfl, rfl⟩
    go_wp2_with (go_at_call 23; refine (in_no _ _ _ (by omega) _).mono ?_; rintro e w' ⟨rfl, rfl⟩)
    go_ret2
    exact ⟨ret_ii (by rw [H0.out, if_neg (by simp; omega)]) (by rw [H1.out, if_neg (by simp; omega)]), rfl⟩
  · rintro rfl rfl h
    go_enter Try.func21, Try.ntmps21
    go_wp2_with fail
    refine (KS.out _).mono ?_
    rintro e w' ⟨rfl, rfl⟩
    have h' : -64 ≤ V / 4 := by omega
    go_wp2_with (go_at_call 23; refine (in_no _ _ _ (by omega) _).mono ?_; rintro e w' ⟨rfl, rfl⟩)
    go_ret2
    exact ⟨ret_ii (by rw [H0.out, if_neg (by simp; omega)]) (by rw [H1.out, if_neg (by simp; omega)]), rfl⟩
  · rintro rfl rfl h h'
    go_enter Try.func21, Try.ntmps21
    go_wp2_with fail
    refine (KS.out _).mono ?_
    rintro e w' ⟨rfl, rfl⟩
    go_wp2_with (go_at_call 23; refine (in_yes _ _ _ (by omega) _).mono ?_; rintro e w' ⟨rfl, rfl⟩)
    go_ret2
    exact ⟨ret_ii (by rw [H0.out, if_pos (by simp; omega)]) (by rw [H1.out, if_pos (by simp; omega)]), rfl⟩

end Go.Proofs.Ytadinglpkphpgaa
