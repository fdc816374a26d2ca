/- Two and Mean of both: every input. -/
import Derived.Test.YtadinglpkphpgaaWgtI
namespace Go.Proofs.Ytadinglpkphpgaa
open Go.RowKit
set_option linter.unusedVariables false
attribute [local go_sem] ite_max ite_min

def twoOk (s t o l : Int) (n m : Nat) (z y : Nat → Int) : Bool := decide (n = m) && (allS n z && (allS m y && decide ((0 ≤ l ∧ l ≤ 7) ∧ (-128 ≤ s ∧ s ≤ 191) ∧ (-128 ≤ t ∧ t ≤ 191) ∧ -256 ≤ o ∧ o ≤ 255)))
def twoL (s t o l x y : Int) : Int := twoF s t o (((2 ^ l.toNat : Nat)) : Int) (((2 ^ (l.toNat + 1) : Nat)) : Int) x y
def meanOk (n m : Nat) (z y : Nat → Int) : Bool := decide (n = m) && (allS n z && allS m y)

theorem two_ways {s t o l : Int} {n m : Nat} {z y : Nat → Int} (hk : twoOk s t o l n m z y = false) :
    ((n : Int) != (m : Int)) = true ∨ (n = m ∧ allS n z = false) ∨ (n = m ∧ allS n z = true ∧ allS m y = false) ∨ (n = m ∧ allS n z = true ∧ allS m y = true ∧ ¬ (0 ≤ l ∧ l ≤ 7)) ∨
    (n = m ∧ allS n z = true ∧ allS m y = true ∧ (0 ≤ l ∧ l ≤ 7) ∧ ¬ (-128 ≤ s ∧ s ≤ 191)) ∨ (n = m ∧ allS n z = true ∧ allS m y = true ∧ (0 ≤ l ∧ l ≤ 7) ∧ (-128 ≤ s ∧ s ≤ 191) ∧ ¬ (-128 ≤ t ∧ t ≤ 191)) ∨
    (n = m ∧ allS n z = true ∧ allS m y = true ∧ (0 ≤ l ∧ l ≤ 7) ∧ (-128 ≤ s ∧ s ≤ 191) ∧ (-128 ≤ t ∧ t ≤ 191) ∧ ¬ (-256 ≤ o ∧ o ≤ 255)) := by
  unfold twoOk at hk
  by_cases h1 : n = m
  · cases h2 : allS n z
    · exact .inr (.inl ⟨h1, rfl⟩)
    · cases h3 : allS m y
      · exact .inr (.inr (.inl ⟨h1, rfl, rfl⟩))
      · rw [h2, h3, decide_eq_true h1, Bool.true_and, Bool.true_and, Bool.true_and, decide_eq_false_iff_not] at hk
        simp only [h1, true_and]
        omega
  · left
    simp
    omega
theorem mean_ways {n m : Nat} {z y : Nat → Int} (hk : meanOk n m z y = false) :
    ((n : Int) != (m : Int)) = true ∨ (n = m ∧ allS n z = false) ∨ (n = m ∧ allS n z = true ∧ allS m y = false) := by
  unfold meanOk at hk
  by_cases h1 : n = m
  · cases h2 : allS n z
    · exact .inr (.inl ⟨h1, rfl⟩)
    · cases h3 : allS m y
      · exact .inr (.inr ⟨h1, rfl, rfl⟩)
      · rw [h2, h3, decide_eq_true h1] at hk
        cases hk
  · left
    simp
    omega

set_option maxHeartbeats 1600000 in
theorem two_no (A C : Option Addr) (n m c d : Nat) (z y : Nat → Int) (s t o l : Int) (w : World) (h : Ri w w.heap.size A n z) (g : Ri w w.heap.size C m y) (hn : n * 8 ≤ 140737488355328) (hm : m * 8 ≤ 140737488355328) (hk : twoOk s t o l n m z y = false) :
    Calls Try.prog 11 #[.slice A n c, .slice C m d, .int .i64 s, .int .i64 t, .int .i64 o, .int .i64 l] w fun e w' => e = .returned (.tuple #[.slice none 0 0, .int .i64 1300]) ∧ w = w' := by
  rcases two_ways hk with h1 | ⟨rfl, h2⟩ | ⟨rfl, h2, h3⟩ | ⟨rfl, h2, h3, h4⟩ | ⟨rfl, h2, h3, h4, h5⟩ | ⟨rfl, h2, h3, h4, h5, h6⟩ | ⟨rfl, h2, h3, h4, h5, h6, h7⟩ <;> clear hk
  · go_enter Try.func11, Try.ntmps11
    go_wp2_with fail
    go_ret2
    exact ⟨rfl, rfl⟩
  · have hne : ((n : Int) != (n : Int)) = false := by simp
    go_enter Try.func11, Try.ntmps11
    go_wp2_with fail
    refine (samples_no A n c w.heap.size z _ h (by omega) h2).mono ?_
    rintro e w' ⟨rfl, rfl⟩
    go_wp2_with fail
    go_ret2
    exact ⟨rfl, rfl⟩
  · have hne : ((n : Int) != (n : Int)) = false := by simp
    go_enter Try.func11, Try.ntmps11
    go_wp2_with fail
    refine (samples_yes A n c w.heap.size z _ h (by omega) h2).mono ?_
    rintro e w' ⟨rfl, rfl⟩
    go_wp2_with fail
    refine (samples_no C n d w.heap.size y _ g (by omega) h3).mono ?_
    rintro e w' ⟨rfl, rfl⟩
    go_wp2_with fail
    go_ret2
    exact ⟨rfl, rfl⟩
  · have hne : ((n : Int) != (n : Int)) = false := by simp
    go_enter Try.func11, Try.ntmps11
    go_wp2_with fail
    refine (samples_yes A n c w.heap.size z _ h (by omega) h2).mono ?_
    rintro e w' ⟨rfl, rfl⟩
    go_wp2_with fail
    refine (samples_yes C n d w.heap.size y _ g (by omega) h3).mono ?_
    rintro e w' ⟨rfl, rfl⟩
    go_wp2_with fail
    refine (in_no _ _ _ h4 _).mono ?_
    rintro e w' ⟨rfl, rfl⟩
    go_wp2_with fail
    go_ret2
    exact ⟨rfl, rfl⟩
  · have hne : ((n : Int) != (n : Int)) = false := by simp
    go_enter Try.func11, Try.ntmps11
    go_wp2_with fail
    refine (samples_yes A n c w.heap.size z _ h (by omega) h2).mono ?_
    rintro e w' ⟨rfl, rfl⟩
    go_wp2_with fail
    refine (samples_yes C n d w.heap.size y _ g (by omega) h3).mono ?_
    rintro e w' ⟨rfl, rfl⟩
    go_wp2_with fail
    refine (in_yes _ _ _ h4 _).mono ?_
    rintro e w' ⟨rfl, rfl⟩
    go_wp2_with fail
    refine (in_no _ _ _ h5 _).mono ?_
    rintro e w' ⟨rfl, rfl⟩
    go_wp2_with fail
    go_ret2
    exact ⟨rfl, rfl⟩
  · have hne : ((n : Int) != (n : Int)) = false := by simp
    go_enter Try.func11, Try.ntmps11
    go_wp2_with fail
    refine (samples_yes A n c w.heap.size z _ h (by omega) h2).mono ?_
    rintro e w' ⟨rfl, rfl⟩
    go_wp2_with fail
    refine (samples_yes C n d w.heap.size y _ g (by omega) h3).mono ?_
    rintro e w' ⟨rfl, rfl⟩
    go_wp2_with fail
    refine (in_yes _ _ _ h4 _).mono ?_
    rintro e w' ⟨rfl, rfl⟩
    go_wp2_with fail
    refine (in_yes _ _ _ h5 _).mono ?_
    rintro e w' ⟨rfl, rfl⟩
    go_wp2_with fail
    refine (in_no _ _ _ h6 _).mono ?_
    rintro e w' ⟨rfl, rfl⟩
    go_wp2_with fail
    go_ret2
    exact ⟨rfl, rfl⟩
  · have hne : ((n : Int) != (n : Int)) = false := by simp
    go_enter Try.func11, Try.ntmps11
    go_wp2_with fail
    refine (samples_yes A n c w.heap.size z _ h (by omega) h2).mono ?_
    rintro e w' ⟨rfl, rfl⟩
    go_wp2_with fail
    refine (samples_yes C n d w.heap.size y _ g (by omega) h3).mono ?_
    rintro e w' ⟨rfl, rfl⟩
    go_wp2_with fail
    refine (in_yes _ _ _ h4 _).mono ?_
    rintro e w' ⟨rfl, rfl⟩
    go_wp2_with fail
    refine (in_yes _ _ _ h5 _).mono ?_
    rintro e w' ⟨rfl, rfl⟩
    go_wp2_with fail
    refine (in_yes _ _ _ h6 _).mono ?_
    rintro e w' ⟨rfl, rfl⟩
    go_wp2_with fail
    refine (in_no _ _ _ h7 _).mono ?_
    rintro e w' ⟨rfl, rfl⟩
    go_wp2_with fail
    go_ret2
    exact ⟨rfl, rfl⟩

theorem two_any (A C : Option Addr) (n m c d : Nat) (z y : Nat → Int) (s t o l : Int) (w : World) (h : Ri w w.heap.size A n z) (g : Ri w w.heap.size C m y) (hn : n * 8 ≤ 140737488355328) (hm : m * 8 ≤ 140737488355328) :
    Calls Try.prog 11 #[.slice A n c, .slice C m d, .int .i64 s, .int .i64 t, .int .i64 o, .int .i64 l] w (Gives w (many (twoOk s t o l n m z y) n) (fun k => twoL s t o l (z k) (y k)) (code (twoOk s t o l n m z y))) := by
  cases hk : twoOk s t o l n m z y
  · exact (two_no A C n m c d z y s t o l w h g hn hm hk).mono fun e w' q => gives_no w _ e w' q
  · have hk' := hk
    unfold twoOk at hk'
    rw [Bool.and_eq_true, Bool.and_eq_true, Bool.and_eq_true, decide_eq_true_iff, decide_eq_true_iff] at hk'
    obtain ⟨rfl, h2, h3, h4, h5, h6, h7⟩ := hk'
    rcases l_cases l h4 with rfl | rfl | rfl | rfl | rfl | rfl | rfl | rfl
    · exact two_yes0 A C n c d z y s t o w h g hn h5 h6 h7 h2 h3
    · exact two_yes1 A C n c d z y s t o w h g hn h5 h6 h7 h2 h3
    · exact two_yes2 A C n c d z y s t o w h g hn h5 h6 h7 h2 h3
    · exact two_yes3 A C n c d z y s t o w h g hn h5 h6 h7 h2 h3
    · exact two_yes4 A C n c d z y s t o w h g hn h5 h6 h7 h2 h3
    · exact two_yes5 A C n c d z y s t o w h g hn h5 h6 h7 h2 h3
    · exact two_yes6 A C n c d z y s t o w h g hn h5 h6 h7 h2 h3
    · exact two_yes7 A C n c d z y s t o w h g hn h5 h6 h7 h2 h3

set_option maxHeartbeats 1600000 in
theorem two2_no (A C : Option Addr) (n m c d : Nat) (z y : Nat → Int) (s t o l : Int) (w : World) (h : Ri w w.heap.size A n z) (g : Ri w w.heap.size C m y) (hn : n * 8 ≤ 140737488355328) (hm : m * 8 ≤ 140737488355328) (hk : twoOk s t o l n m z y = false) :
    Calls Try.prog 12 #[.slice A n c, .slice C m d, .int .i64 s, .int .i64 t, .int .i64 o, .int .i64 l] w fun e w' => e = .returned (.tuple #[.slice none 0 0, .int .i64 1300]) ∧ w = w' := by
  rcases two_ways hk with h1 | ⟨rfl, h2⟩ | ⟨rfl, h2, h3⟩ | ⟨rfl, h2, h3, h4⟩ | ⟨rfl, h2, h3, h4, h5⟩ | ⟨rfl, h2, h3, h4, h5, h6⟩ | ⟨rfl, h2, h3, h4, h5, h6, h7⟩ <;> clear hk
  · go_enter Try.func12, Try.ntmps12
    go_wp2_with fail
    go_ret2
    exact ⟨rfl, rfl⟩
  · have hne : ((n : Int) != (n : Int)) = false := by simp
    go_enter Try.func12, Try.ntmps12
    go_wp2_with fail
    refine (samples2_no A n c w.heap.size z _ h (by omega) h2).mono ?_
    rintro e w' ⟨rfl, rfl⟩
    go_wp2_with fail
    go_ret2
    exact ⟨rfl, rfl⟩
  · have hne : ((n : Int) != (n : Int)) = false := by simp
    go_enter Try.func12, Try.ntmps12
    go_wp2_with fail
    refine (samples2_yes A n c w.heap.size z _ h (by omega) h2).mono ?_
    rintro e w' ⟨rfl, rfl⟩
    go_wp2_with fail
    refine (samples2_no C n d w.heap.size y _ g (by omega) h3).mono ?_
    rintro e w' ⟨rfl, rfl⟩
    go_wp2_with fail
    go_ret2
    exact ⟨rfl, rfl⟩
  · rcases (by omega : l < 0 ∨ (0 ≤ l ∧ 7 < l)) with q | q
    all_goals
      have hne : ((n : Int) != (n : Int)) = false := by simp
      go_enter Try.func12, Try.ntmps12
      go_wp2_with fail
      refine (samples2_yes A n c w.heap.size z _ h (by omega) h2).mono ?_
      rintro e w' ⟨rfl, rfl⟩
      go_wp2_with fail
      refine (samples2_yes C n d w.heap.size y _ g (by omega) h3).mono ?_
      rintro e w' ⟨rfl, rfl⟩
      go_wp2_with fail
      go_ret2
      exact ⟨rfl, rfl⟩
  · rcases (by omega : min s t < -128 ∨ (-128 ≤ min s t ∧ 191 < max s t)) with q | q
    all_goals
      have hne : ((n : Int) != (n : Int)) = false := by simp
      go_enter Try.func12, Try.ntmps12
      go_wp2_with fail
      refine (samples2_yes A n c w.heap.size z _ h (by omega) h2).mono ?_
      rintro e w' ⟨rfl, rfl⟩
      go_wp2_with fail
      refine (samples2_yes C n d w.heap.size y _ g (by omega) h3).mono ?_
      rintro e w' ⟨rfl, rfl⟩
      go_wp2_with fail
      go_ret2
      exact ⟨rfl, rfl⟩
  · rcases (by omega : min s t < -128 ∨ (-128 ≤ min s t ∧ 191 < max s t)) with q | q
    all_goals
      have hne : ((n : Int) != (n : Int)) = false := by simp
      go_enter Try.func12, Try.ntmps12
      go_wp2_with fail
      refine (samples2_yes A n c w.heap.size z _ h (by omega) h2).mono ?_
      rintro e w' ⟨rfl, rfl⟩
      go_wp2_with fail
      refine (samples2_yes C n d w.heap.size y _ g (by omega) h3).mono ?_
      rintro e w' ⟨rfl, rfl⟩
      go_wp2_with fail
      go_ret2
      exact ⟨rfl, rfl⟩
  · have q1 : -128 ≤ min s t := by omega
    have q2 : max s t ≤ 191 := by omega
    rcases (by omega : o < -256 ∨ (-256 ≤ o ∧ 255 < o)) with q | q
    all_goals
      have hne : ((n : Int) != (n : Int)) = false := by simp
      go_enter Try.func12, Try.ntmps12
      go_wp2_with fail
      refine (samples2_yes A n c w.heap.size z _ h (by omega) h2).mono ?_
      rintro e w' ⟨rfl, rfl⟩
      go_wp2_with fail
      refine (samples2_yes C n d w.heap.size y _ g (by omega) h3).mono ?_
      rintro e w' ⟨rfl, rfl⟩
      go_wp2_with fail
      go_ret2
      exact ⟨rfl, rfl⟩

theorem two2_any (A C : Option Addr) (n m c d : Nat) (z y : Nat → Int) (s t o l : Int) (w : World) (h : Ri w w.heap.size A n z) (g : Ri w w.heap.size C m y) (hn : n * 8 ≤ 140737488355328) (hm : m * 8 ≤ 140737488355328) :
    Calls Try.prog 12 #[.slice A n c, .slice C m d, .int .i64 s, .int .i64 t, .int .i64 o, .int .i64 l] w (Gives w (many (twoOk s t o l n m z y) n) (fun k => twoL s t o l (z k) (y k)) (code (twoOk s t o l n m z y))) := by
  cases hk : twoOk s t o l n m z y
  · exact (two2_no A C n m c d z y s t o l w h g hn hm hk).mono fun e w' q => gives_no w _ e w' q
  · have hk' := hk
    unfold twoOk at hk'
    rw [Bool.and_eq_true, Bool.and_eq_true, Bool.and_eq_true, decide_eq_true_iff, decide_eq_true_iff] at hk'
    obtain ⟨rfl, h2, h3, h4, h5, h6, h7⟩ := hk'
    rcases l_cases l h4 with rfl | rfl | rfl | rfl | rfl | rfl | rfl | rfl
    · exact two2_yes0 A C n c d z y s t o w h g hn h5 h6 h7 h2 h3
    · exact two2_yes1 A C n c d z y s t o w h g hn h5 h6 h7 h2 h3
    · exact two2_yes2 A C n c d z y s t o w h g hn h5 h6 h7 h2 h3
    · exact two2_yes3 A C n c d z y s t o w h g hn h5 h6 h7 h2 h3
    · exact two2_yes4 A C n c d z y s t o w h g hn h5 h6 h7 h2 h3
    · exact two2_yes5 A C n c d z y s t o w h g hn h5 h6 h7 h2 h3
    · exact two2_yes6 A C n c d z y s t o w h g hn h5 h6 h7 h2 h3
    · exact two2_yes7 A C n c d z y s t o w h g hn h5 h6 h7 h2 h3

set_option maxHeartbeats 1600000 in
theorem mean_no (A C : Option Addr) (n m c d : Nat) (z y : Nat → Int) (w : World) (h : Ri w w.heap.size A n z) (g : Ri w w.heap.size C m y) (hn : n * 8 ≤ 140737488355328) (hm : m * 8 ≤ 140737488355328) (hk : meanOk n m z y = false) :
    Calls Try.prog 13 #[.slice A n c, .slice C m d] w fun e w' => e = .returned (.tuple #[.slice none 0 0, .int .i64 1300]) ∧ w = w' := by
  rcases mean_ways hk with h1 | ⟨rfl, h2⟩ | ⟨rfl, h2, h3⟩ <;> clear hk
  · go_enter Try.func13, Try.ntmps13
    go_wp2_with fail
    go_ret2
    exact ⟨rfl, rfl⟩
  · have hne : ((n : Int) != (n : Int)) = false := by simp
    go_enter Try.func13, Try.ntmps13
    go_wp2_with fail
    refine (samples_no A n c w.heap.size z _ h (by omega) h2).mono ?_
    rintro e w' ⟨rfl, rfl⟩
    go_wp2_with fail
    go_ret2
    exact ⟨rfl, rfl⟩
  · have hne : ((n : Int) != (n : Int)) = false := by simp
    go_enter Try.func13, Try.ntmps13
    go_wp2_with fail
    refine (samples_yes A n c w.heap.size z _ h (by omega) h2).mono ?_
    rintro e w' ⟨rfl, rfl⟩
    go_wp2_with fail
    refine (samples_no C n d w.heap.size y _ g (by omega) h3).mono ?_
    rintro e w' ⟨rfl, rfl⟩
    go_wp2_with fail
    go_ret2
    exact ⟨rfl, rfl⟩

theorem mean_any (A C : Option Addr) (n m c d : Nat) (z y : Nat → Int) (w : World) (h : Ri w w.heap.size A n z) (g : Ri w w.heap.size C m y) (hn : n * 8 ≤ 140737488355328) (hm : m * 8 ≤ 140737488355328) :
    Calls Try.prog 13 #[.slice A n c, .slice C m d] w (Gives w (many (meanOk n m z y) n) (fun k => meanF (z k) (y k)) (code (meanOk n m z y))) := by
  cases hk : meanOk n m z y
  · exact (mean_no A C n m c d z y w h g hn hm hk).mono fun e w' q => gives_no w _ e w' q
  · have hk' := hk
    unfold meanOk at hk'
    rw [Bool.and_eq_true, Bool.and_eq_true, decide_eq_true_iff] at hk'
    obtain ⟨rfl, h2, h3⟩ := hk'
    exact mean_yes A C n c d z y w h g hn h2 h3

set_option maxHeartbeats 1600000 in
theorem mean2_no (A C : Option Addr) (n m c d : Nat) (z y : Nat → Int) (w : World) (h : Ri w w.heap.size A n z) (g : Ri w w.heap.size C m y) (hn : n * 8 ≤ 140737488355328) (hm : m * 8 ≤ 140737488355328) (hk : meanOk n m z y = false) :
    Calls Try.prog 14 #[.slice A n c, .slice C m d] w fun e w' => e = .returned (.tuple #[.slice none 0 0, .int .i64 1300]) ∧ w = w' := by
  rcases mean_ways hk with h1 | ⟨rfl, h2⟩ | ⟨rfl, h2, h3⟩ <;> clear hk
  · go_enter Try.func14, Try.ntmps14
    go_wp2_with fail
    go_ret2
    exact ⟨rfl, rfl⟩
  · have hne : ((n : Int) != (n : Int)) = false := by simp
    go_enter Try.func14, Try.ntmps14
    go_wp2_with fail
    refine (samples2_no A n c w.heap.size z _ h (by omega) h2).mono ?_
    rintro e w' ⟨rfl, rfl⟩
    go_wp2_with fail
    go_ret2
    exact ⟨rfl, rfl⟩
  · have hne : ((n : Int) != (n : Int)) = false := by simp
    go_enter Try.func14, Try.ntmps14
    go_wp2_with fail
    refine (samples2_yes A n c w.heap.size z _ h (by omega) h2).mono ?_
    rintro e w' ⟨rfl, rfl⟩
    go_wp2_with fail
    refine (samples2_no C n d w.heap.size y _ g (by omega) h3).mono ?_
    rintro e w' ⟨rfl, rfl⟩
    go_wp2_with fail
    go_ret2
    exact ⟨rfl, rfl⟩

theorem mean2_any (A C : Option Addr) (n m c d : Nat) (z y : Nat → Int) (w : World) (h : Ri w w.heap.size A n z) (g : Ri w w.heap.size C m y) (hn : n * 8 ≤ 140737488355328) (hm : m * 8 ≤ 140737488355328) :
    Calls Try.prog 14 #[.slice A n c, .slice C m d] w (Gives w (many (meanOk n m z y) n) (fun k => meanF (z k) (y k)) (code (meanOk n m z y))) := by
  cases hk : meanOk n m z y
  · exact (mean2_no A C n m c d z y w h g hn hm hk).mono fun e w' q => gives_no w _ e w' q
  · have hk' := hk
    unfold meanOk at hk'
    rw [Bool.and_eq_true, Bool.and_eq_true, decide_eq_true_iff] at hk'
    obtain ⟨rfl, h2, h3⟩ := hk'
    exact mean2_yes A C n c d z y w h g hn h2 h3

end Go.Proofs.Ytadinglpkphpgaa
