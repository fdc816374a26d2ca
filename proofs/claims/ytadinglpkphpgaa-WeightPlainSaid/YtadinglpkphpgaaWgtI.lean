/- One, Two, Mean of both: every input. -/
import Derived.Test.YtadinglpkphpgaaWgtH
namespace Go.Proofs.Ytadinglpkphpgaa
open Go.RowKit
set_option linter.unusedVariables false
attribute [local go_sem] ite_max ite_min

def inOne (s o l : Int) : Prop := (-128 ≤ s ∧ s ≤ 127) ∧ (-128 ≤ o ∧ o ≤ 127) ∧ 0 ≤ l ∧ l ≤ 7
def oneOk (s o l : Int) (n : Nat) (z : Nat → Int) : Bool := decide ((-128 ≤ s ∧ s ≤ 127) ∧ (-128 ≤ o ∧ o ≤ 127) ∧ 0 ≤ l ∧ l ≤ 7) && allS n z
def oneL (s o l x : Int) : Int := oneF s o (((2 ^ l.toNat / 2 : Nat)) : Int) (((2 ^ l.toNat : Nat)) : Int) x
def many (b : Bool) (n : Nat) : Nat := if b = true then n else 0
def code (b : Bool) : Int := if b = true then 0 else 1300
/-- what such a call answers: a list and a code -/
def Gives (w : World) (m : Nat) (F : Nat → Int) (c : Int) (e : Ending) (w' : World) : Prop :=
  ∃ v, e = .returned (.tuple #[v, .int .i64 c]) ∧ w'.ownsRow w.heap.size 3 1 v m ((List.range m).map fun k => .int .i64 (F k)) ∧ Below w.heap.size w w'

theorem gives_no (w : World) (F : Nat → Int) (e : Ending) (w' : World) (h : e = .returned (.tuple #[.slice none 0 0, .int .i64 1300]) ∧ w = w') : Gives w 0 F 1300 e w' := by
  obtain ⟨rfl, rfl⟩ := h
  exact ⟨_, rfl, World.ownsRow_nil _ _ _ _, Below.refl _ _⟩

set_option maxHeartbeats 1600000 in
theorem one_no (A : Option Addr) (n c : Nat) (z : Nat → Int) (s o l : Int) (w : World) (h : Ri w w.heap.size A n z) (hn : n * 8 ≤ 140737488355328) (hk : oneOk s o l n z = false) :
    Calls Try.prog 9 #[.slice A n c, .int .i64 s, .int .i64 o, .int .i64 l] w fun e w' => e = .returned (.tuple #[.slice none 0 0, .int .i64 1300]) ∧ w = w' := by
  have hc : ¬ (-128 ≤ s ∧ s ≤ 127) ∨ ((-128 ≤ s ∧ s ≤ 127) ∧ ¬ (-128 ≤ o ∧ o ≤ 127)) ∨ ((-128 ≤ s ∧ s ≤ 127) ∧ (-128 ≤ o ∧ o ≤ 127) ∧ ¬ (0 ≤ l ∧ l ≤ 7)) ∨ ((-128 ≤ s ∧ s ≤ 127) ∧ (-128 ≤ o ∧ o ≤ 127) ∧ (0 ≤ l ∧ l ≤ 7) ∧ allS n z = false) := by
    unfold oneOk at hk
    by_cases h1 : (-128 ≤ s ∧ s ≤ 127) ∧ (-128 ≤ o ∧ o ≤ 127) ∧ 0 ≤ l ∧ l ≤ 7
    · rw [decide_eq_true h1, Bool.true_and] at hk
      exact .inr (.inr (.inr ⟨h1.1, h1.2.1, h1.2.2, hk⟩))
    · omega
  clear hk
  rcases hc with h1 | ⟨h1, h2⟩ | ⟨h1, h2, h3⟩ | ⟨h1, h2, h3, h4⟩
  · go_enter Try.func9, Try.ntmps9
    go_wp2_with (go_at_call 23; refine (in_no _ _ _ h1 _).mono ?_; rintro e w' ⟨rfl, rfl⟩)
    go_ret2
    exact ⟨rfl, rfl⟩
  · go_enter Try.func9, Try.ntmps9
    go_wp2_with fail
    refine (in_yes _ _ _ h1 _).mono ?_
    rintro e w' ⟨rfl, rfl⟩
    go_wp2_with fail
    refine (in_no _ _ _ h2 _).mono ?_
    rintro e w' ⟨rfl, rfl⟩
    go_wp2_with fail
    go_ret2
    exact ⟨rfl, rfl⟩
  · go_enter Try.func9, Try.ntmps9
    go_wp2_with fail
    refine (in_yes _ _ _ h1 _).mono ?_
    rintro e w' ⟨rfl, rfl⟩
    go_wp2_with fail
    refine (in_yes _ _ _ h2 _).mono ?_
    rintro e w' ⟨rfl, rfl⟩
    go_wp2_with fail
    refine (in_no _ _ _ h3 _).mono ?_
    rintro e w' ⟨rfl, rfl⟩
    go_wp2_with fail
    go_ret2
    exact ⟨rfl, rfl⟩
  · go_enter Try.func9, Try.ntmps9
    go_wp2_with fail
    refine (in_yes _ _ _ h1 _).mono ?_
    rintro e w' ⟨rfl, rfl⟩
    go_wp2_with fail
    refine (in_yes _ _ _ h2 _).mono ?_
    rintro e w' ⟨rfl, rfl⟩
    go_wp2_with fail
    refine (in_yes _ _ _ h3 _).mono ?_
    rintro e w' ⟨rfl, rfl⟩
    go_wp2_with fail
    refine (samples_no A n c w.heap.size z _ h (by omega) h4).mono ?_
    rintro e w' ⟨rfl, rfl⟩
    go_wp2_with fail
    go_ret2
    exact ⟨rfl, rfl⟩

set_option maxHeartbeats 1600000 in
theorem one2_no (A : Option Addr) (n c : Nat) (z : Nat → Int) (s o l : Int) (w : World) (h : Ri w w.heap.size A n z) (hn : n * 8 ≤ 140737488355328) (hk : oneOk s o l n z = false) :
    Calls Try.prog 10 #[.slice A n c, .int .i64 s, .int .i64 o, .int .i64 l] w fun e w' => e = .returned (.tuple #[.slice none 0 0, .int .i64 1300]) ∧ w = w' := by
  have hc : (s < -128 ∨ (-128 ≤ s ∧ 127 < s) ∨ ((-128 ≤ s ∧ s ≤ 127) ∧ o < -128) ∨ ((-128 ≤ s ∧ s ≤ 127) ∧ (-128 ≤ o ∧ 127 < o)) ∨ ((-128 ≤ s ∧ s ≤ 127) ∧ (-128 ≤ o ∧ o ≤ 127) ∧ l < 0) ∨ ((-128 ≤ s ∧ s ≤ 127) ∧ (-128 ≤ o ∧ o ≤ 127) ∧ 0 ≤ l ∧ 7 < l)) ∨ ((-128 ≤ s ∧ s ≤ 127) ∧ (-128 ≤ o ∧ o ≤ 127) ∧ (0 ≤ l ∧ l ≤ 7) ∧ allS n z = false) := by
    unfold oneOk at hk
    by_cases h1 : (-128 ≤ s ∧ s ≤ 127) ∧ (-128 ≤ o ∧ o ≤ 127) ∧ 0 ≤ l ∧ l ≤ 7
    · rw [decide_eq_true h1, Bool.true_and] at hk
      exact .inr ⟨h1.1, h1.2.1, h1.2.2, hk⟩
    · exact .inl (by omega)
  clear hk
  rcases hc with (h1 | h1 | ⟨h1, h2⟩ | ⟨h1, h2⟩ | ⟨h1, h2, h3⟩ | ⟨h1, h2, h3⟩) | ⟨h1, h2, h3, h4⟩
  case inr =>
    go_enter Try.func10, Try.ntmps10
    go_wp2_with fail
    refine (samples2_no A n c w.heap.size z _ h (by omega) h4).mono ?_
    rintro e w' ⟨rfl, rfl⟩
    go_wp2_with fail
    go_ret2
    exact ⟨rfl, rfl⟩
  all_goals
    go_enter Try.func10, Try.ntmps10
    go_wp2_with fail
    go_ret2
    exact ⟨rfl, rfl⟩

theorem l_cases (l : Int) (h : 0 ≤ l ∧ l ≤ 7) : l = 0 ∨ l = 1 ∨ l = 2 ∨ l = 3 ∨ l = 4 ∨ l = 5 ∨ l = 6 ∨ l = 7 := by omega

theorem one_any (A : Option Addr) (n c : Nat) (z : Nat → Int) (s o l : Int) (w : World) (h : Ri w w.heap.size A n z) (hn : n * 8 ≤ 140737488355328) :
    Calls Try.prog 9 #[.slice A n c, .int .i64 s, .int .i64 o, .int .i64 l] w (Gives w (many (oneOk s o l n z) n) (fun k => oneL s o l (z k)) (code (oneOk s o l n z))) := by
  cases hk : oneOk s o l n z
  · exact (one_no A n c z s o l w h hn hk).mono fun e w' q => gives_no w _ e w' q
  · have hk' := hk
    unfold oneOk at hk'
    rw [Bool.and_eq_true, decide_eq_true_iff] at hk'
    obtain ⟨⟨h1, h2, h3⟩, h4⟩ := hk'
    rcases l_cases l h3 with rfl | rfl | rfl | rfl | rfl | rfl | rfl | rfl
    · exact one_yes0 A n c z s o w h hn h1 h2 h4
    · exact one_yes1 A n c z s o w h hn h1 h2 h4
    · exact one_yes2 A n c z s o w h hn h1 h2 h4
    · exact one_yes3 A n c z s o w h hn h1 h2 h4
    · exact one_yes4 A n c z s o w h hn h1 h2 h4
    · exact one_yes5 A n c z s o w h hn h1 h2 h4
    · exact one_yes6 A n c z s o w h hn h1 h2 h4
    · exact one_yes7 A n c z s o w h hn h1 h2 h4
theorem one2_any (A : Option Addr) (n c : Nat) (z : Nat → Int) (s o l : Int) (w : World) (h : Ri w w.heap.size A n z) (hn : n * 8 ≤ 140737488355328) :
    Calls Try.prog 10 #[.slice A n c, .int .i64 s, .int .i64 o, .int .i64 l] w (Gives w (many (oneOk s o l n z) n) (fun k => oneL s o l (z k)) (code (oneOk s o l n z))) := by
  cases hk : oneOk s o l n z
  · exact (one2_no A n c z s o l w h hn hk).mono fun e w' q => gives_no w _ e w' q
  · have hk' := hk
    unfold oneOk at hk'
    rw [Bool.and_eq_true, decide_eq_true_iff] at hk'
    obtain ⟨⟨h1, h2, h3⟩, h4⟩ := hk'
    rcases l_cases l h3 with rfl | rfl | rfl | rfl | rfl | rfl | rfl | rfl
    · exact one2_yes0 A n c z s o w h hn h1 h2 h4
    · exact one2_yes1 A n c z s o w h hn h1 h2 h4
    · exact one2_yes2 A n c z s o w h hn h1 h2 h4
    · exact one2_yes3 A n c z s o w h hn h1 h2 h4
    · exact one2_yes4 A n c z s o w h hn h1 h2 h4
    · exact one2_yes5 A n c z s o w h hn h1 h2 h4
    · exact one2_yes6 A n c z s o w h hn h1 h2 h4
    · exact one2_yes7 A n c z s o w h hn h1 h2 h4

end Go.Proofs.Ytadinglpkphpgaa
