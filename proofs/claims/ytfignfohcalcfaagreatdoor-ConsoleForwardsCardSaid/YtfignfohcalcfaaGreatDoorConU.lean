/- bins' great and may. Printed by gen-conu.py. -/
import Derived.Test.YtfignfohcalcfaaGreatDoorConT
namespace Go.Proofs.YtfignfohcalcfaaGreatDoor
open Go.RowKit
set_option linter.unusedVariables false
set_option linter.unusedSimpArgs false
attribute [local go_sem] ite_max ite_min

set_option maxRecDepth 100000 in
set_option maxHeartbeats 1600000 in
theorem great_any {base g : Nat} {l : List UInt8} (v own k : Nat) (w : World) (H : MB w base g l) (hbs : base ≤ w.heap.size) (hl : l.length ≤ 10) (hv : v ≤ 65535) (ho : own ≤ 20) (hk : k ≤ 3) :
    Calls Tryz.prog 95 #[.pointer (some ⟨g, 0, none⟩), .int .i64 v, .int .i64 own, .int .i64 k] w fun e w' => e = .returned (.tuple #[]) ∧ MB w' base g (l ++ greatL v own k) ∧ Below base w w' := by
  obtain ⟨n, hn⟩ : ∃ n : Nat, n = min v own := ⟨_, rfl⟩
  have hni : min (v : Int) (own : Int) = (n : Int) := by omega
  have HO := Lib.hid (ones_any n own w H hbs (by omega) (by omega) (by omega))
  have HBS := Lib.hid hbs
  have hon : (l ++ onesL n own).length ≤ 1000 := by unfold onesL; split <;> simp <;> omega
  have HON := Lib.hid hon
  have hg : greatL v own k = onesL n own ++ (if own ≤ v then tailL (v - own) k else []) := by
    unfold greatL
    rw [hni]
    by_cases q : own ≤ v
    · rw [if_pos (by omega), if_pos q, show ((v : Int) - (own : Int)).toNat = v - own by omega]
    · rw [if_neg (by omega), if_neg q]
  have HG := Lib.hid hg
  clear H hon hg hn
  go_enter Tryz.func95, Tryz.ntmps95
  go_wp2_with fail
  refine HO.out.mono ?_
  rintro e w1 ⟨rfl, hm, hb⟩
  have HM := Lib.hid hm
  have HB := Lib.hid hb
  clear hm hb HO
  by_cases q : own ≤ v
  · have q2 : (own : Int) ≤ (v : Int) := by omega
    have q3 : (v : Int) - (own : Int) = ((v - own : Nat) : Int) := by omega
    have HT := Lib.hid (tail_any (v - own) k w1 HM.out (Nat.le_trans HBS.out HB.out.size) HON.out (by omega) hk)
    have e : greatL v own k = onesL n own ++ tailL (v - own) k := by rw [HG.out, if_pos q]
    have HE := Lib.hid e
    clear e
    go_wp2_with fail
    refine HT.out.mono ?_
    rintro e w2 ⟨rfl, hm, hb⟩
    have HM2 := Lib.hid hm
    have HB2 := Lib.hid (HB.out.trans hb)
    clear hm hb
    go_wp2_with fail
    go_end0
    exact ⟨rfl, by rw [HE.out, ← List.append_assoc]; exact HM2.out, HB2.out⟩
  · have q2 : ¬ (own : Int) ≤ (v : Int) := by omega
    have e : greatL v own k = onesL n own := by rw [HG.out, if_neg q, List.append_nil]
    have HE := Lib.hid e
    clear e
    go_wp2_with fail
    go_end0
    exact ⟨rfl, by rw [HE.out]; exact HM.out, HB.out⟩
set_option maxRecDepth 100000 in
theorem may_0 (v m : Int) (w : World) : Calls Tryz.prog 93 #[.int .i64 0, .int .i64 v, .int .i64 m] w fun e w' => e = .returned (.bool (mayB 0 v m)) ∧ w = w' := by
  rw [show mayB 0 v m = false from rfl]
  go_enter Tryz.func93, Tryz.ntmps93
  go_wp2_with fail
  go_ret
  exact ⟨rfl, rfl⟩
set_option maxRecDepth 100000 in
theorem may_1 (v m : Int) (w : World) : Calls Tryz.prog 93 #[.int .i64 1, .int .i64 v, .int .i64 m] w fun e w' => e = .returned (.bool (mayB 1 v m)) ∧ w = w' := by
  by_cases h1 : v = 0
  · subst h1
    rw [show mayB 1 0 m = true from rfl]
    go_enter Tryz.func93, Tryz.ntmps93
    go_wp2_with fail
    go_ret
    exact ⟨rfl, rfl⟩
  by_cases h2 : v = 1
  · subst h2
    rw [show mayB 1 1 m = true from rfl]
    go_enter Tryz.func93, Tryz.ntmps93
    go_wp2_with fail
    go_ret
    exact ⟨rfl, rfl⟩
  have e : mayB 1 v m = false := by unfold mayB; rw [if_pos rfl]; exact decide_eq_false (by omega)
  rw [e]
  have e1 : (v == 0) = false := by simp [h1]
  have e2 : (v == 1) = false := by simp [h2]
  clear e h1 h2
  go_enter Tryz.func93, Tryz.ntmps93
  go_wp2_with fail
  go_ret
  exact ⟨rfl, rfl⟩
set_option maxRecDepth 100000 in
theorem may_2 (v m : Int) (w : World) : Calls Tryz.prog 93 #[.int .i64 2, .int .i64 v, .int .i64 m] w fun e w' => e = .returned (.bool (mayB 2 v m)) ∧ w = w' := by
  by_cases h1 : 1 ≤ m
  rotate_left
  · have e : mayB 2 v m = false := by unfold mayB; simp only [show ¬ (2 : Int) = 1 by decide, if_false, if_true]; exact decide_eq_false (by omega)
    rw [e]
    clear e
    go_enter Tryz.func93, Tryz.ntmps93
    go_wp2_with fail
    go_ret
    exact ⟨rfl, rfl⟩
  by_cases h2 : m ≤ 63
  rotate_left
  · have e : mayB 2 v m = false := by unfold mayB; simp only [show ¬ (2 : Int) = 1 by decide, if_false, if_true]; exact decide_eq_false (by omega)
    rw [e]
    clear e
    go_enter Tryz.func93, Tryz.ntmps93
    go_wp2_with fail
    go_ret
    exact ⟨rfl, rfl⟩
  by_cases h3 : 0 ≤ v
  rotate_left
  · have e : mayB 2 v m = false := by unfold mayB; simp only [show ¬ (2 : Int) = 1 by decide, if_false, if_true]; exact decide_eq_false (by omega)
    rw [e]
    clear e
    go_enter Tryz.func93, Tryz.ntmps93
    go_wp2_with fail
    go_ret
    exact ⟨rfl, rfl⟩
  by_cases h4 : v ≤ m
  rotate_left
  · have e : mayB 2 v m = false := by unfold mayB; simp only [show ¬ (2 : Int) = 1 by decide, if_false, if_true]; exact decide_eq_false (by omega)
    rw [e]
    clear e
    go_enter Tryz.func93, Tryz.ntmps93
    go_wp2_with fail
    go_ret
    exact ⟨rfl, rfl⟩
  have e : mayB 2 v m = true := by unfold mayB; simp only [show ¬ (2 : Int) = 1 by decide, if_false, if_true]; exact decide_eq_true ⟨h1, h2, h3, h4⟩
  rw [e]
  clear e
  go_enter Tryz.func93, Tryz.ntmps93
  go_wp2_with fail
  go_ret
  exact ⟨rfl, rfl⟩
set_option maxRecDepth 100000 in
theorem may_3 (v m : Int) (w : World) : Calls Tryz.prog 93 #[.int .i64 3, .int .i64 v, .int .i64 m] w fun e w' => e = .returned (.bool (mayB 3 v m)) ∧ w = w' := by
  by_cases h1 : -32767 ≤ v
  rotate_left
  · have e : mayB 3 v m = false := by unfold mayB; simp only [show ¬ (3 : Int) = 1 by decide, show ¬ (3 : Int) = 2 by decide, if_false, if_true]; exact decide_eq_false (by omega)
    rw [e]
    clear e
    go_enter Tryz.func93, Tryz.ntmps93
    go_wp2_with fail
    go_ret
    exact ⟨rfl, rfl⟩
  by_cases h2 : v ≤ 32767
  rotate_left
  · have e : mayB 3 v m = false := by unfold mayB; simp only [show ¬ (3 : Int) = 1 by decide, show ¬ (3 : Int) = 2 by decide, if_false, if_true]; exact decide_eq_false (by omega)
    rw [e]
    clear e
    go_enter Tryz.func93, Tryz.ntmps93
    go_wp2_with fail
    go_ret
    exact ⟨rfl, rfl⟩
  have e : mayB 3 v m = true := by unfold mayB; simp only [show ¬ (3 : Int) = 1 by decide, show ¬ (3 : Int) = 2 by decide, if_false, if_true]; exact decide_eq_true ⟨h1, h2⟩
  rw [e]
  clear e
  go_enter Tryz.func93, Tryz.ntmps93
  go_wp2_with fail
  go_ret
  exact ⟨rfl, rfl⟩
set_option maxRecDepth 100000 in
theorem may_4 (v m : Int) (w : World) : Calls Tryz.prog 93 #[.int .i64 4, .int .i64 v, .int .i64 m] w fun e w' => e = .returned (.bool (mayB 4 v m)) ∧ w = w' := by
  by_cases h1 : 0 ≤ v
  rotate_left
  · have e : mayB 4 v m = false := by unfold mayB; simp only [show ¬ (4 : Int) = 1 by decide, show ¬ (4 : Int) = 2 by decide, show ¬ (4 : Int) = 3 by decide, if_false, if_true]; exact decide_eq_false (by omega)
    rw [e]
    clear e
    go_enter Tryz.func93, Tryz.ntmps93
    go_wp2_with fail
    go_ret
    exact ⟨rfl, rfl⟩
  by_cases h2 : v ≤ 65535
  rotate_left
  · have e : mayB 4 v m = false := by unfold mayB; simp only [show ¬ (4 : Int) = 1 by decide, show ¬ (4 : Int) = 2 by decide, show ¬ (4 : Int) = 3 by decide, if_false, if_true]; exact decide_eq_false (by omega)
    rw [e]
    clear e
    go_enter Tryz.func93, Tryz.ntmps93
    go_wp2_with fail
    go_ret
    exact ⟨rfl, rfl⟩
  have e : mayB 4 v m = true := by unfold mayB; simp only [show ¬ (4 : Int) = 1 by decide, show ¬ (4 : Int) = 2 by decide, show ¬ (4 : Int) = 3 by decide, if_false, if_true]; exact decide_eq_true ⟨h1, h2⟩
  rw [e]
  clear e
  go_enter Tryz.func93, Tryz.ntmps93
  go_wp2_with fail
  go_ret
  exact ⟨rfl, rfl⟩
theorem kindF_is (el : Int) : kindF el = 0 ∨ kindF el = 1 ∨ kindF el = 2 ∨ kindF el = 3 ∨ kindF el = 4 := by
  unfold kindF
  split
  · exact Or.inl rfl
  · rename_i h
    have h1 : el.toNat < 20 := by omega
    exact (by decide : ∀ i : Fin 20, [1, 2, 1, 2, 2, 2, 2, 2, 2, 3, 3, 2, 2, 3, 1, 1, 1, 4, 1, 1].getD i.val (0 : Int) = 0 ∨ [1, 2, 1, 2, 2, 2, 2, 2, 2, 3, 3, 2, 2, 3, 1, 1, 1, 4, 1, 1].getD i.val (0 : Int) = 1 ∨ [1, 2, 1, 2, 2, 2, 2, 2, 2, 3, 3, 2, 2, 3, 1, 1, 1, 4, 1, 1].getD i.val (0 : Int) = 2 ∨ [1, 2, 1, 2, 2, 2, 2, 2, 2, 3, 3, 2, 2, 3, 1, 1, 1, 4, 1, 1].getD i.val (0 : Int) = 3 ∨ [1, 2, 1, 2, 2, 2, 2, 2, 2, 3, 3, 2, 2, 3, 1, 1, 1, 4, 1, 1].getD i.val (0 : Int) = 4) ⟨el.toNat, h1⟩
end Go.Proofs.YtfignfohcalcfaaGreatDoor
