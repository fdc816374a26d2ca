/- The statements on package weight: awake. -/
import Derived.Test.YtadinglpkphpgaaWgtK
namespace Go.Proofs.Ytadinglpkphpgaa
open Go.RowKit
set_option linter.unusedVariables false
set_option linter.unusedSimpArgs false

theorem gives_sl {w w' : World} {m : Nat} {F : Nat → Int} {c : Int} {e : Ending} (h : Gives w m F c e w') :
    ∃ A cp, e = .returned (.tuple #[.slice A m cp, .int .i64 c]) ∧ Ri w' w'.heap.size A m F ∧ Below w.heap.size w w' := by
  obtain ⟨v, rfl, ho, hb⟩ := h
  obtain ⟨A, cp, rfl, _, _, hr⟩ := Ri.of_own ho
  exact ⟨A, cp, rfl, hr, hb⟩
theorem Rd.go {w w' : World} {A : Option Addr} {n : Nat} {f : Nat → Value} (h : Rd w w.heap.size A n f) (hb : Below w.heap.size w w') : Rd w' w'.heap.size A n f :=
  (h.below hb (Nat.le_refl _)).more hb.size
theorem Ri.lit1 (w : World) (x : Int) (t : TypeId) : Ri (w.alloc (.cells #[.int .i64 x] t)) (w.alloc (.cells #[.int .i64 x] t)).heap.size (some ⟨w.heap.size, 0, none⟩) 1 (fun _ => x) := fun _ =>
  ⟨_, rfl, by simp, fun k hk => by
    obtain rfl : k = 0 := by omega
    rw [add_new]
    simp⟩
theorem Ri.cell1 {w : World} {g : Nat} {x : Int} (h : w.cell? ⟨g, 0, none⟩ = some (.int .i64 x)) (hg : g < w.heap.size) : Ri w w.heap.size (some ⟨g, 0, none⟩) 1 (fun _ => x) := fun _ =>
  ⟨_, rfl, hg, fun k hk => by
    obtain rfl : k = 0 := by omega
    rw [add_new]
    exact h⟩
theorem Rd.past {w : World} {A : Option Addr} {n : Nat} {f : Nat → Value} (h : Rd w w.heap.size A n f) (o : Obj) : Rd (w.alloc o) (w.alloc o).heap.size A n f :=
  h.go ((Below.refl _ _).alloc (Nat.le_refl _) o)
theorem same_ok (A C : Option Addr) (n c d : Nat) (z y : Nat → Int) (w : World) (h : Ri w w.heap.size A n z) (g : Ri w w.heap.size C n y) (hn : n ≤ 1152921504606846976) (he : ∀ k, k < n → z k = y k) :
    Calls Try.prog 15 #[.slice A n c, .slice C n d] w fun e w' => e = .returned (.bool true) ∧ Below w.heap.size w w' := same_yes A C n c d z y w h g hn he

theorem imp_a (w : World) : Calls Try.prog 20 #[.int .i64 2, .int .i64 0, .int .i64 4, .bool false] w fun e w' => e = .returned (.tuple #[.int .i64 32, .int .i64 32]) ∧ w = w' :=
  (imp_any1 2 0 4 false w).mono fun _ _ h => ⟨h.1.trans (by kernel_rfl), h.2⟩
theorem clip_a (w : World) : Calls Try.prog 17 #[.int .i64 300] w fun e w' => e = .returned (.int .i64 255) ∧ w = w' :=
  (clip_any 300 w).mono fun _ _ h => ⟨h.1.trans (by kernel_rfl), h.2⟩
/-- a call that answers one number and the code 0 -/
def One1 (w : World) (x : Int) (e : Ending) (w' : World) : Prop := ∃ A cp, e = .returned (.tuple #[.slice A 1 cp, .int .i64 0]) ∧ Ri w' w'.heap.size A 1 (fun _ => x) ∧ Below w.heap.size w w'
theorem aw1 (A : Option Addr) (c : Nat) (w : World) (h : Ri w w.heap.size A 1 (fun _ => 100)) : Calls Try.prog 9 #[.slice A 1 c, .int .i64 2, .int .i64 3, .int .i64 1] w (One1 w 103) :=
  (one_any A 1 c (fun _ => 100) 2 3 1 w h (by omega)).mono fun _ _ q => by
    have e : oneOk 2 3 1 1 (fun _ => 100) = true := by kernel_rfl
    rw [e] at q
    obtain ⟨A', cp, rfl, hr, hb⟩ := gives_sl q
    exact ⟨A', cp, rfl, hr, hb⟩
theorem aw2 (A C : Option Addr) (c d : Nat) (w : World) (h : Ri w w.heap.size A 1 (fun _ => 100)) (g : Ri w w.heap.size C 1 (fun _ => 50)) : Calls Try.prog 11 #[.slice A 1 c, .slice C 1 d, .int .i64 32, .int .i64 32, .int .i64 0, .int .i64 5] w (One1 w 75) :=
  (two_any A C 1 1 c d (fun _ => 100) (fun _ => 50) 32 32 0 5 w h g (by omega) (by omega)).mono fun _ _ q => by
    have e : twoOk 32 32 0 5 1 1 (fun _ => 100) (fun _ => 50) = true := by kernel_rfl
    rw [e] at q
    obtain ⟨A', cp, rfl, hr, hb⟩ := gives_sl q
    exact ⟨A', cp, rfl, hr, hb⟩
theorem aw3 (A C : Option Addr) (c d : Nat) (w : World) (h : Ri w w.heap.size A 1 (fun _ => 3)) (g : Ri w w.heap.size C 1 (fun _ => 4)) : Calls Try.prog 13 #[.slice A 1 c, .slice C 1 d] w (One1 w 4) :=
  (mean_any A C 1 1 c d (fun _ => 3) (fun _ => 4) w h g (by omega) (by omega)).mono fun _ _ q => by
    have e : meanOk 1 1 (fun _ => 3) (fun _ => 4) = true := by kernel_rfl
    rw [e] at q
    obtain ⟨A', cp, rfl, hr, hb⟩ := gives_sl q
    exact ⟨A', cp, rfl, hr, hb⟩
theorem aw4 (A : Option Addr) (c : Nat) (w : World) (h : Ri w w.heap.size A 1 (fun _ => 256)) : Calls Try.prog 9 #[.slice A 1 c, .int .i64 1, .int .i64 0, .int .i64 0] w fun e w' => e = .returned (.tuple #[.slice none 0 0, .int .i64 1300]) ∧ w = w' :=
  one_no A 1 c (fun _ => 256) 1 0 0 w h (by omega) (by kernel_rfl)

set_option maxRecDepth 100000 in
set_option maxHeartbeats 3200000 in
theorem awake_any (w : World) :
    Calls Try.prog 19 #[] w fun e w' => e = .returned (.bool true) ∧ Below w.heap.size w w' := by
  go_enter Try.func19, Try.ntmps19
  go_wp2_with fail
  refine (aw1 _ _ _ ?a1).mono ?_
  case a1 => exact Ri.cell1 (by simp [go_sem]) (by simp [go_sem])
  rintro e w1 ⟨A1, c1, rfl, hr1, hb1⟩
  have B1 := Lib.hid (((Below.refl w.heap.size w).alloc (Nat.le_refl _) _).trans (hb1.mono (by simp)))
  have R1 := Lib.hid hr1
  clear hr1 hb1
  go_wp2_with fail
  refine (aw2 _ _ _ _ _ ?a2 ?a3).mono ?_
  case a2 => exact Ri.cell1 (by simp [go_sem]) (by simp [go_sem])
  case a3 => exact Ri.cell1 (by simp [go_sem]) (by simp [go_sem])
  rintro e w2 ⟨A2, c2, rfl, hr2, hb2⟩
  have E2 : Below w1.heap.size w1 w2 := ((((Below.refl _ w1).alloc (Nat.le_refl _) _).alloc (by simp) _).trans (hb2.mono (by simp; omega)))
  have B2 := Lib.hid E2
  have R2 := Lib.hid hr2
  clear hr2 hb2 E2
  go_wp2_with fail
  refine (aw3 _ _ _ _ _ ?a4 ?a5).mono ?_
  case a4 => exact Ri.cell1 (by simp [go_sem]) (by simp [go_sem])
  case a5 => exact Ri.cell1 (by simp [go_sem]) (by simp [go_sem])
  rintro e w3 ⟨A3, c3, rfl, hr3, hb3⟩
  have E3 : Below w2.heap.size w2 w3 := ((((Below.refl _ w2).alloc (Nat.le_refl _) _).alloc (by simp) _).trans (hb3.mono (by simp; omega)))
  have B3 := Lib.hid E3
  have R3 := Lib.hid hr3
  clear hr3 hb3 E3
  go_wp2_with fail
  refine (aw4 _ _ _ ?a6).mono ?_
  case a6 => exact Ri.cell1 (by simp [go_sem]) (by simp [go_sem])
  rintro e w' ⟨rfl, rfl⟩
  go_wp2_with fail
  refine (imp_a _).mono ?_
  rintro e w' ⟨rfl, rfl⟩
  go_wp2_with fail
  refine (num_any _ _).mono ?_
  rintro e w' ⟨rfl, rfl⟩
  go_wp2_with fail
  refine (same_ok _ _ 1 _ _ (fun _ => 103) (fun _ => 103) _ ?b1 ?b2 (by omega) (fun _ _ => rfl)).mono ?_
  case b1 => exact Rd.go (Rd.go (Rd.go R1.out B2.out) B3.out) (((Below.refl _ _).alloc (Nat.le_refl _) _).alloc (by simp) _)
  case b2 => exact Ri.cell1 (by simp [go_sem]) (by simp [go_sem])
  rintro e w4 ⟨rfl, hb4⟩
  have B4 := Lib.hid ((((Below.refl _ w3).alloc (Nat.le_refl _) _).alloc (by simp) _).trans (hb4.mono (by simp; omega)))
  clear hb4
  go_wp2_with fail
  refine (num_any _ _).mono ?_
  rintro e w' ⟨rfl, rfl⟩
  go_wp2_with fail
  refine (same_ok _ _ 1 _ _ (fun _ => 75) (fun _ => 75) _ ?b3 ?b4 (by omega) (fun _ _ => rfl)).mono ?_
  case b3 => exact Rd.go (Rd.go (Rd.go R2.out B3.out) B4.out) ((Below.refl _ _).alloc (Nat.le_refl _) _)
  case b4 => exact Ri.cell1 (by simp [go_sem]) (by simp [go_sem])
  rintro e w5 ⟨rfl, hb5⟩
  have B5 := Lib.hid (((Below.refl _ w4).alloc (Nat.le_refl _) _).trans (hb5.mono (by simp)))
  clear hb5
  go_wp2_with fail
  refine (num_any _ _).mono ?_
  rintro e w' ⟨rfl, rfl⟩
  go_wp2_with fail
  refine (same_ok _ _ 1 _ _ (fun _ => 4) (fun _ => 4) _ ?b5 ?b6 (by omega) (fun _ _ => rfl)).mono ?_
  case b5 => exact Rd.go (Rd.go (Rd.go R3.out B4.out) B5.out) ((Below.refl _ _).alloc (Nat.le_refl _) _)
  case b6 => exact Ri.cell1 (by simp [go_sem]) (by simp [go_sem])
  rintro e w6 ⟨rfl, hb6⟩
  have B6 := Lib.hid (((Below.refl _ w5).alloc (Nat.le_refl _) _).trans (hb6.mono (by simp)))
  clear hb6
  go_wp2_with fail
  refine (num_any _ _).mono ?_
  rintro e w' ⟨rfl, rfl⟩
  go_wp2_with fail
  refine (clip_a _).mono ?_
  rintro e w' ⟨rfl, rfl⟩
  go_wp2_with fail
  go_ret
  have q1 := B1.out
  have q2 := q1.trans (B2.out.mono q1.size)
  have q3 := q2.trans (B3.out.mono q2.size)
  have q4 := q3.trans (B4.out.mono q3.size)
  have q5 := q4.trans (B5.out.mono q4.size)
  exact ⟨rfl, q5.trans (B6.out.mono q5.size)⟩

end Go.Proofs.Ytadinglpkphpgaa
