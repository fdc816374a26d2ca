/- awake; the statement Interps: the walk. -/
import Derived.Test.YtoagihocibeidaaIntL
import Derived.Test.YtoagihocibeidaaRowB
namespace Go.Proofs.Ytoagihocibeidaa
open Go.RowKit
set_option linter.unusedVariables false
set_option linter.unusedSimpArgs false
attribute [local go_sem] ite_max ite_min

def four (a b c d : Int) (k : Nat) : Int := if k = 0 then a else if k = 1 then b else if k = 2 then c else if k = 3 then d else 0
theorem Rb.lit4 (w : World) (a b c d : Int) (t : TypeId) : Rb (w.alloc (.cells #[.int .u8 a, .int .u8 b, .int .u8 c, .int .u8 d] t)) (some ⟨w.heap.size, 0, none⟩) 4 (four a b c d) := fun _ =>
  ⟨_, rfl, by simp, fun k hk => by
    rw [add_new]
    match k, hk with
    | 0, _ => simp [four]
    | 1, _ => simp [four]
    | 2, _ => simp [four]
    | 3, _ => simp [four]⟩
theorem Ri.lit4 (w : World) (a b c d : Int) (t : TypeId) : Ri (w.alloc (.cells #[.int .i64 a, .int .i64 b, .int .i64 c, .int .i64 d] t)) (w.alloc (.cells #[.int .i64 a, .int .i64 b, .int .i64 c, .int .i64 d] t)).heap.size (some ⟨w.heap.size, 0, none⟩) 4 (four a b c d) := fun _ =>
  ⟨_, rfl, by simp, fun k hk => by
    rw [add_new]
    match k, hk with
    | 0, _ => simp [four]
    | 1, _ => simp [four]
    | 2, _ => simp [four]
    | 3, _ => simp [four]⟩
theorem Ri.lit1 (w : World) (a : Int) (t : TypeId) : Ri (w.alloc (.cells #[.int .i64 a] t)) (w.alloc (.cells #[.int .i64 a] t)).heap.size (some ⟨w.heap.size, 0, none⟩) 1 (fun _ => a) := fun _ =>
  ⟨_, rfl, by simp, fun k hk => by
    obtain rfl : k = 0 := by omega
    rw [add_new]
    simp⟩

theorem four_bd (k : Nat) : 0 ≤ four 10 20 30 40 k ∧ four 10 20 30 40 k ≤ 255 := by unfold four; split; omega; split; omega; split; omega; split <;> omega
theorem lum4 : ∀ k, k < 4 → lumF (four 10 20 30 40) 2 2 0 0 2 k = four 10 20 30 40 k := by decide +kernel
theorem chr1 : ∀ k, k < 1 → chrF (four 10 20 30 40) 2 2 4 0 1 k = 15 := by decide +kernel

set_option maxRecDepth 100000 in
set_option maxHeartbeats 3200000 in
theorem awake_any (w : World) :
    Calls Try.prog 19 #[] w fun e w' => e = .returned (.bool true) ∧ Below w.heap.size w w' := by
  have e1 : fairB 4 2 2 0 0 2 2 = true := by decide
  have e2 : fairB 4 2 2 4 0 1 1 = true := by decide
  have e3 : fairB 4 3 2 0 0 2 2 = false := by decide
  have E1 := Lib.hid e1
  have E2 := Lib.hid e2
  have E3 := Lib.hid e3
  clear e1 e2 e3
  have RP := Lib.hid (Rb.lit4 w 10 20 30 40 5)
  have BB := Lib.hid ((Below.refl w.heap.size w).alloc (Nat.le_refl _) (.cells #[.int .u8 10, .int .u8 20, .int .u8 30, .int .u8 40] 5))
  go_enter Try.func19, Try.ntmps19
  go_wp2_with fail
  refine Calls.mono (luma_yes _ 4 _ (four 10 20 30 40) 2 2 0 0 2 2 _ RP.out four_bd E1.out) ?_
  rintro e w1 hq
  obtain ⟨A1, p1, rfl, hr, -, -, hb⟩ := gives_sl hq
  clear hq
  have BB := Lib.hid (BB.out.trans (hb.mono BB.out.size))
  have RP := Lib.hid (Rd.go RP.out hb)
  clear hb
  have R1 := Lib.hid hr
  clear hr
  go_wp2_with fail
  refine Calls.mono (chroma_yes _ 4 _ (four 10 20 30 40) 2 2 4 0 1 1 _ RP.out four_bd E2.out) ?_
  rintro e w2 hq
  obtain ⟨A2, p2, rfl, hr, -, -, hb⟩ := gives_sl hq
  clear hq
  have BB := Lib.hid (BB.out.trans (hb.mono BB.out.size))
  have RP := Lib.hid (Rd.go RP.out hb)
  have R1 := Lib.hid (Rd.go R1.out hb)
  clear hb
  have R2 := Lib.hid hr
  clear hr
  go_wp2_with fail
  refine Calls.mono (luma_no _ 4 _ 3 2 0 0 2 2 _ E3.out (by omega) (by omega)) ?_
  rintro e w3 hq
  obtain ⟨A3, p3, rfl, hr, -, -, hb⟩ := gives_sl hq
  clear hq hr
  have BB := Lib.hid (BB.out.trans (hb.mono BB.out.size))
  have RP := Lib.hid (Rd.go RP.out hb)
  have R1 := Lib.hid (Rd.go R1.out hb)
  have R2 := Lib.hid (Rd.go R2.out hb)
  clear hb
  go_wp2_with (go_at_call 16; refine (num_any _ _).mono ?_; rintro e w' ⟨rfl, rfl⟩)
  refine (same_yes _ _ 4 _ _ (lumF (four 10 20 30 40) 2 2 0 0 2) (four 10 20 30 40) _ (Rd.go R1.out ((Below.refl _ _).alloc (Nat.le_refl _) _)) (Ri.lit4 _ _ _ _ _ _) (by omega) lum4).mono ?_
  rintro e w4 ⟨rfl, hb⟩
  have hb : Below w3.heap.size w3 w4 := ((Below.refl _ _).alloc (Nat.le_refl _) _).trans (hb.mono (by simp))
  have BB := Lib.hid (BB.out.trans (hb.mono BB.out.size))
  have RP := Lib.hid (Rd.go RP.out hb)
  have R1 := Lib.hid (Rd.go R1.out hb)
  have R2 := Lib.hid (Rd.go R2.out hb)
  clear hb
  go_wp2_with (go_at_call 16; refine (num_any _ _).mono ?_; rintro e w' ⟨rfl, rfl⟩)
  refine (same_yes _ _ 1 _ _ (chrF (four 10 20 30 40) 2 2 4 0 1) (fun _ => 15) _ (Rd.go R2.out ((Below.refl _ _).alloc (Nat.le_refl _) _)) (Ri.lit1 _ _ _) (by omega) chr1).mono ?_
  rintro e w5 ⟨rfl, hb⟩
  have hb : Below w4.heap.size w4 w5 := ((Below.refl _ _).alloc (Nat.le_refl _) _).trans (hb.mono (by simp))
  have BB := Lib.hid (BB.out.trans (hb.mono BB.out.size))
  have RP := Lib.hid (Rd.go RP.out hb)
  have R1 := Lib.hid (Rd.go R1.out hb)
  have R2 := Lib.hid (Rd.go R2.out hb)
  clear hb
  go_wp2_with (go_at_call 16; refine (num_any _ _).mono ?_; rintro e w' ⟨rfl, rfl⟩)
  go_ret
  exact ⟨rfl, BB.out⟩

end Go.Proofs.Ytoagihocibeidaa
