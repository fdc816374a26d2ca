/- The statement PlanPlain: the walk. -/
import Derived.Test.YtoniejneoibpoaaPlanL
import Derived.Test.YtoniejneoibpoaaPlanM
import Derived.Test.YtoniejneoibpoaaMask
namespace Go.Proofs.Ytoniejneoibpoaa
open Go.RowKit
set_option linter.unusedVariables false
set_option linter.unusedSimpArgs false
attribute [local go_sem] ite_max ite_min and_7 and_31 and_63

theorem may_fine (b p : Nat) (hb : b ≤ 2) (hp : 1 ≤ p ∧ p ≤ 7) : mayB 1 1 2 30 b p 1 0 0 = true := by
  rw [mayB_iff]
  omega
theorem plan_fine (b p m : Nat) (w : World) (hb : b ≤ 2) (hp : 1 ≤ p ∧ p ≤ 7) (hm : m ≤ 64) :
    Calls Try.prog 19 #[.agg #[.int .i64 1, .int .i64 1, .int .i64 2, .int .i64 30, .int .i64 b, .int .i64 p, .bool false, .int .i64 1, .bool false, .bool false, .int .i64 0, .int .i64 0], .int .i64 m] w (Row w (planned p b m) 0) :=
  plan_yes 1 1 2 30 b p false 1 false false 0 0 m w (may_fine b p hb hp) hb hp hm
theorem plan_bad (b p : Nat) (many : Int) (w : World) (hb : b ≤ 2) (hp : 1 ≤ p ∧ p ≤ 7) (hm : ¬ (0 ≤ many ∧ many ≤ 64)) :
    Calls Try.prog 19 #[.agg #[.int .i64 1, .int .i64 1, .int .i64 2, .int .i64 30, .int .i64 b, .int .i64 p, .bool false, .int .i64 1, .bool false, .bool false, .int .i64 0, .int .i64 0], .int .i64 many] w (Row w [] 2500) :=
  plan_no 1 1 2 30 b p false 1 false false 0 0 many w (.inr ⟨may_fine b p hb hp, hm⟩)

theorem plain_get (p m : Nat) (hp : 1 ≤ p ∧ p ≤ 7) (hm : m ≤ 31) : (planned p 0 m).length = m ∧ ∀ i, i < m → ∀ (h : i < (planned p 0 m).length), (planned p 0 m)[i].frame = i ∧ (planned p 0 m)[i].ref = true ∧ ((planned p 0 m)[i].type = 0 ∨ (planned p 0 m)[i].type ≠ 1) := by
  have := plain_all ⟨p, by omega⟩ ⟨m, by omega⟩ hp.1
  simp only [plainChk, Bool.and_eq_true, beq_iff_eq, List.all_eq_true, List.mem_range] at this
  refine ⟨this.1, fun i hi h => ?_⟩
  have := this.2 i hi
  unfold plainAt at this
  rw [List.getElem?_eq_getElem h] at this
  simp at this
  exact ⟨this.1, this.2.1, .inr this.2.2⟩

set_option maxRecDepth 100000 in
set_option maxHeartbeats 3200000 in
theorem walk_PlanPlain (a0 : Int) (a1 : Int) (w : World) (_ : (Lit.int .i64 a0).wf = true) (_ : (Lit.int .i64 a1).wf = true) :
    Calls Try.prog 7 #[.int .i64 a0, .int .i64 a1] w fun e w' => e = .returned (.bool true) ∧ Below w.heap.size w w' := by
  have hu := u64_tmod_bd a0 7 (by omega)
  obtain ⟨p, hp, hp1⟩ : ∃ p : Nat, 1 + (IntKind.u64.wrap a0).tmod 7 = (p : Int) ∧ 1 ≤ p ∧ p ≤ 7 := ⟨(1 + (IntKind.u64.wrap a0).tmod 7).toNat, by omega, by omega⟩
  obtain ⟨m, hm, hm1⟩ : ∃ m : Nat, a1 % 32 = (m : Int) ∧ m ≤ 31 := ⟨(a1 % 32).toNat, by omega, by omega⟩
  go_enter Try.func7, Try.ntmps7
  go_wp2_with fail
  refine (awake_any _).mono ?_
  rintro e w1 ⟨rfl, hb⟩
  have BB := Lib.hid hb
  clear hb
  go_wp2_with fail
  refine (fine_any _).mono ?_
  rintro e w2 ⟨rfl, hb⟩
  have BB := Lib.hid (BB.out.trans (hb.mono BB.out.size))
  clear hb
  unfold cfgV
  go_wp2_with fail
  refine (plan_fine 0 p m _ (by omega) hp1 (by omega)).mono ?_
  rintro e w3 hq
  obtain ⟨A, cp, rfl, c1, c2, hr, -, -, -, hb⟩ := Row.open_ hq
  obtain ⟨hl, hget⟩ := plain_get p m hp1 hm1
  have BB := Lib.hid ((BB.out.alloc BB.out.size _).trans (hb.mono (by have := BB.out.size; simp; omega)))
  have KC : Hid (Bk w3 w2.heap.size 24 #[.int .i64 1, .int .i64 1, .int .i64 2, .int .i64 30, .int .i64 0, .int .i64 p, .bool false, .int .i64 1, .bool false, .bool false, .int .i64 0, .int .i64 0]) := Lib.hid ((Bk.new _ _ _).go hb)
  have R1 := Lib.hid hr
  have HG := Lib.hid hget
  have HL := Lib.hid hl
  rw [hl] at c1 ⊢
  clear hb hq hr hget hl
  have g0 : w3.cell? ⟨w2.heap.size, 0, none⟩ = _ := KC.out.cell 0
  have g1 : w3.cell? ⟨w2.heap.size, 1, none⟩ = _ := KC.out.cell 1
  have g2 : w3.cell? ⟨w2.heap.size, 2, none⟩ = _ := KC.out.cell 2
  have g3 : w3.cell? ⟨w2.heap.size, 3, none⟩ = _ := KC.out.cell 3
  have g4 : w3.cell? ⟨w2.heap.size, 4, none⟩ = _ := KC.out.cell 4
  have g5 : w3.cell? ⟨w2.heap.size, 5, none⟩ = _ := KC.out.cell 5
  have g6 : w3.cell? ⟨w2.heap.size, 6, none⟩ = _ := KC.out.cell 6
  have g7 : w3.cell? ⟨w2.heap.size, 7, none⟩ = _ := KC.out.cell 7
  have g8 : w3.cell? ⟨w2.heap.size, 8, none⟩ = _ := KC.out.cell 8
  have g9 : w3.cell? ⟨w2.heap.size, 9, none⟩ = _ := KC.out.cell 9
  have g10 : w3.cell? ⟨w2.heap.size, 10, none⟩ = _ := KC.out.cell 10
  have g11 : w3.cell? ⟨w2.heap.size, 11, none⟩ = _ := KC.out.cell 11
  simp at g0 g1 g2 g3 g4 g5 g6 g7 g8 g9 g10 g11
  go_wp2_with fail
  refine (plan_bad 0 p _ _ (by omega) hp1 (by omega)).mono ?_
  rintro e w4 hq
  obtain ⟨A4, cp4, rfl, -, -, -, -, -, -, hb⟩ := Row.open_ hq
  have BB := Lib.hid (BB.out.trans (hb.mono BB.out.size))
  have KC := Lib.hid (KC.out.go hb)
  have R1 := Lib.hid (R1.out.go hb)
  clear hb hq g0 g1 g2 g3 g4 g5 g6 g7 g8 g9 g10 g11
  have g0 : w4.cell? ⟨w2.heap.size, 0, none⟩ = _ := KC.out.cell 0
  have g1 : w4.cell? ⟨w2.heap.size, 1, none⟩ = _ := KC.out.cell 1
  have g2 : w4.cell? ⟨w2.heap.size, 2, none⟩ = _ := KC.out.cell 2
  have g3 : w4.cell? ⟨w2.heap.size, 3, none⟩ = _ := KC.out.cell 3
  have g4 : w4.cell? ⟨w2.heap.size, 4, none⟩ = _ := KC.out.cell 4
  have g5 : w4.cell? ⟨w2.heap.size, 5, none⟩ = _ := KC.out.cell 5
  have g6 : w4.cell? ⟨w2.heap.size, 6, none⟩ = _ := KC.out.cell 6
  have g7 : w4.cell? ⟨w2.heap.size, 7, none⟩ = _ := KC.out.cell 7
  have g8 : w4.cell? ⟨w2.heap.size, 8, none⟩ = _ := KC.out.cell 8
  have g9 : w4.cell? ⟨w2.heap.size, 9, none⟩ = _ := KC.out.cell 9
  have g10 : w4.cell? ⟨w2.heap.size, 10, none⟩ = _ := KC.out.cell 10
  have g11 : w4.cell? ⟨w2.heap.size, 11, none⟩ = _ := KC.out.cell 11
  simp at g0 g1 g2 g3 g4 g5 g6 g7 g8 g9 g10 g11
  go_wp2_with fail
  refine (plan_bad 0 p _ _ (by omega) hp1 (by omega)).mono ?_
  rintro e w5 hq
  obtain ⟨A5, cp5, rfl, -, -, -, -, -, -, hb⟩ := Row.open_ hq
  have BB := Lib.hid (BB.out.trans (hb.mono BB.out.size))
  have R1 := Lib.hid (R1.out.go hb)
  clear hb hq g0 g1 g2 g3 g4 g5 g6 g7 g8 g9 g10 g11
  go_wp2_with (go_at_call 22; refine (num_any _ _).mono ?_; rintro e w' ⟨rfl, rfl⟩)
  go_loopw [13] (fun i wr => ∃ k : Nat, k ≤ m ∧ i = .int .i64 k ∧ Below w.heap.size w wr ∧ Rp wr A (planned p 0 m)) (fun i _ => m - (intOf i).toNat)
  case atStart => exact ⟨0, Nat.zero_le _, rfl, BB.out, R1.out⟩
  case round =>
    clear BB R1
    obtain ⟨k, hk, rfl, hbl, hr⟩ := hrel
    have HB := Lib.hid hbl
    have HR := Lib.hid hr
    clear hbl hr
    by_cases hlt : k < m
    · obtain ⟨g1, rfl, hg1, f0, f1, f2, f3, f4⟩ := HR.out.at_ (show k < (planned p 0 m).length by rw [HL.out]; exact hlt)
      obtain ⟨e1, e2, e3⟩ := HG.out k hlt (by rw [HL.out]; exact hlt)
      rw [e1] at f0
      rw [e2] at f2
      generalize ((planned p 0 m)[k]'(by rw [HL.out]; exact hlt)).type = ty at *
      have e4 : ((ty : Int) == 1) = false := by simp; omega
      have hi0 : (0 : Int) ≤ (k : Int) := Int.natCast_nonneg _
      have hi1 : (k : Int) < (m : Int) := by omega
      clear e1 e2 e3 f3 f4
      go_wp2_with fail
      try go_quiet (fail)
      go_wp2_with fail
      go_roundw
      case rel => exact ⟨k + 1, by omega, by go_num, HB.out, HR.out⟩
      case measure => simp [intOf]; omega
    · go_wp2_with fail
      go_ret
      exact ⟨rfl, HB.out⟩

end Go.Proofs.Ytoniejneoibpoaa
