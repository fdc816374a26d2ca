/- The statement PlanGroups: the walk. -/
import Derived.Test.YtoniejneoibpoaaPlanN
import Derived.IntWalk
namespace Go.Proofs.Ytoniejneoibpoaa
open Go.RowKit
set_option linter.unusedVariables false
set_option linter.unusedSimpArgs false
attribute [local go_sem] ite_max ite_min and_7 and_31 and_63

theorem group_get (p b m : Nat) (hp : 1 ≤ p ∧ p ≤ 7) (hb : b ≤ 2) (hm : m ≤ 31) : (planned p b m).length = m ∧ keysOf (planned p b m) m = (m + p - 1) / p ∧ ∀ i, i < m → ∀ (h : i < (planned p b m).length),
    (planned p b m)[i].poc = (planned p b m)[i].frame % p * 2 ∧ (planned p b m)[i].key = ((planned p b m)[i].frame % p == 0) ∧ (planned p b m)[i].key = (i % p == 0) ∧ (planned p b m)[i].frame ≤ 64 := by
  have := group_all ⟨p, by omega⟩ ⟨b, by omega⟩ ⟨m, by omega⟩ hp.1
  simp only [groupChk, Bool.and_eq_true, beq_iff_eq, List.all_eq_true, List.mem_range] at this
  refine ⟨this.1.1, this.1.2, fun i hi h => ?_⟩
  have := this.2 i hi
  unfold groupAt at this
  rw [List.getElem?_eq_getElem h] at this
  simp only [Bool.and_eq_true, beq_iff_eq, decide_eq_true_iff] at this
  exact ⟨this.1.1, this.1.2, this.2.1, this.2.2⟩
theorem keys_succ (L : List Pic) (i : Nat) (h : i < L.length) : keysOf L (i + 1) = keysOf L i + if L[i].key = true then 1 else 0 := by
  unfold keysOf
  rw [List.take_succ_eq_append_getElem h, List.countP_append]
  simp [List.countP_cons]
theorem keys_le (L : List Pic) (i : Nat) : keysOf L i ≤ i := by
  unfold keysOf
  exact Nat.le_trans List.countP_le_length (by rw [List.length_take]; omega)

set_option maxRecDepth 100000 in
set_option maxHeartbeats 3200000 in
theorem walk_PlanGroups (a0 : Int) (a1 : Int) (a2 : Int) (w : World) (_ : (Lit.int .i64 a0).wf = true) (_ : (Lit.int .i64 a1).wf = true) (_ : (Lit.int .i64 a2).wf = true) :
    Calls Try.prog 6 #[.int .i64 a0, .int .i64 a1, .int .i64 a2] w fun e w' => e = .returned (.bool true) ∧ Below w.heap.size w w' := by
  have hu := u64_tmod_bd a0 7 (by omega)
  have hv := u64_tmod_bd a1 3 (by omega)
  obtain ⟨p, hp, hp1⟩ : ∃ p : Nat, 1 + (IntKind.u64.wrap a0).tmod 7 = (p : Int) ∧ 1 ≤ p ∧ p ≤ 7 := ⟨(1 + (IntKind.u64.wrap a0).tmod 7).toNat, by omega, by omega⟩
  obtain ⟨b, hb0, hb1⟩ : ∃ b : Nat, (IntKind.u64.wrap a1).tmod 3 = (b : Int) ∧ b ≤ 2 := ⟨((IntKind.u64.wrap a1).tmod 3).toNat, by omega, by omega⟩
  obtain ⟨m, hm, hm1⟩ : ∃ m : Nat, a2 % 32 = (m : Int) ∧ m ≤ 31 := ⟨(a2 % 32).toNat, by omega, by omega⟩
  obtain ⟨hl, hkeys, hget⟩ := group_get p b m hp1 hb1 hm1
  have HG := Lib.hid hget
  have HL := Lib.hid hl
  have HK := Lib.hid hkeys
  clear hget hl hkeys
  go_enter Try.func6, Try.ntmps6
  go_wp2_with fail
  refine (awake_any _).mono ?_
  rintro e w1 ⟨rfl, hb⟩
  have BB := Lib.hid hb
  clear hb
  go_wp2_with fail
  refine (fine_any _).mono ?_
  rintro e w2 ⟨rfl, hb⟩
  have BB := Lib.hid (BB.out.trans (hb.mono BB.out.size))
  clear hb
  unfold cfgV
  go_wp2_with fail
  refine (plan_fine b p m _ hb1 hp1 (by omega)).mono ?_
  rintro e w3 hq
  obtain ⟨A, cp, rfl, c1, c2, hr, -, -, -, hb⟩ := Row.open_ hq
  have BB := Lib.hid ((BB.out.alloc BB.out.size _).trans (hb.mono (by have := BB.out.size; simp; omega)))
  have KC : Hid (Bk w3 w2.heap.size 24 #[.int .i64 1, .int .i64 1, .int .i64 2, .int .i64 30, .int .i64 b, .int .i64 p, .bool false, .int .i64 1, .bool false, .bool false, .int .i64 0, .int .i64 0]) := Lib.hid ((Bk.new _ _ _).go hb)
  have R1 := Lib.hid hr
  rw [HL.out] at c1 ⊢
  clear hb hq hr
  go_wp2_with (go_at_call 22; refine (num_any _ _).mono ?_; rintro e w' ⟨rfl, rfl⟩)
  go_loopw [11, 12] (fun ks i wr => ∃ k : Nat, k ≤ m ∧ i = .int .i64 k ∧ ks = .int .i64 (keysOf (planned p b m) k) ∧ Below w.heap.size w wr ∧ Rp wr A (planned p b m) ∧ Bk wr w2.heap.size 24 #[.int .i64 1, .int .i64 1, .int .i64 2, .int .i64 30, .int .i64 b, .int .i64 p, .bool false, .int .i64 1, .bool false, .bool false, .int .i64 0, .int .i64 0]) (fun _ i _ => m - (intOf i).toNat)
  case atStart => exact ⟨0, Nat.zero_le _, rfl, rfl, BB.out, R1.out, KC.out⟩
  case round =>
    clear BB R1 KC
    obtain ⟨k, hk, rfl, rfl, hbl, hr, hbk⟩ := hrel
    have HB := Lib.hid hbl
    have HR := Lib.hid hr
    have k5 : wr.cell? ⟨w2.heap.size, 5, none⟩ = some (.int .i64 p) := hbk.cell 5
    have HC := Lib.hid hbk
    clear hbl hr hbk
    have hkl := keys_le (planned p b m) k
    by_cases hlt : k < m
    · have hL : k < (planned p b m).length := by rw [HL.out]; exact hlt
      obtain ⟨g1, rfl, hg1, f0, f1, f2, f3, f4⟩ := HR.out.at_ hL
      obtain ⟨e1, e2, e3, e4⟩ := HG.out k hlt hL
      have hs := Lib.hid (keys_succ (planned p b m) k hL)
      rw [e1] at f4
      rw [e2] at f3
      have E := Lib.hid (e2.symm.trans e3)
      have E2 := Lib.hid e2
      generalize ((planned p b m)[k]'hL).frame = fr at *
      generalize ((planned p b m)[k]'hL).key = ky at *
      generalize keysOf (planned p b m) k = kk at *
      have hi0 : (0 : Int) ≤ (k : Int) := Int.natCast_nonneg _
      have hi1 : (k : Int) < (m : Int) := by omega
      have hp0 : ((p : Int) == 0) = false := by simp; omega
      generalize hfp : fr % p = r at *
      generalize hkp : k % p = r2 at *
      have q1 : (fr : Int).tmod (p : Int) = (r : Int) := by rw [← hfp, Int.natCast_emod, Int.tmod_eq_emod_of_nonneg (by omega)]
      have q2 : (k : Int).tmod (p : Int) = (r2 : Int) := by rw [← hkp, Int.natCast_emod, Int.tmod_eq_emod_of_nonneg (by omega)]
      have q3 : r ≤ 64 := by have := Nat.mod_le fr p; omega
      have q6 : IntKind.i64.wrap ((r : Int) * 2) = (r : Int) * 2 := IntWalk.i64_in _ (by omega)
      have q7 : ((r * 2 : Nat) : Int) = (r : Int) * 2 := by omega
      rw [q7] at f4
      have q9 : (fr : Int) % (p : Int) = (r : Int) := by rw [← hfp, Int.natCast_emod]
      have q10 : (k : Int) % (p : Int) = (r2 : Int) := by rw [← hkp, Int.natCast_emod]
      have HF := Lib.hid hfp
      have HKp := Lib.hid hkp
      clear e1 e2 e3 f1 f2 hfp hkp q7
      have hp00 : ¬ p = 0 := by omega
      have hE := E.out
      have hE2 := E2.out
      by_cases hr0 : r = 0
      · have h2 : r2 = 0 := by subst hr0; simpa using hE.symm
        subst hr0 h2
        obtain rfl : ky = true := by simpa using hE2
        have hs' : keysOf (planned p b m) (k + 1) = kk + 1 := by simpa using hs.out
        have HS := Lib.hid hs'
        clear hE hE2 hs'
        go_wp2_with fail
        go_quiet (fail)
        go_wp2_with fail
        go_roundw
        case rel => exact ⟨k + 1, by omega, by go_num, by rw [HS.out]; go_num, ⟨HB.out.os, HB.out.tape, HB.out.output, HB.out.size, HB.out.block⟩, HR.out, HC.out⟩
        case measure => simp [intOf]; omega
      · have h2 : ¬ r2 = 0 := fun q => hr0 (by subst q; simpa using hE)
        obtain rfl : ky = false := by rw [hE2, beq_eq_false_iff_ne]; exact hr0
        have hs' : keysOf (planned p b m) (k + 1) = kk := by simpa using hs.out
        have HS := Lib.hid hs'
        have z1 : ((r : Int) == 0) = false := by simp; omega
        have z2 : ((r2 : Int) == 0) = false := by simp; omega
        clear hE hE2 hs'
        go_wp2_with fail
        go_quiet (fail)
        go_wp2_with fail
        go_roundw
        case rel => exact ⟨k + 1, by omega, by go_num, by rw [HS.out], ⟨HB.out.os, HB.out.tape, HB.out.output, HB.out.size, HB.out.block⟩, HR.out, HC.out⟩
        case measure => simp [intOf]; omega
    · obtain rfl : k = m := by omega
      have hkeys := HK.out
      have e5 : ((keysOf (planned p b k) k : Int) == ((k : Int) + p - 1) / p) = true := by
        rw [hkeys, beq_iff_eq, Int.natCast_ediv]
        congr 1
        omega
      have hp0 : ((p : Int) == 0) = false := by simp; omega
      have e6 : ((k : Int) + p - 1) / p ≤ 100 := by
        have := Nat.div_le_self (k + p - 1) p
        have h2 : (((k + p - 1) / p : Nat) : Int) = ((k : Int) + p - 1) / p := by
          rw [Int.natCast_ediv]; congr 1; omega
        omega
      clear hkeys
      go_wp2_with fail
      try go_quiet (fail)
      go_wp2_with fail
      go_ret
      exact ⟨rfl, HB.out⟩
end Go.Proofs.Ytoniejneoibpoaa
