/- The statement NalStarts: the walk. -/
import Derived.Test.YtndlmhpbnaohpaaLawD
namespace Go.Proofs.Ytndlmhpbnaohpaa
open Go.RowKit
set_option linter.unusedVariables false
set_option linter.unusedSimpArgs false

theorem split_up (s : ByteArray) {w : World} (h : Up w) (hs : s.size ≤ 16777216) :
    Calls Try.prog 22 #[.string s] w fun e w' => ∃ v, e = .returned (.tuple #[v, .int .i64 (spE s)]) ∧ w'.ownsRow w.heap.size 9 1 v (spL s).length (sV (spL s)) ∧ Below w.heap.size w w' := by
  have h0 := h.pos
  obtain ⟨m, hm⟩ := h
  exact split0 s m w hs hm h0
theorem not_begins (s : ByteArray) (h : ¬ st3.isPrefixOf (tB s) = true) : spL s = [] ∧ spE s = if s.size = 0 then 0 else 201 := by
  unfold spL spE
  rw [if_neg h, if_neg h]
  exact ⟨rfl, rfl⟩
theorem own_nil {w : World} {base : Nat} {e : TypeId} {v : Value} (h : w.ownsRow base e 1 v 0 (sV [])) : ∃ A c, v = .slice A 0 c := by
  obtain ⟨A, c, rfl, _⟩ := Rd.of_own h
  exact ⟨A, c, rfl⟩

theorem sumL_next (xs : List (List UInt8)) (i : Nat) (h : i < xs.length) : sumL (xs.take (i + 1)) = sumL (xs.take i) + 3 + xs[i].length := by
  rw [List.take_add_one, List.getElem?_eq_getElem h, sumL_append]
  simp only [Option.toList_some, sumL]
  omega
theorem sumL_len (xs : List (List UInt8)) : 3 * xs.length ≤ sumL xs := by
  induction xs with
  | nil => simp [sumL]
  | cons x r ih => simp only [sumL, List.length_cons]; omega
theorem sumL_le (xs : List (List UInt8)) (i : Nat) : sumL (xs.take i) ≤ sumL xs := by
  have h := sumL_append (xs.take i) (xs.drop i)
  rw [List.take_append_drop] at h
  omega

set_option maxRecDepth 100000 in
set_option maxHeartbeats 6400000 in
theorem walk_NalStarts (s : ByteArray) (w : World) (hs : s.size ≤ 1048576) (w_sh : w.ShapedOpen Try.prog) :
    Calls Try.prog 10 #[.string s] w fun e w' => e = .returned (.bool true) ∧ Below w.heap.size w w' := by
  have HP := Lib.hid (Up.of_shaped w_sh)
  clear w_sh
  by_cases hb : st3.isPrefixOf (tB s) = true
  · have h3 : 3 ≤ s.size := by
      have := List.IsPrefix.length_le (List.isPrefixOf_iff_prefix.1 hb)
      rw [tB_len] at this
      exact this
    have hbe := begins_at s h3
    rw [hb] at hbe
    replace hbe := hbe.symm
    simp only [Bool.and_eq_true, beq_iff_eq] at hbe
    obtain ⟨⟨e0, e1⟩, e2⟩ := hbe
    have hL : spL s = splF [] ((tB s).drop 3) := by unfold spL; rw [if_pos hb]
    have hE : spE s = 0 := by unfold spE; rw [if_neg (by omega), if_pos hb]
    have hsum : sumL (spL s) = s.size := by
      rw [hL, splF_sum, List.length_drop, tB_len]
      simp only [List.length_nil]
      omega
    have hpos : 0 < (spL s).length := by rw [hL]; exact splF_pos _ _
    have hne : s.toList.isEmpty = false := by
      rw [ByteArray.toList_eq, List.isEmpty_eq_false_iff]
      intro q
      have : s.data.toList.length = 0 := by rw [q]; rfl
      have h3 : s.size = s.data.toList.length := rfl
      omega
    have h3' : (3 : Int) ≤ (s.size : Int) := by omega
    have i0 : (0 : Int) < (s.size : Int) := by omega
    have i1 : (1 : Int) < (s.size : Int) := by omega
    have i2 : (2 : Int) < (s.size : Int) := by omega
    obtain ⟨xs, hxs⟩ : ∃ xs, xs = spL s := ⟨_, rfl⟩
    rw [← hxs] at hsum hpos
    have HXS := Lib.hid hxs
    have HE := Lib.hid hE
    have HS := Lib.hid hsum
    obtain ⟨n, hn⟩ : ∃ n, n = xs.length := ⟨_, rfl⟩
    have hn0 : (0 : Int) < (n : Int) := by omega
    have hn1 : n ≤ 1048576 := by have := sumL_len xs; omega
    clear hb hL hE hsum hxs hpos
    go_enter Try.func10, Try.ntmps10
    go_wp2_with fail
    refine (awake_up HP.out).mono ?_
    rintro e w0 ⟨rfl, hb0⟩
    have HB := Lib.hid hb0
    have HP := Lib.hid (HP.out.go hb0)
    have hz0 := hb0.size
    clear hb0
    go_wp2_with fail
    refine (split_up s HP.out (by omega)).mono ?_
    rintro e w1 ⟨v, rfl, ho, hb1⟩
    rw [HE.out]
    rw [← HXS.out, ← hn] at ho
    obtain ⟨A, c, rfl, _, _, hrd⟩ := Rd.of_own ho
    have HR := Lib.hid hrd
    have HN := Lib.hid hn
    have HB := Lib.hid (HB.out.trans (hb1.mono hz0))
    clear ho hb1 hrd hn
    go_wp2_with fail
    go_loopw [6, 7] (fun z t wr => ∃ i : Nat, i ≤ n ∧ t = .int .i64 i ∧ z = .int .i64 (sumL (xs.take i) : Nat) ∧ wr = w1) (fun _ t _ => n - (intOf t).toNat)
    case atStart => exact ⟨0, Nat.zero_le _, rfl, rfl, rfl⟩
    case round =>
      obtain ⟨i, hi, rfl, rfl, rfl⟩ := hrel
      have hle := sumL_le xs i
      rw [HS.out] at hle
      by_cases hlt : i < n
      · obtain ⟨ad, rfl, hadb, hc⟩ := HR.out.at_ hlt
        have hil : i < xs.length := by rw [← HN.out]; exact hlt
        have hval : (sV xs).getD i undef = .string ⟨xs[i].toArray⟩ := by
          unfold sV
          rw [List.getD_eq_getElem?_getD, List.getElem?_map, List.getElem?_eq_getElem hil]
          rfl
        rw [hval] at hc
        have hnx := sumL_next xs i hil
        have hle2 := sumL_le xs (i + 1)
        rw [HS.out] at hle2
        obtain ⟨U, hU⟩ : ∃ U : ByteArray, U = ⟨xs[i].toArray⟩ := ⟨_, rfl⟩
        have hUs : U.size = xs[i].length := by rw [hU]; rfl
        rw [← hU] at hc
        rw [← hUs] at hnx
        obtain ⟨M, hM⟩ : ∃ M, M = sumL (xs.take i) := ⟨_, rfl⟩
        rw [← hM] at hnx hle ⊢
        have HNX := Lib.hid hnx
        have hle3 : M + 3 + U.size ≤ s.size := by omega
        have hlt' : (i : Int) < (n : Int) := by omega
        have hi0 : (0 : Int) ≤ (i : Int) := Int.natCast_nonneg _
        clear hnx hU hUs hM hval hle2 hadb hil
        go_wp2_with fail
        go_roundw
        case rel => exact ⟨i + 1, by omega, by go_num, by rw [HNX.out]; go_num, trivial⟩
        case measure => simp [intOf]; omega
      · obtain rfl : i = n := by omega
        have hall : sumL (xs.take i) = s.size := by rw [List.take_of_length_le (by rw [HN.out]; exact Nat.le_refl _)]; exact HS.out
        rw [hall]
        clear hall hle
        go_wp2_with (go_at_call 15; refine (num_any _ _).mono ?_; rintro e w' ⟨rfl, rfl⟩)
        go_ret
        exact ⟨rfl, HB.out⟩
  · obtain ⟨hL, hE⟩ := not_begins s hb
    have HL := Lib.hid hL
    rcases Nat.eq_zero_or_pos s.size with hz | hz
    · have hq : s.toList.isEmpty = true := by
        rw [ByteArray.toList_eq, List.isEmpty_iff_length_eq_zero]
        exact hz
      have hz' : (s.size : Int) < 3 := by omega
      rw [if_pos hz] at hE
      have HE := Lib.hid hE
      clear hL hE hb
      go_enter Try.func10, Try.ntmps10
      go_wp2_with fail
      refine (awake_up HP.out).mono ?_
      rintro e w0 ⟨rfl, hb0⟩
      have HB := Lib.hid hb0
      have HP := Lib.hid (HP.out.go hb0)
      have hz0 := hb0.size
      clear hb0
      go_wp2_with fail
      refine (split_up s HP.out (by omega)).mono ?_
      rintro e w1 ⟨v, rfl, ho, hb1⟩
      rw [HL.out] at ho
      rw [HE.out]
      obtain ⟨A, c, rfl⟩ := own_nil ho
      have HB := Lib.hid (HB.out.trans (hb1.mono hz0))
      clear ho hb1
      go_wp2_with (go_at_call 15; refine (num_any _ _).mono ?_; rintro e w' ⟨rfl, rfl⟩)
      go_ret
      exact ⟨rfl, HB.out⟩
    · have hne : s.toList.isEmpty = false := by
        rw [ByteArray.toList_eq, List.isEmpty_eq_false_iff]
        intro q
        have : s.data.toList.length = 0 := by rw [q]; rfl
        have h3 : s.size = s.data.toList.length := rfl
        omega
      rw [if_neg (by omega)] at hE
      have HE := Lib.hid hE
      by_cases h3 : 3 ≤ s.size
      · have hbe := begins_at s h3
        rw [Bool.eq_false_iff.2 hb] at hbe
        replace hbe := hbe.symm
        have h3' : (3 : Int) ≤ (s.size : Int) := by omega
        have i0 : (0 : Int) < (s.size : Int) := by omega
        have i1 : (1 : Int) < (s.size : Int) := by omega
        have i2 : (2 : Int) < (s.size : Int) := by omega
        obtain ⟨x, hx⟩ : ∃ x, (s[0]'(by omega)).toNat = x := ⟨_, rfl⟩
        obtain ⟨y, hy⟩ : ∃ x, (s[1]'(by omega)).toNat = x := ⟨_, rfl⟩
        obtain ⟨z, hz2⟩ : ∃ x, (s[2]'(by omega)).toNat = x := ⟨_, rfl⟩
        rw [hx, hy, hz2] at hbe
        have hways : (((x : Nat) : Int) == 0) = false ∨ ((((x : Nat) : Int) == 0) = true ∧ (((y : Nat) : Int) == 0) = false) ∨ ((((x : Nat) : Int) == 0) = true ∧ (((y : Nat) : Int) == 0) = true ∧ (((z : Nat) : Int) == 1) = false) := by
          have hn : ¬ (x = 0 ∧ y = 0 ∧ z = 1) := by
            rintro ⟨rfl, rfl, rfl⟩
            simp at hbe
          by_cases hx0 : x = 0
          · have a1 : (((x : Nat) : Int) == 0) = true := by rw [beq_iff_eq]; omega
            by_cases hy0 : y = 0
            · have a2 : (((y : Nat) : Int) == 0) = true := by rw [beq_iff_eq]; omega
              exact .inr (.inr ⟨a1, a2, by rw [beq_eq_false_iff_ne]; omega⟩)
            · exact .inr (.inl ⟨a1, by rw [beq_eq_false_iff_ne]; omega⟩)
          · exact .inl (by rw [beq_eq_false_iff_ne]; omega)
        clear hL hE hb hbe
        rcases hways with g0 | ⟨g0, g1⟩ | ⟨g0, g1, g2⟩
        all_goals
          go_enter Try.func10, Try.ntmps10
          go_wp2_with fail
          refine (awake_up HP.out).mono ?_
          rintro e w0 ⟨rfl, hb0⟩
          have HB := Lib.hid hb0
          have HP := Lib.hid (HP.out.go hb0)
          have hz0 := hb0.size
          clear hb0
          go_wp2_with fail
          refine (split_up s HP.out (by omega)).mono ?_
          rintro e w1 ⟨v, rfl, ho, hb1⟩
          rw [HL.out] at ho
          rw [HE.out]
          obtain ⟨A, c, rfl⟩ := own_nil ho
          have HB := Lib.hid (HB.out.trans (hb1.mono hz0))
          clear ho hb1
          go_wp2_with (go_at_call 15; refine (num_any _ _).mono ?_; rintro e w' ⟨rfl, rfl⟩)
          go_ret
          exact ⟨rfl, HB.out⟩
      · have h3' : (s.size : Int) < 3 := by omega
        clear hL hE hb
        go_enter Try.func10, Try.ntmps10
        go_wp2_with fail
        refine (awake_up HP.out).mono ?_
        rintro e w0 ⟨rfl, hb0⟩
        have HB := Lib.hid hb0
        have HP := Lib.hid (HP.out.go hb0)
        have hz0 := hb0.size
        clear hb0
        go_wp2_with fail
        refine (split_up s HP.out (by omega)).mono ?_
        rintro e w1 ⟨v, rfl, ho, hb1⟩
        rw [HL.out] at ho
        rw [HE.out]
        obtain ⟨A, c, rfl⟩ := own_nil ho
        have HB := Lib.hid (HB.out.trans (hb1.mono hz0))
        clear ho hb1
        go_wp2_with (go_at_call 15; refine (num_any _ _).mono ?_; rintro e w' ⟨rfl, rfl⟩)
        go_ret
        exact ⟨rfl, HB.out⟩
end Go.Proofs.Ytndlmhpbnaohpaa
