/- The statement BitsBack: the walk. -/
import Derived.Test.YtbahmiiflkgigaaLawA
import Derived.Test.YtbahmiiflkgigaaBitL
import Derived.Test.YtbahmiiflkgigaaRow
namespace Go.Proofs.Ytbahmiiflkgigaa
open Go.RowKit
set_option linter.unusedVariables false
set_option linter.unusedSimpArgs false
attribute [local go_sem] ite_max ite_min

/-- the bits of one number -/
def item (x : Int) (m : Nat) : List Bool := seL x ++ (ueL (max x (-x)).toNat ++ (teL (max x (-x) % (m + 1)).toNat m ++ dig (max x (-x)).toNat 20))
theorem item_le (x : Int) (m : Nat) (hx : -1000000 < x ∧ x < 1000000) (hm : m ≤ 1000) : (item x m).length ≤ 203 := by
  unfold item
  have h1 := seL_le (x := x) (by omega) (by omega)
  have h2 := ueL_le (x := (max x (-x)).toNat) (by omega)
  have h3 := teL_le (x := (max x (-x) % (m + 1)).toNat) (m := m) (by
    have h4 := Int.emod_lt_of_pos (max x (-x)) (show (0 : Int) < (m : Int) + 1 by omega)
    omega)
  simp only [List.length_append, dig_len]
  omega
def fold (X : Nat → Int) (m : Nat) : Nat → List Bool
  | 0 => []
  | i + 1 => fold X m i ++ item (X i) m
theorem fold_pre (X : Nat → Int) (m n : Nat) : ∀ i, i ≤ n → ∃ R, fold X m n = fold X m i ++ R := by
  induction n with
  | zero => intro i hi; exact ⟨[], by simp [show i = 0 by omega]⟩
  | succ n ih =>
    intro i hi
    by_cases h : i ≤ n
    · obtain ⟨R, hR⟩ := ih i h
      exact ⟨R ++ item (X n) m, by rw [fold, hR, List.append_assoc]⟩
    · obtain rfl : i = n + 1 := by omega
      exact ⟨[], by simp⟩
theorem fold_lies {X : Nat → Int} {m n i : Nat} {f : Nat → Bool} {N : Nat} (h : Lies f N 0 (fold X m n)) (hi : i < n) : Lies f N (fold X m i).length (item (X i) m) := by
  obtain ⟨R, hR⟩ := fold_pre X m n (i + 1) hi
  rw [hR, fold, List.append_assoc] at h
  have := h.right.left
  rwa [Nat.zero_add] at this

set_option maxRecDepth 100000 in
set_option maxHeartbeats 12800000 in
theorem walk_BitsBack (a0 : Option Addr) (n0 c0 : Nat) (z : Nat → Int) (most : Int) (w : World) (w_a0 : IntsArg w a0 n0 c0 z) (_ : (Lit.int .i64 most).wf = true) :
    Calls Try.prog 9 #[.slice a0 n0 c0, .int .i64 most] w fun e w' => e = .returned (.bool true) ∧ Below w.heap.size w w' := by
  obtain ⟨hr0, hnil, hnc, hcm, hz⟩ := w_a0
  have hn0 : n0 ≤ 140737488351232 := by omega
  have HZ := Lib.hid hr0
  have hu := u64_tmod_bd most 1000 (by omega)
  obtain ⟨m1, hm1⟩ : ∃ m1 : Nat, (IntKind.u64.wrap most).tmod 1000 = m1 := ⟨((IntKind.u64.wrap most).tmod 1000).toNat, by omega⟩
  have hm1b : m1 < 1000 := by omega
  obtain ⟨m, hm⟩ : ∃ m, m = m1 + 1 := ⟨_, rfl⟩
  have hmb : 1 ≤ m ∧ m ≤ 1000 := by omega
  have hm' : 1 + (m1 : Int) = m := by omega
  obtain ⟨X, hX⟩ : ∃ X : Nat → Int, ∀ i, (z i).tmod 1000000 = X i := ⟨fun i => (z i).tmod 1000000, fun _ => rfl⟩
  have hXb : ∀ i, -1000000 < X i ∧ X i < 1000000 := fun i => by rw [← hX]; exact tmod_bd _ _ (by omega)
  have HX := Lib.hid hX
  have HXB := Lib.hid hXb
  clear hr0 hnil hz hu hm hX hXb
  go_enter Try.func9, Try.ntmps9
  go_wp2_with fail
  refine (awake_any _).mono ?_
  rintro e w1 ⟨rfl, hb⟩
  have BB := Lib.hid hb
  clear hb
  go_wp2_with fail
  refine (st_new _).mono ?_
  rintro e w2 ⟨rfl, hw⟩
  have HW := Lib.hid hw
  clear hw
  go_wp2_with fail
  clear hm1 hm'
  go_loopw [7] (fun t wr => ∃ (i : Nat) (v : Value), i ≤ n0 ∧ i ≤ 60 ∧ t = .int .i64 i ∧ WStep w1 wr w1.heap.size v (fold X m i) (256 * i)) (fun t _ => 60 - (intOf t).toNat)
  case atStart => exact ⟨0, _, Nat.zero_le _, by omega, rfl, HW.out⟩
  case round =>
    clear HW
    obtain ⟨i, v, hi, hi60, rfl, hw⟩ := hrel
    have HW := Lib.hid hw
    by_cases hlt : i < n0 ∧ i < 60
    · obtain ⟨h1, h2⟩ := hlt
      obtain ⟨ad, rfl, -, hc⟩ := (Rd.go HZ.out (hw.from BB.out)).at_ h1
      have hx := HX.out i
      have hxb := HXB.out i
      obtain ⟨x, hxx⟩ : ∃ x, x = X i := ⟨_, rfl⟩
      rw [← hxx] at hx hxb
      have HXX := Lib.hid hxx
      have hi0 : (0 : Int) ≤ (i : Int) := Int.natCast_nonneg _
      have hi1 : (i : Int) < (n0 : Int) := by omega
      have hi2 : (i : Int) < 60 := by omega
      have hmx : 0 ≤ max x (-x) ∧ max x (-x) < 1000000 := by omega
      have hte : 0 ≤ max x (-x) % ((m : Int) + 1) ∧ max x (-x) % ((m : Int) + 1) ≤ m := by
        have e1 := Int.emod_nonneg (max x (-x)) (show (m : Int) + 1 ≠ 0 by omega)
        have e2 := Int.emod_lt_of_pos (max x (-x)) (show (0 : Int) < (m : Int) + 1 by omega)
        omega
      have hm0 : (0 : Int) < (m : Int) + 1 := by omega
      have hM : 256 * i ≤ 15360 := by omega
      clear hw hxx
      go_wp2_with fail
      ((with_reducible refine (st_se HW.out (by omega) x (by omega) (by omega)).mono ?_))
      rintro e w3 ⟨rfl, v3, hw⟩
      have HW := Lib.hid hw
      clear hw hc
      go_wp2_with fail
      ((with_reducible refine (st_ue HW.out (by omega) (max x (-x)) (by omega) (by omega)).mono ?_))
      rintro e w4 ⟨rfl, v4, hw⟩
      have HW := Lib.hid hw
      clear hw
      go_wp2_with fail
      ((with_reducible refine (st_te HW.out (by omega) (max x (-x) % ((m : Int) + 1)) m (by omega) (by omega) (by omega) (by omega)).mono ?_))
      rintro e w5 ⟨rfl, v5, hw⟩
      have HW := Lib.hid hw
      clear hw
      go_wp2_with fail
      ((with_reducible refine (st_bits HW.out (by omega) (max x (-x)) 20 (by omega) (by omega) (by omega) (by simp; omega)).mono ?_))
      rintro e w6 ⟨rfl, v6, hw⟩
      have hw7 : WStep w1 w6 w1.heap.size v6 (fold X m (i + 1)) (256 * (i + 1)) := by
        refine ⟨?_, hw.2.1, hw.2.2.1, ?_⟩
        · have := hw.1
          rw [fold, ← HXX.out]
          unfold item
          simp only [List.append_assoc] at this
          exact this
        · have := hw.2.2.2
          rw [fold, ← HXX.out]
          unfold item
          simp only [List.append_assoc] at this
          have e : (m : Int).toNat = m := by omega
          rw [e] at this
          simp only [List.length_append] at this ⊢
          exact Nat.le_trans this (by omega)
      have HW := Lib.hid hw7
      clear hw hw7
      go_wp2_with fail
      go_roundw
      case rel => exact ⟨i + 1, v6, by omega, by omega, by go_num, HW.out⟩
      case measure => simp [intOf]; omega
    · have hend : ∃ N0, N0 = i ∧ (∀ j : Nat, j ≤ N0 → j ≤ n0 ∧ j ≤ 60) ∧ ∀ j : Nat, j ≤ n0 → j ≤ 60 → j ≤ N0 := ⟨i, rfl, fun j hj => by omega, fun j h1 h2 => by omega⟩
      obtain ⟨N0, rfl, hN1, hN2⟩ := hend
      have hM : 256 * N0 ≤ 15360 := by omega
      obtain ⟨tsz, tlast, tmore, ttrail, tlen⟩ := trail_facts (fold X m N0)
      have tl := Lies.trail (fold X m N0)
      have hlen := hw.2.2.2
      obtain ⟨S, hS⟩ : ∃ S, packS (trL (fold X m N0)) = S := ⟨_, rfl⟩
      rw [hS] at tsz tlast tmore ttrail tlen tl
      have hSb : S.size ≤ 2000 := by omega
      have HS := Lib.hid hS
      have HTM := Lib.hid tmore
      have HTT := Lib.hid ttrail
      have HTL := Lib.hid tlen
      have HTI := Lib.hid tl
      have HN1 := Lib.hid hN1
      have HN2 := Lib.hid hN2
      have hcase : ((n0 : Int) ≤ N0 ∧ (n0 : Int) ≤ N0) ∨ ((N0 : Int) < n0 ∧ 60 ≤ (N0 : Int)) := by omega
      clear hw hS tsz tlast tmore ttrail tlen tl hN1 hN2 hlt hlen
      rcases hcase with ⟨h5, h6⟩ | ⟨h5, h6⟩
      all_goals
        go_wp2_with fail
        ((with_reducible refine (st_trail HW.out (by omega)).mono ?_))
        rintro e w7 ⟨rfl, v7, hw⟩
        have HW := Lib.hid hw
        clear hw
        go_wp2_with fail
        ((with_reducible refine (st_bytes HW.out HS.out).mono ?_))
        rintro e w' ⟨rfl, rfl⟩
        go_wp2_with fail
        ((with_reducible refine (st_open _ _).mono ?_))
        rintro e w8 ⟨rfl, hr⟩
        have HR := Lib.hid hr
        clear hr
        go_wp2_with fail
        go_loopw [10] (fun t wr => ∃ j : Nat, j ≤ N0 ∧ t = .int .i64 j ∧ RStep w7 wr w7.heap.size S (fold X m j).length) (fun t _ => 60 - (intOf t).toNat)
        case atStart => exact ⟨0, Nat.zero_le _, rfl, HR.out⟩
        case round =>
          clear HR
          obtain ⟨j, hj, rfl, hr⟩ := hrel
          have HR := Lib.hid hr
          by_cases hlt : j < N0
          · have hj1 := (HN1.out (j + 1) hlt).1
            have hj2 := (HN1.out (j + 1) hlt).2
            obtain ⟨ad, rfl, -, hc⟩ := (Rd.go HZ.out (hr.from (HW.out.from BB.out))).at_ hj1
            have hx := HX.out j
            have hxb := HXB.out j
            have hl := fold_lies HTI.out hlt
            have hfl : (fold X m (j + 1)).length = (fold X m j).length + (item (X j) m).length := by rw [fold, List.length_append]
            obtain ⟨x, hxx⟩ : ∃ x, x = X j := ⟨_, rfl⟩
            rw [← hxx] at hx hxb hl hfl
            have hi0 : (0 : Int) ≤ (j : Int) := Int.natCast_nonneg _
            have hi1 : (j : Int) < (n0 : Int) := by omega
            have hi2 : (j : Int) < 60 := by omega
            have hmx : 0 ≤ max x (-x) ∧ max x (-x) < 1000000 := by omega
            have hte : 0 ≤ max x (-x) % ((m : Int) + 1) ∧ max x (-x) % ((m : Int) + 1) ≤ m := by
              have e1 := Int.emod_nonneg (max x (-x)) (show (m : Int) + 1 ≠ 0 by omega)
              have e2 := Int.emod_lt_of_pos (max x (-x)) (show (0 : Int) < (m : Int) + 1 by omega)
              omega
            have hm0 : (0 : Int) < (m : Int) + 1 := by omega
            obtain ⟨y, hy⟩ : ∃ y : Nat, max x (-x) = y := ⟨(max x (-x)).toNat, by omega⟩
            obtain ⟨u, hu⟩ : ∃ u : Nat, (y : Int) % ((m : Int) + 1) = u := ⟨((y : Int) % ((m : Int) + 1)).toNat, by rw [← hy]; omega⟩
            have hy1 : y < 1000000 := by omega
            have hu1 : u ≤ m := by rw [hy, hu] at hte; omega
            unfold item at hl hfl
            rw [hy, hu, Int.toNat_natCast, Int.toNat_natCast] at hl hfl
            simp only [List.length_append] at hfl
            have l1 := hl.left.se (by omega) (by omega)
            have l2 := hl.right.left.ue (by omega)
            have l3 := hl.right.right.left.te hu1 hmb.1 (by omega)
            have l4 := hl.right.right.right.bits (by omega) (show y < 2 ^ 20 by omega)
            have b0 := hl.left.1
            have b1 := hl.right.left.1
            have b2 := hl.right.right.left.1
            have b3 := hl.right.right.right.1
            have q1 := st_rse hr (by omega) (by omega)
            rw [l1] at q1
            have L2 := Lib.hid l2
            have L3 := Lib.hid l3
            have L4 := Lib.hid l4
            have Q1 := Lib.hid q1
            have HFL := Lib.hid hfl
            clear l1 l2 l3 l4 q1 hl hfl hxx hr hte hlt
            go_wp2_with fail
            ((with_reducible refine Q1.out.mono ?_))
            rintro e w9 ⟨rfl, hr⟩
            clear Q1 hc
            have q1 := st_rue hr (by omega) (by omega)
            rw [L2.out] at q1
            have Q1 := Lib.hid q1
            clear q1 hr L2
            go_wp2_with fail
            ((with_reducible refine Q1.out.mono ?_))
            rintro e w10 ⟨rfl, hr⟩
            clear Q1
            have q1 := st_rte hr (by omega) (by omega) m
            rw [L3.out] at q1
            have Q1 := Lib.hid q1
            clear q1 hr L3
            go_wp2_with fail
            ((with_reducible refine Q1.out.mono ?_))
            rintro e w11 ⟨rfl, hr⟩
            clear Q1
            have q1 := st_rbits hr (by omega) (by omega) 20
            rw [show bitsR (sbit S) (8 * S.size) _ 20 = _ from L4.out] at q1
            have Q1 := Lib.hid q1
            clear q1 hr L4
            go_wp2_with fail
            ((with_reducible refine Q1.out.mono ?_))
            rintro e w12 ⟨rfl, hr⟩
            clear Q1
            have hr2 : RStep w7 w12 w7.heap.size S (fold X m (j + 1)).length := by
              rw [HFL.out]
              simp only [Nat.add_assoc] at hr ⊢
              exact hr
            have HR := Lib.hid hr2
            clear hr hr2
            have hy2 : ((y : Int) != max x (-x)) = false := by simp [hy]
            have hu2 : ((u : Int) != (y : Int) % ((m : Int) + 1)) = false := by simp [hu]
            have HU := Lib.hid hu
            have HY := Lib.hid hy
            clear hu hy
            go_wp2_with (go_at_call 12; refine (num_any _ _).mono ?_; rintro e w' ⟨rfl, rfl⟩)
            go_roundw
            case rel => exact ⟨j + 1, by omega, by go_num, HR.out⟩
            case measure => simp [intOf]; omega
          · obtain rfl : j = N0 := by omega
            have q1 := st_more hr (by omega)
            rw [HTM.out] at q1
            have Q1 := Lib.hid q1
            clear q1 hr hlt
            go_wp2_with fail
            ((with_reducible refine Q1.out.mono ?_))
            rintro e w13 ⟨rfl, hr⟩
            clear Q1
            have q1 := st_rtrail hr (by omega) (by have := HTI.out.1; omega)
            rw [HTT.out] at q1
            have Q1 := Lib.hid q1
            clear q1 hr
            go_wp2_with fail
            ((with_reducible refine Q1.out.mono ?_))
            rintro e w14 ⟨rfl, hr⟩
            clear Q1
            have HW2 := Lib.hid (HW.out.go hr.2.2)
            have hat := st_at hr
            obtain ⟨L, hL⟩ : ∃ L : Nat, L = 8 * S.size := ⟨_, rfl⟩
            have hat : Calls Try.prog 28 #[.pointer (some ⟨w7.heap.size, 0, none⟩)] w14 fun e w' => e = .returned (.int .i64 L) ∧ w14 = w' := by rw [hL]; exact hat
            have hlen : ((trL (fold X m j)).length : Int) = L := by rw [HTL.out, hL]
            have HAT := Lib.hid hat
            have HLEN := Lib.hid hlen
            have HR2 := Lib.hid hr
            clear hat hL hlen hr
            go_wp2_with (first | (go_at_call 12; refine (num_any _ _).mono ?_; rintro e w' ⟨rfl, rfl⟩) | (go_at_call 22; refine (st_len HW2.out HLEN.out).mono ?_; rintro e w' ⟨rfl, rfl⟩) | (go_at_call 28; refine HAT.out.mono ?_; rintro e w' ⟨rfl, rfl⟩))
            go_ret
            exact ⟨rfl, HW2.out.from BB.out⟩
end Go.Proofs.Ytbahmiiflkgigaa
