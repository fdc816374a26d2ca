/- The document's One where all is in range. -/
import Derived.Test.YtadinglpkphpgaaWgtD
namespace Go.Proofs.Ytadinglpkphpgaa
open Go.RowKit
set_option linter.unusedVariables false

theorem samples2_yes (A : Option Addr) (n c B : Nat) (z : Nat → Int) (w : World) (h : Ri w B A n z) (hn : n ≤ 1152921504606846976) (ha : allS n z = true) :
    Calls Try.prog 25 #[.slice A n c] w fun e w' => e = .returned (.bool true) ∧ w = w' :=
  (samples2_any A n c B z w h hn).mono fun _ _ q => ⟨q.1.trans (ret_bool ha), q.2⟩
theorem samples2_no (A : Option Addr) (n c B : Nat) (z : Nat → Int) (w : World) (h : Ri w B A n z) (hn : n ≤ 1152921504606846976) (ha : allS n z = false) :
    Calls Try.prog 25 #[.slice A n c] w fun e w' => e = .returned (.bool false) ∧ w = w' :=
  (samples2_any A n c B z w h hn).mono fun _ _ q => ⟨q.1.trans (ret_bool ha), q.2⟩

set_option maxHeartbeats 1600000 in
theorem one2_yes0 (A : Option Addr) (n c : Nat) (z : Nat → Int) (s o : Int) (w : World) (h : Ri w w.heap.size A n z) (hn : n * 8 ≤ 140737488355328) (hs : -128 ≤ s ∧ s ≤ 127) (ho : -128 ≤ o ∧ o ≤ 127) (ha : allS n z = true) :
    Calls Try.prog 10 #[.slice A n c, .int .i64 s, .int .i64 o, .int .i64 0] w fun e w' => ∃ v, e = .returned (.tuple #[v, .int .i64 0]) ∧ w'.ownsRow w.heap.size 3 1 v n ((List.range n).map fun k => .int .i64 (oneF s o 0 1 (z k))) ∧ Below w.heap.size w w' := by
  obtain ⟨i0, hi, hz0, hz1, hz2⟩ := info_parts int_info
  have hal : ∀ k, k < n → 0 ≤ z k ∧ z k ≤ 255 := of_decide_eq_true ha
  have HAL := Lib.hid hal
  clear hal
  go_enter Try.func10, Try.ntmps10
  go_wp2_with (first | (go_at_call 25; refine (samples2_yes A n c w.heap.size z _ h (by omega) ha).mono ?_; rintro e w' ⟨rfl, rfl⟩))
  go_loopw [10, 11, 12] (fun v i s12 wr => ∃ k : Nat, k ≤ n ∧ i = .int .i64 k ∧ wr.ownsRow w.heap.size 3 1 v k ((List.range k).map fun j => .int .i64 (oneF s o 0 1 (z j))) ∧ Below w.heap.size w wr) (fun _ i _ _ => n - (intOf i).toNat)
  case atStart => exact ⟨0, Nat.zero_le _, rfl, World.ownsRow_nil _ _ _ _, Below.refl _ _⟩
  case round =>
    obtain ⟨k, hk, rfl, hown, hbl⟩ := hrel
    have hsz := hbl.size
    by_cases hlt : k < n
    · obtain ⟨ad, rfl, hb, hc⟩ := Rd.at_ h hlt
      have hc1 : wr.cell? (ad.add k) = some (.int .i64 (z k)) := (hbl.cell (by rw [block_add]; exact hb)).trans hc
      have hzk := HAL.out k hlt
      have hm := mul_bd (z k) s 255 128 (by omega) (by omega)
      have HB := Lib.hid hbl
      have HX := Lib.hid h
      have HO := Lib.hid hown
      clear hbl h hc hb hown
      go_wp2_with (first | (go_at_call 26; refine (clip2_any _ _).mono ?_; rintro e w' ⟨rfl, rfl⟩) | (at_builtin; refine wpList_append_own _ rfl _ _ 22 rfl w.heap.size 3 i0 (.int .i64 0) 1 8 Try.underlying22 hi hz0 hz1 hz2 rfl (by decide) _ k _ rfl (HO.out.alloc _) ⟨wr.heap.size, 0, none⟩ 1 1 [.int .i64 (oneF s o 0 1 (z k))] rfl rfl ?c1 ?c2 (by unfold maxLen; omega) (by omega) (by simp; omega) ?_))
      case c1 =>
        intro j u hj
        rw [add_new]
        match j, hj with
        | 0, hj => simp at hj; subst hj; simp; first | rfl | simp [oneF]
      case c2 => intro u hu; simp at hu; subst hu; rfl
      intro v' w1 hown1 hg1 _
      have hb1 : Below w.heap.size w w1 := (HB.out.alloc hsz _).grown hg1 (by simp; omega) (fun j hj => (HO.out.lt j hj).1)
      rw [← range_snoc (fun j => Value.int .i64 (oneF s o 0 1 (z j))) k] at hown1
      have H1 := Lib.hid hown1
      have H2 := Lib.hid hb1
      clear hown1 hb1 hg1 hc1
      go_wp2_with fail
      go_roundw
      case rel => exact ⟨k + 1, by omega, by go_num, H1.out, H2.out⟩
      case measure => simp [intOf]; omega
    · obtain rfl : k = n := by omega
      have HB := Lib.hid hbl
      have HO := Lib.hid hown
      clear hbl hown h
      go_wp2_with fail
      go_ret2
      exact ⟨_, rfl, HO.out, HB.out⟩
set_option maxHeartbeats 1600000 in
theorem one2_yes1 (A : Option Addr) (n c : Nat) (z : Nat → Int) (s o : Int) (w : World) (h : Ri w w.heap.size A n z) (hn : n * 8 ≤ 140737488355328) (hs : -128 ≤ s ∧ s ≤ 127) (ho : -128 ≤ o ∧ o ≤ 127) (ha : allS n z = true) :
    Calls Try.prog 10 #[.slice A n c, .int .i64 s, .int .i64 o, .int .i64 1] w fun e w' => ∃ v, e = .returned (.tuple #[v, .int .i64 0]) ∧ w'.ownsRow w.heap.size 3 1 v n ((List.range n).map fun k => .int .i64 (oneF s o 1 2 (z k))) ∧ Below w.heap.size w w' := by
  obtain ⟨i0, hi, hz0, hz1, hz2⟩ := info_parts int_info
  have hal : ∀ k, k < n → 0 ≤ z k ∧ z k ≤ 255 := of_decide_eq_true ha
  have HAL := Lib.hid hal
  clear hal
  go_enter Try.func10, Try.ntmps10
  go_wp2_with (first | (go_at_call 25; refine (samples2_yes A n c w.heap.size z _ h (by omega) ha).mono ?_; rintro e w' ⟨rfl, rfl⟩))
  go_loopw [10, 11, 12] (fun v i s12 wr => ∃ k : Nat, k ≤ n ∧ i = .int .i64 k ∧ wr.ownsRow w.heap.size 3 1 v k ((List.range k).map fun j => .int .i64 (oneF s o 1 2 (z j))) ∧ Below w.heap.size w wr) (fun _ i _ _ => n - (intOf i).toNat)
  case atStart => exact ⟨0, Nat.zero_le _, rfl, World.ownsRow_nil _ _ _ _, Below.refl _ _⟩
  case round =>
    obtain ⟨k, hk, rfl, hown, hbl⟩ := hrel
    have hsz := hbl.size
    by_cases hlt : k < n
    · obtain ⟨ad, rfl, hb, hc⟩ := Rd.at_ h hlt
      have hc1 : wr.cell? (ad.add k) = some (.int .i64 (z k)) := (hbl.cell (by rw [block_add]; exact hb)).trans hc
      have hzk := HAL.out k hlt
      have hm := mul_bd (z k) s 255 128 (by omega) (by omega)
      have HB := Lib.hid hbl
      have HX := Lib.hid h
      have HO := Lib.hid hown
      clear hbl h hc hb hown
      go_wp2_with (first | (go_at_call 26; refine (clip2_any _ _).mono ?_; rintro e w' ⟨rfl, rfl⟩) | (at_builtin; refine wpList_append_own _ rfl _ _ 22 rfl w.heap.size 3 i0 (.int .i64 0) 1 8 Try.underlying22 hi hz0 hz1 hz2 rfl (by decide) _ k _ rfl (HO.out.alloc _) ⟨wr.heap.size, 0, none⟩ 1 1 [.int .i64 (oneF s o 1 2 (z k))] rfl rfl ?c1 ?c2 (by unfold maxLen; omega) (by omega) (by simp; omega) ?_))
      case c1 =>
        intro j u hj
        rw [add_new]
        match j, hj with
        | 0, hj => simp at hj; subst hj; simp; first | rfl | simp [oneF]
      case c2 => intro u hu; simp at hu; subst hu; rfl
      intro v' w1 hown1 hg1 _
      have hb1 : Below w.heap.size w w1 := (HB.out.alloc hsz _).grown hg1 (by simp; omega) (fun j hj => (HO.out.lt j hj).1)
      rw [← range_snoc (fun j => Value.int .i64 (oneF s o 1 2 (z j))) k] at hown1
      have H1 := Lib.hid hown1
      have H2 := Lib.hid hb1
      clear hown1 hb1 hg1 hc1
      go_wp2_with fail
      go_roundw
      case rel => exact ⟨k + 1, by omega, by go_num, H1.out, H2.out⟩
      case measure => simp [intOf]; omega
    · obtain rfl : k = n := by omega
      have HB := Lib.hid hbl
      have HO := Lib.hid hown
      clear hbl hown h
      go_wp2_with fail
      go_ret2
      exact ⟨_, rfl, HO.out, HB.out⟩
set_option maxHeartbeats 1600000 in
theorem one2_yes2 (A : Option Addr) (n c : Nat) (z : Nat → Int) (s o : Int) (w : World) (h : Ri w w.heap.size A n z) (hn : n * 8 ≤ 140737488355328) (hs : -128 ≤ s ∧ s ≤ 127) (ho : -128 ≤ o ∧ o ≤ 127) (ha : allS n z = true) :
    Calls Try.prog 10 #[.slice A n c, .int .i64 s, .int .i64 o, .int .i64 2] w fun e w' => ∃ v, e = .returned (.tuple #[v, .int .i64 0]) ∧ w'.ownsRow w.heap.size 3 1 v n ((List.range n).map fun k => .int .i64 (oneF s o 2 4 (z k))) ∧ Below w.heap.size w w' := by
  obtain ⟨i0, hi, hz0, hz1, hz2⟩ := info_parts int_info
  have hal : ∀ k, k < n → 0 ≤ z k ∧ z k ≤ 255 := of_decide_eq_true ha
  have HAL := Lib.hid hal
  clear hal
  go_enter Try.func10, Try.ntmps10
  go_wp2_with (first | (go_at_call 25; refine (samples2_yes A n c w.heap.size z _ h (by omega) ha).mono ?_; rintro e w' ⟨rfl, rfl⟩))
  go_loopw [10, 11, 12] (fun v i s12 wr => ∃ k : Nat, k ≤ n ∧ i = .int .i64 k ∧ wr.ownsRow w.heap.size 3 1 v k ((List.range k).map fun j => .int .i64 (oneF s o 2 4 (z j))) ∧ Below w.heap.size w wr) (fun _ i _ _ => n - (intOf i).toNat)
  case atStart => exact ⟨0, Nat.zero_le _, rfl, World.ownsRow_nil _ _ _ _, Below.refl _ _⟩
  case round =>
    obtain ⟨k, hk, rfl, hown, hbl⟩ := hrel
    have hsz := hbl.size
    by_cases hlt : k < n
    · obtain ⟨ad, rfl, hb, hc⟩ := Rd.at_ h hlt
      have hc1 : wr.cell? (ad.add k) = some (.int .i64 (z k)) := (hbl.cell (by rw [block_add]; exact hb)).trans hc
      have hzk := HAL.out k hlt
      have hm := mul_bd (z k) s 255 128 (by omega) (by omega)
      have HB := Lib.hid hbl
      have HX := Lib.hid h
      have HO := Lib.hid hown
      clear hbl h hc hb hown
      go_wp2_with (first | (go_at_call 26; refine (clip2_any _ _).mono ?_; rintro e w' ⟨rfl, rfl⟩) | (at_builtin; refine wpList_append_own _ rfl _ _ 22 rfl w.heap.size 3 i0 (.int .i64 0) 1 8 Try.underlying22 hi hz0 hz1 hz2 rfl (by decide) _ k _ rfl (HO.out.alloc _) ⟨wr.heap.size, 0, none⟩ 1 1 [.int .i64 (oneF s o 2 4 (z k))] rfl rfl ?c1 ?c2 (by unfold maxLen; omega) (by omega) (by simp; omega) ?_))
      case c1 =>
        intro j u hj
        rw [add_new]
        match j, hj with
        | 0, hj => simp at hj; subst hj; simp; first | rfl | simp [oneF]
      case c2 => intro u hu; simp at hu; subst hu; rfl
      intro v' w1 hown1 hg1 _
      have hb1 : Below w.heap.size w w1 := (HB.out.alloc hsz _).grown hg1 (by simp; omega) (fun j hj => (HO.out.lt j hj).1)
      rw [← range_snoc (fun j => Value.int .i64 (oneF s o 2 4 (z j))) k] at hown1
      have H1 := Lib.hid hown1
      have H2 := Lib.hid hb1
      clear hown1 hb1 hg1 hc1
      go_wp2_with fail
      go_roundw
      case rel => exact ⟨k + 1, by omega, by go_num, H1.out, H2.out⟩
      case measure => simp [intOf]; omega
    · obtain rfl : k = n := by omega
      have HB := Lib.hid hbl
      have HO := Lib.hid hown
      clear hbl hown h
      go_wp2_with fail
      go_ret2
      exact ⟨_, rfl, HO.out, HB.out⟩
set_option maxHeartbeats 1600000 in
theorem one2_yes3 (A : Option Addr) (n c : Nat) (z : Nat → Int) (s o : Int) (w : World) (h : Ri w w.heap.size A n z) (hn : n * 8 ≤ 140737488355328) (hs : -128 ≤ s ∧ s ≤ 127) (ho : -128 ≤ o ∧ o ≤ 127) (ha : allS n z = true) :
    Calls Try.prog 10 #[.slice A n c, .int .i64 s, .int .i64 o, .int .i64 3] w fun e w' => ∃ v, e = .returned (.tuple #[v, .int .i64 0]) ∧ w'.ownsRow w.heap.size 3 1 v n ((List.range n).map fun k => .int .i64 (oneF s o 4 8 (z k))) ∧ Below w.heap.size w w' := by
  obtain ⟨i0, hi, hz0, hz1, hz2⟩ := info_parts int_info
  have hal : ∀ k, k < n → 0 ≤ z k ∧ z k ≤ 255 := of_decide_eq_true ha
  have HAL := Lib.hid hal
  clear hal
  go_enter Try.func10, Try.ntmps10
  go_wp2_with (first | (go_at_call 25; refine (samples2_yes A n c w.heap.size z _ h (by omega) ha).mono ?_; rintro e w' ⟨rfl, rfl⟩))
  go_loopw [10, 11, 12] (fun v i s12 wr => ∃ k : Nat, k ≤ n ∧ i = .int .i64 k ∧ wr.ownsRow w.heap.size 3 1 v k ((List.range k).map fun j => .int .i64 (oneF s o 4 8 (z j))) ∧ Below w.heap.size w wr) (fun _ i _ _ => n - (intOf i).toNat)
  case atStart => exact ⟨0, Nat.zero_le _, rfl, World.ownsRow_nil _ _ _ _, Below.refl _ _⟩
  case round =>
    obtain ⟨k, hk, rfl, hown, hbl⟩ := hrel
    have hsz := hbl.size
    by_cases hlt : k < n
    · obtain ⟨ad, rfl, hb, hc⟩ := Rd.at_ h hlt
      have hc1 : wr.cell? (ad.add k) = some (.int .i64 (z k)) := (hbl.cell (by rw [block_add]; exact hb)).trans hc
      have hzk := HAL.out k hlt
      have hm := mul_bd (z k) s 255 128 (by omega) (by omega)
      have HB := Lib.hid hbl
      have HX := Lib.hid h
      have HO := Lib.hid hown
      clear hbl h hc hb hown
      go_wp2_with (first | (go_at_call 26; refine (clip2_any _ _).mono ?_; rintro e w' ⟨rfl, rfl⟩) | (at_builtin; refine wpList_append_own _ rfl _ _ 22 rfl w.heap.size 3 i0 (.int .i64 0) 1 8 Try.underlying22 hi hz0 hz1 hz2 rfl (by decide) _ k _ rfl (HO.out.alloc _) ⟨wr.heap.size, 0, none⟩ 1 1 [.int .i64 (oneF s o 4 8 (z k))] rfl rfl ?c1 ?c2 (by unfold maxLen; omega) (by omega) (by simp; omega) ?_))
      case c1 =>
        intro j u hj
        rw [add_new]
        match j, hj with
        | 0, hj => simp at hj; subst hj; simp; first | rfl | simp [oneF]
      case c2 => intro u hu; simp at hu; subst hu; rfl
      intro v' w1 hown1 hg1 _
      have hb1 : Below w.heap.size w w1 := (HB.out.alloc hsz _).grown hg1 (by simp; omega) (fun j hj => (HO.out.lt j hj).1)
      rw [← range_snoc (fun j => Value.int .i64 (oneF s o 4 8 (z j))) k] at hown1
      have H1 := Lib.hid hown1
      have H2 := Lib.hid hb1
      clear hown1 hb1 hg1 hc1
      go_wp2_with fail
      go_roundw
      case rel => exact ⟨k + 1, by omega, by go_num, H1.out, H2.out⟩
      case measure => simp [intOf]; omega
    · obtain rfl : k = n := by omega
      have HB := Lib.hid hbl
      have HO := Lib.hid hown
      clear hbl hown h
      go_wp2_with fail
      go_ret2
      exact ⟨_, rfl, HO.out, HB.out⟩
set_option maxHeartbeats 1600000 in
theorem one2_yes4 (A : Option Addr) (n c : Nat) (z : Nat → Int) (s o : Int) (w : World) (h : Ri w w.heap.size A n z) (hn : n * 8 ≤ 140737488355328) (hs : -128 ≤ s ∧ s ≤ 127) (ho : -128 ≤ o ∧ o ≤ 127) (ha : allS n z = true) :
    Calls Try.prog 10 #[.slice A n c, .int .i64 s, .int .i64 o, .int .i64 4] w fun e w' => ∃ v, e = .returned (.tuple #[v, .int .i64 0]) ∧ w'.ownsRow w.heap.size 3 1 v n ((List.range n).map fun k => .int .i64 (oneF s o 8 16 (z k))) ∧ Below w.heap.size w w' := by
  obtain ⟨i0, hi, hz0, hz1, hz2⟩ := info_parts int_info
  have hal : ∀ k, k < n → 0 ≤ z k ∧ z k ≤ 255 := of_decide_eq_true ha
  have HAL := Lib.hid hal
  clear hal
  go_enter Try.func10, Try.ntmps10
  go_wp2_with (first | (go_at_call 25; refine (samples2_yes A n c w.heap.size z _ h (by omega) ha).mono ?_; rintro e w' ⟨rfl, rfl⟩))
  go_loopw [10, 11, 12] (fun v i s12 wr => ∃ k : Nat, k ≤ n ∧ i = .int .i64 k ∧ wr.ownsRow w.heap.size 3 1 v k ((List.range k).map fun j => .int .i64 (oneF s o 8 16 (z j))) ∧ Below w.heap.size w wr) (fun _ i _ _ => n - (intOf i).toNat)
  case atStart => exact ⟨0, Nat.zero_le _, rfl, World.ownsRow_nil _ _ _ _, Below.refl _ _⟩
  case round =>
    obtain ⟨k, hk, rfl, hown, hbl⟩ := hrel
    have hsz := hbl.size
    by_cases hlt : k < n
    · obtain ⟨ad, rfl, hb, hc⟩ := Rd.at_ h hlt
      have hc1 : wr.cell? (ad.add k) = some (.int .i64 (z k)) := (hbl.cell (by rw [block_add]; exact hb)).trans hc
      have hzk := HAL.out k hlt
      have hm := mul_bd (z k) s 255 128 (by omega) (by omega)
      have HB := Lib.hid hbl
      have HX := Lib.hid h
      have HO := Lib.hid hown
      clear hbl h hc hb hown
      go_wp2_with (first | (go_at_call 26; refine (clip2_any _ _).mono ?_; rintro e w' ⟨rfl, rfl⟩) | (at_builtin; refine wpList_append_own _ rfl _ _ 22 rfl w.heap.size 3 i0 (.int .i64 0) 1 8 Try.underlying22 hi hz0 hz1 hz2 rfl (by decide) _ k _ rfl (HO.out.alloc _) ⟨wr.heap.size, 0, none⟩ 1 1 [.int .i64 (oneF s o 8 16 (z k))] rfl rfl ?c1 ?c2 (by unfold maxLen; omega) (by omega) (by simp; omega) ?_))
      case c1 =>
        intro j u hj
        rw [add_new]
        match j, hj with
        | 0, hj => simp at hj; subst hj; simp; first | rfl | simp [oneF]
      case c2 => intro u hu; simp at hu; subst hu; rfl
      intro v' w1 hown1 hg1 _
      have hb1 : Below w.heap.size w w1 := (HB.out.alloc hsz _).grown hg1 (by simp; omega) (fun j hj => (HO.out.lt j hj).1)
      rw [← range_snoc (fun j => Value.int .i64 (oneF s o 8 16 (z j))) k] at hown1
      have H1 := Lib.hid hown1
      have H2 := Lib.hid hb1
      clear hown1 hb1 hg1 hc1
      go_wp2_with fail
      go_roundw
      case rel => exact ⟨k + 1, by omega, by go_num, H1.out, H2.out⟩
      case measure => simp [intOf]; omega
    · obtain rfl : k = n := by omega
      have HB := Lib.hid hbl
      have HO := Lib.hid hown
      clear hbl hown h
      go_wp2_with fail
      go_ret2
      exact ⟨_, rfl, HO.out, HB.out⟩
set_option maxHeartbeats 1600000 in
theorem one2_yes5 (A : Option Addr) (n c : Nat) (z : Nat → Int) (s o : Int) (w : World) (h : Ri w w.heap.size A n z) (hn : n * 8 ≤ 140737488355328) (hs : -128 ≤ s ∧ s ≤ 127) (ho : -128 ≤ o ∧ o ≤ 127) (ha : allS n z = true) :
    Calls Try.prog 10 #[.slice A n c, .int .i64 s, .int .i64 o, .int .i64 5] w fun e w' => ∃ v, e = .returned (.tuple #[v, .int .i64 0]) ∧ w'.ownsRow w.heap.size 3 1 v n ((List.range n).map fun k => .int .i64 (oneF s o 16 32 (z k))) ∧ Below w.heap.size w w' := by
  obtain ⟨i0, hi, hz0, hz1, hz2⟩ := info_parts int_info
  have hal : ∀ k, k < n → 0 ≤ z k ∧ z k ≤ 255 := of_decide_eq_true ha
  have HAL := Lib.hid hal
  clear hal
  go_enter Try.func10, Try.ntmps10
  go_wp2_with (first | (go_at_call 25; refine (samples2_yes A n c w.heap.size z _ h (by omega) ha).mono ?_; rintro e w' ⟨rfl, rfl⟩))
  go_loopw [10, 11, 12] (fun v i s12 wr => ∃ k : Nat, k ≤ n ∧ i = .int .i64 k ∧ wr.ownsRow w.heap.size 3 1 v k ((List.range k).map fun j => .int .i64 (oneF s o 16 32 (z j))) ∧ Below w.heap.size w wr) (fun _ i _ _ => n - (intOf i).toNat)
  case atStart => exact ⟨0, Nat.zero_le _, rfl, World.ownsRow_nil _ _ _ _, Below.refl _ _⟩
  case round =>
    obtain ⟨k, hk, rfl, hown, hbl⟩ := hrel
    have hsz := hbl.size
    by_cases hlt : k < n
    · obtain ⟨ad, rfl, hb, hc⟩ := Rd.at_ h hlt
      have hc1 : wr.cell? (ad.add k) = some (.int .i64 (z k)) := (hbl.cell (by rw [block_add]; exact hb)).trans hc
      have hzk := HAL.out k hlt
      have hm := mul_bd (z k) s 255 128 (by omega) (by omega)
      have HB := Lib.hid hbl
      have HX := Lib.hid h
      have HO := Lib.hid hown
      clear hbl h hc hb hown
      go_wp2_with (first | (go_at_call 26; refine (clip2_any _ _).mono ?_; rintro e w' ⟨rfl, rfl⟩) | (at_builtin; refine wpList_append_own _ rfl _ _ 22 rfl w.heap.size 3 i0 (.int .i64 0) 1 8 Try.underlying22 hi hz0 hz1 hz2 rfl (by decide) _ k _ rfl (HO.out.alloc _) ⟨wr.heap.size, 0, none⟩ 1 1 [.int .i64 (oneF s o 16 32 (z k))] rfl rfl ?c1 ?c2 (by unfold maxLen; omega) (by omega) (by simp; omega) ?_))
      case c1 =>
        intro j u hj
        rw [add_new]
        match j, hj with
        | 0, hj => simp at hj; subst hj; simp; first | rfl | simp [oneF]
      case c2 => intro u hu; simp at hu; subst hu; rfl
      intro v' w1 hown1 hg1 _
      have hb1 : Below w.heap.size w w1 := (HB.out.alloc hsz _).grown hg1 (by simp; omega) (fun j hj => (HO.out.lt j hj).1)
      rw [← range_snoc (fun j => Value.int .i64 (oneF s o 16 32 (z j))) k] at hown1
      have H1 := Lib.hid hown1
      have H2 := Lib.hid hb1
      clear hown1 hb1 hg1 hc1
      go_wp2_with fail
      go_roundw
      case rel => exact ⟨k + 1, by omega, by go_num, H1.out, H2.out⟩
      case measure => simp [intOf]; omega
    · obtain rfl : k = n := by omega
      have HB := Lib.hid hbl
      have HO := Lib.hid hown
      clear hbl hown h
      go_wp2_with fail
      go_ret2
      exact ⟨_, rfl, HO.out, HB.out⟩
set_option maxHeartbeats 1600000 in
theorem one2_yes6 (A : Option Addr) (n c : Nat) (z : Nat → Int) (s o : Int) (w : World) (h : Ri w w.heap.size A n z) (hn : n * 8 ≤ 140737488355328) (hs : -128 ≤ s ∧ s ≤ 127) (ho : -128 ≤ o ∧ o ≤ 127) (ha : allS n z = true) :
    Calls Try.prog 10 #[.slice A n c, .int .i64 s, .int .i64 o, .int .i64 6] w fun e w' => ∃ v, e = .returned (.tuple #[v, .int .i64 0]) ∧ w'.ownsRow w.heap.size 3 1 v n ((List.range n).map fun k => .int .i64 (oneF s o 32 64 (z k))) ∧ Below w.heap.size w w' := by
  obtain ⟨i0, hi, hz0, hz1, hz2⟩ := info_parts int_info
  have hal : ∀ k, k < n → 0 ≤ z k ∧ z k ≤ 255 := of_decide_eq_true ha
  have HAL := Lib.hid hal
  clear hal
  go_enter Try.func10, Try.ntmps10
  go_wp2_with (first | (go_at_call 25; refine (samples2_yes A n c w.heap.size z _ h (by omega) ha).mono ?_; rintro e w' ⟨rfl, rfl⟩))
  go_loopw [10, 11, 12] (fun v i s12 wr => ∃ k : Nat, k ≤ n ∧ i = .int .i64 k ∧ wr.ownsRow w.heap.size 3 1 v k ((List.range k).map fun j => .int .i64 (oneF s o 32 64 (z j))) ∧ Below w.heap.size w wr) (fun _ i _ _ => n - (intOf i).toNat)
  case atStart => exact ⟨0, Nat.zero_le _, rfl, World.ownsRow_nil _ _ _ _, Below.refl _ _⟩
  case round =>
    obtain ⟨k, hk, rfl, hown, hbl⟩ := hrel
    have hsz := hbl.size
    by_cases hlt : k < n
    · obtain ⟨ad, rfl, hb, hc⟩ := Rd.at_ h hlt
      have hc1 : wr.cell? (ad.add k) = some (.int .i64 (z k)) := (hbl.cell (by rw [block_add]; exact hb)).trans hc
      have hzk := HAL.out k hlt
      have hm := mul_bd (z k) s 255 128 (by omega) (by omega)
      have HB := Lib.hid hbl
      have HX := Lib.hid h
      have HO := Lib.hid hown
      clear hbl h hc hb hown
      go_wp2_with (first | (go_at_call 26; refine (clip2_any _ _).mono ?_; rintro e w' ⟨rfl, rfl⟩) | (at_builtin; refine wpList_append_own _ rfl _ _ 22 rfl w.heap.size 3 i0 (.int .i64 0) 1 8 Try.underlying22 hi hz0 hz1 hz2 rfl (by decide) _ k _ rfl (HO.out.alloc _) ⟨wr.heap.size, 0, none⟩ 1 1 [.int .i64 (oneF s o 32 64 (z k))] rfl rfl ?c1 ?c2 (by unfold maxLen; omega) (by omega) (by simp; omega) ?_))
      case c1 =>
        intro j u hj
        rw [add_new]
        match j, hj with
        | 0, hj => simp at hj; subst hj; simp; first | rfl | simp [oneF]
      case c2 => intro u hu; simp at hu; subst hu; rfl
      intro v' w1 hown1 hg1 _
      have hb1 : Below w.heap.size w w1 := (HB.out.alloc hsz _).grown hg1 (by simp; omega) (fun j hj => (HO.out.lt j hj).1)
      rw [← range_snoc (fun j => Value.int .i64 (oneF s o 32 64 (z j))) k] at hown1
      have H1 := Lib.hid hown1
      have H2 := Lib.hid hb1
      clear hown1 hb1 hg1 hc1
      go_wp2_with fail
      go_roundw
      case rel => exact ⟨k + 1, by omega, by go_num, H1.out, H2.out⟩
      case measure => simp [intOf]; omega
    · obtain rfl : k = n := by omega
      have HB := Lib.hid hbl
      have HO := Lib.hid hown
      clear hbl hown h
      go_wp2_with fail
      go_ret2
      exact ⟨_, rfl, HO.out, HB.out⟩
set_option maxHeartbeats 1600000 in
theorem one2_yes7 (A : Option Addr) (n c : Nat) (z : Nat → Int) (s o : Int) (w : World) (h : Ri w w.heap.size A n z) (hn : n * 8 ≤ 140737488355328) (hs : -128 ≤ s ∧ s ≤ 127) (ho : -128 ≤ o ∧ o ≤ 127) (ha : allS n z = true) :
    Calls Try.prog 10 #[.slice A n c, .int .i64 s, .int .i64 o, .int .i64 7] w fun e w' => ∃ v, e = .returned (.tuple #[v, .int .i64 0]) ∧ w'.ownsRow w.heap.size 3 1 v n ((List.range n).map fun k => .int .i64 (oneF s o 64 128 (z k))) ∧ Below w.heap.size w w' := by
  obtain ⟨i0, hi, hz0, hz1, hz2⟩ := info_parts int_info
  have hal : ∀ k, k < n → 0 ≤ z k ∧ z k ≤ 255 := of_decide_eq_true ha
  have HAL := Lib.hid hal
  clear hal
  go_enter Try.func10, Try.ntmps10
  go_wp2_with (first | (go_at_call 25; refine (samples2_yes A n c w.heap.size z _ h (by omega) ha).mono ?_; rintro e w' ⟨rfl, rfl⟩))
  go_loopw [10, 11, 12] (fun v i s12 wr => ∃ k : Nat, k ≤ n ∧ i = .int .i64 k ∧ wr.ownsRow w.heap.size 3 1 v k ((List.range k).map fun j => .int .i64 (oneF s o 64 128 (z j))) ∧ Below w.heap.size w wr) (fun _ i _ _ => n - (intOf i).toNat)
  case atStart => exact ⟨0, Nat.zero_le _, rfl, World.ownsRow_nil _ _ _ _, Below.refl _ _⟩
  case round =>
    obtain ⟨k, hk, rfl, hown, hbl⟩ := hrel
    have hsz := hbl.size
    by_cases hlt : k < n
    · obtain ⟨ad, rfl, hb, hc⟩ := Rd.at_ h hlt
      have hc1 : wr.cell? (ad.add k) = some (.int .i64 (z k)) := (hbl.cell (by rw [block_add]; exact hb)).trans hc
      have hzk := HAL.out k hlt
      have hm := mul_bd (z k) s 255 128 (by omega) (by omega)
      have HB := Lib.hid hbl
      have HX := Lib.hid h
      have HO := Lib.hid hown
      clear hbl h hc hb hown
      go_wp2_with (first | (go_at_call 26; refine (clip2_any _ _).mono ?_; rintro e w' ⟨rfl, rfl⟩) | (at_builtin; refine wpList_append_own _ rfl _ _ 22 rfl w.heap.size 3 i0 (.int .i64 0) 1 8 Try.underlying22 hi hz0 hz1 hz2 rfl (by decide) _ k _ rfl (HO.out.alloc _) ⟨wr.heap.size, 0, none⟩ 1 1 [.int .i64 (oneF s o 64 128 (z k))] rfl rfl ?c1 ?c2 (by unfold maxLen; omega) (by omega) (by simp; omega) ?_))
      case c1 =>
        intro j u hj
        rw [add_new]
        match j, hj with
        | 0, hj => simp at hj; subst hj; simp; first | rfl | simp [oneF]
      case c2 => intro u hu; simp at hu; subst hu; rfl
      intro v' w1 hown1 hg1 _
      have hb1 : Below w.heap.size w w1 := (HB.out.alloc hsz _).grown hg1 (by simp; omega) (fun j hj => (HO.out.lt j hj).1)
      rw [← range_snoc (fun j => Value.int .i64 (oneF s o 64 128 (z j))) k] at hown1
      have H1 := Lib.hid hown1
      have H2 := Lib.hid hb1
      clear hown1 hb1 hg1 hc1
      go_wp2_with fail
      go_roundw
      case rel => exact ⟨k + 1, by omega, by go_num, H1.out, H2.out⟩
      case measure => simp [intOf]; omega
    · obtain rfl : k = n := by omega
      have HB := Lib.hid hbl
      have HO := Lib.hid hown
      clear hbl hown h
      go_wp2_with fail
      go_ret2
      exact ⟨_, rfl, HO.out, HB.out⟩

end Go.Proofs.Ytadinglpkphpgaa
