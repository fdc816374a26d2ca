/- MaySps. -/
import Derived.Test.YtjokibagciehlaaGreatParD
namespace Go.Proofs.YtjokibagciehlaaGreat
open Go.RowKit
set_option linter.unusedVariables false
set_option linter.unusedSimpArgs false

set_option maxRecDepth 100000 in
theorem far_any (x : Int) (M g : Nat) (w : World) (hm : w.cell? ⟨M, 0, none⟩ = some (.pointer (some ⟨g, 0, none⟩))) (h9 : w.cell? ⟨g, 9, none⟩ = some (.int .i64 (-1000))) (h10 : w.cell? ⟨g, 10, none⟩ = some (.int .i64 1000)) :
    Calls Tryz.prog 83 #[.int .i64 x, .pointer (some ⟨M, 0, none⟩)] w fun e w' => e = .returned (.bool (!inB (-1000) 1000 x)) ∧ Below w.heap.size w w' := by
  obtain ⟨b, hb⟩ : ∃ b, b = inB (-1000) 1000 x := ⟨_, rfl⟩
  rw [← hb]
  have HH := Lib.hid (hb ▸ has_in (-1000) 1000 x w)
  clear hb
  go_enter Tryz.func83, Tryz.ntmps83
  go_wp2_with fail
  refine HH.out.mono ?_
  rintro e w1 ⟨rfl, hb1⟩
  have HB := Lib.hid hb1
  clear hb1
  cases b
  all_goals
    go_wp2_with fail
    go_ret
    exact ⟨rfl, HB.out⟩

/-- is one of the first n out of range? -/
def farN (z : Nat → Int) (n : Nat) : Bool := decide (∃ k, k < n ∧ inB (-1000) 1000 (z k) = false)
set_option maxRecDepth 100000 in
set_option maxHeartbeats 1600000 in
theorem index_any (A : Option Addr) (n c : Nat) (z : Nat → Int) (M g : Nat) (w : World) (hr : Ri w w.heap.size A n z) (hn : n ≤ 1152921504606846976) (hm : w.cell? ⟨M, 0, none⟩ = some (.pointer (some ⟨g, 0, none⟩))) (h9 : w.cell? ⟨g, 9, none⟩ = some (.int .i64 (-1000))) (h10 : w.cell? ⟨g, 10, none⟩ = some (.int .i64 1000)) :
    Calls Tryz.prog 111 #[.slice A n c, .func (.func 83) #[] #[.pointer (some ⟨M, 0, none⟩)]] w fun e w' => ∃ i : Int, e = .returned (.int .i64 i) ∧ decide (0 ≤ i) = farN z n ∧ Below w.heap.size w w' := by
  have HM := Lib.hid (And.intro hm (And.intro h9 h10))
  have HR := Lib.hid hr
  have hlm := World.block_lt_of_cell? w _ hm
  have hlg := World.block_lt_of_cell? w _ h9
  clear hm h9 h10 hr
  go_enter Tryz.func111, Tryz.ntmps111
  go_wp2_with fail
  go_loopw [8] (fun t wr => ∃ k : Nat, k ≤ n ∧ t = .int .i64 k ∧ (∀ j, j < k → inB (-1000) 1000 (z j) = true) ∧ Below w.heap.size w wr) (fun t _ => n - (intOf t).toNat)
  case atStart => exact ⟨0, Nat.zero_le _, rfl, fun j hj => absurd hj (by omega), Below.refl _ _⟩
  case round =>
    obtain ⟨k, hk, rfl, hall, hbl⟩ := hrel
    have HA := Lib.hid hall
    clear hall
    have hk0 : (0 : Int) ≤ (k : Int) := Int.natCast_nonneg _
    by_cases hlt : k < n
    · have hk1 : (k : Int) < (n : Int) := by omega
      obtain ⟨ad, rfl, hab, hc⟩ := Rd.at_ HR.out hlt
      have hc1 : wr.cell? (ad.add k) = some (.int .i64 (z k)) := (hbl.cell (by rw [block_add]; exact hab)).trans hc
      have HF := Lib.hid (far_any (z k) M g wr ((hbl.cell hlm).trans HM.out.1) ((hbl.cell hlg).trans HM.out.2.1) ((hbl.cell hlg).trans HM.out.2.2))
      have HB := Lib.hid hbl
      obtain ⟨b, hb⟩ : ∃ b, b = inB (-1000) 1000 (z k) := ⟨_, rfl⟩
      rw [← hb] at HF
      have HBB := Lib.hid hb
      clear hbl hc hb
      go_wp2_with fail
      refine HF.out.mono ?_
      rintro e w1 ⟨rfl, hb1⟩
      have HB1 := Lib.hid (HB.out.trans (hb1.mono HB.out.size))
      clear hb1 HF
      cases b
      · go_wp2_with fail
        go_ret
        refine ⟨_, rfl, ?_, HB1.out⟩
        rw [decide_eq_true (by omega)]
        exact (decide_eq_true ⟨k, hlt, HBB.out.symm⟩).symm
      · go_wp2_with fail
        go_roundw
        case rel => exact ⟨k + 1, by omega, by go_num, fun j hj => by
          by_cases hjk : j = k
          · subst hjk; exact HBB.out.symm
          · exact HA.out j (by omega), HB1.out⟩
        case measure => simp [intOf]; omega
    · obtain rfl : k = n := by omega
      go_wp2_with fail
      go_ret
      refine ⟨_, rfl, ?_, hbl⟩
      rw [decide_eq_false (by omega)]
      symm
      exact decide_eq_false fun ⟨j, hj, hjb⟩ => by rw [HA.out j hj] at hjb; cases hjb

set_option maxRecDepth 100000 in
theorem contains_any (A : Option Addr) (n c : Nat) (z : Nat → Int) (M g : Nat) (w : World) (hr : Ri w w.heap.size A n z) (hn : n ≤ 1152921504606846976) (hm : w.cell? ⟨M, 0, none⟩ = some (.pointer (some ⟨g, 0, none⟩))) (h9 : w.cell? ⟨g, 9, none⟩ = some (.int .i64 (-1000))) (h10 : w.cell? ⟨g, 10, none⟩ = some (.int .i64 1000)) :
    Calls Tryz.prog 82 #[.slice A n c, .func (.func 83) #[] #[.pointer (some ⟨M, 0, none⟩)]] w fun e w' => e = .returned (.bool (farN z n)) ∧ Below w.heap.size w w' := by
  have HI := Lib.hid (index_any A n c z M g w hr hn hm h9 h10)
  clear hr hm h9 h10
  go_enter Tryz.func82, Tryz.ntmps82
  go_wp2_with fail
  refine HI.out.mono ?_
  rintro e w1 ⟨i, rfl, hi, hb⟩
  have HIi := Lib.hid hi
  have HB := Lib.hid hb
  clear hi hb
  go_wp2_with fail
  go_ret
  exact ⟨ret_bool HIi.out, HB.out⟩
end Go.Proofs.YtjokibagciehlaaGreat
