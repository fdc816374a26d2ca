/- The document's samples; SameInts. -/
import Derived.Test.YtadinglpkphpgaaWgtA
namespace Go.Proofs.Ytadinglpkphpgaa
open Go.RowKit
set_option linter.unusedVariables false

set_option maxHeartbeats 800000 in
theorem samples2_any (A : Option Addr) (n c B : Nat) (z : Nat → Int) (w : World) (h : Ri w B A n z) (hn : n ≤ 1152921504606846976) :
    Calls Try.prog 25 #[.slice A n c] w fun e w' => e = .returned (.bool (allS n z)) ∧ w = w' := by
  go_enter Try.func25, Try.ntmps25
  go_wp2_with fail
  go_loop [3] (fun i => ∃ k : Nat, k ≤ n ∧ i = .int .i64 k ∧ ∀ j, j < k → 0 ≤ z j ∧ z j ≤ 255) (fun i => n - (intOf i).toNat)
  case atStart => exact ⟨0, Nat.zero_le _, rfl, fun j hj => absurd hj (by omega)⟩
  case round =>
    obtain ⟨k, hk, rfl, hall⟩ := hrel
    have HA := Lib.hid hall
    clear hall
    by_cases hlt : k < n
    · obtain ⟨ad, rfl, hb, hc⟩ := Rd.at_ h hlt
      have H := Lib.hid h
      clear h
      rcases (by omega : z k < 0 ∨ (0 ≤ z k ∧ 255 < z k) ∨ (0 ≤ z k ∧ z k ≤ 255)) with hz | ⟨hz, hz'⟩ | ⟨hz, hz'⟩
      · go_wp2_with fail
        go_ret
        refine ⟨ret_bool ?_, rfl⟩
        symm
        exact decide_eq_false fun g => by have := g k hlt; omega
      · go_wp2_with fail
        go_ret
        refine ⟨ret_bool ?_, rfl⟩
        symm
        exact decide_eq_false fun g => by have := g k hlt; omega
      · go_wp2_with fail
        go_round
        case rel =>
          refine ⟨k + 1, by omega, by go_num, fun j hj => ?_⟩
          by_cases hjk : j = k
          · subst hjk; exact ⟨hz, hz'⟩
          · exact HA.out j (by omega)
        case measure => simp [intOf]; omega
    · go_wp2_with fail
      go_ret
      refine ⟨ret_bool ?_, rfl⟩
      symm
      exact decide_eq_true fun j hj => HA.out j (by omega)

def sameB (n m : Nat) (z y : Nat → Int) : Bool := decide (n = m ∧ ∀ k, k < n → z k = y k)

set_option maxHeartbeats 1600000 in
theorem same_any (A C : Option Addr) (n m c d : Nat) (z y : Nat → Int) (w : World) (h : Ri w w.heap.size A n z) (g : Ri w w.heap.size C m y) (hn : n ≤ 1152921504606846976) (hm : m ≤ 1152921504606846976) :
    Calls Try.prog 15 #[.slice A n c, .slice C m d] w fun e w' => e = .returned (.bool (sameB n m z y)) ∧ Below w.heap.size w w' := by
  by_cases hnm : n = m
  · subst hnm
    go_enter Try.func15, Try.ntmps15
    go_wp2_with fail
    go_loopw [5] (fun i wr => ∃ k : Nat, k ≤ n ∧ i = .int .i64 k ∧ (∀ j, j < k → z j = y j) ∧ Below w.heap.size w wr) (fun i _ => n - (intOf i).toNat)
    case atStart => exact ⟨0, Nat.zero_le _, rfl, fun j hj => absurd hj (by omega), Below.refl _ _⟩
    case round =>
      obtain ⟨k, hk, rfl, hall, hbl⟩ := hrel
      have HA := Lib.hid hall
      clear hall
      by_cases hlt : k < n
      · obtain ⟨ad, rfl, hb, hc⟩ := Rd.at_ h hlt
        obtain ⟨ad', rfl, hb', hc'⟩ := Rd.at_ g hlt
        have hc1 : wr.cell? (ad.add k) = some (.int .i64 (z k)) := (hbl.cell (by rw [block_add]; exact hb)).trans hc
        have hc2 : wr.cell? (ad'.add k) = some (.int .i64 (y k)) := (hbl.cell (by rw [block_add]; exact hb')).trans hc'
        have HB := Lib.hid hbl
        have HX := Lib.hid h
        have HY := Lib.hid g
        clear hbl h g hc hc' hb hb'
        have hi0 : (0 : Int) ≤ (k : Int) := Int.natCast_nonneg _
        have hi1 : (k : Int) < (n : Int) := by omega
        by_cases he : z k = y k
        · have he' : (z k != y k) = false := by simp [he]
          have HE := Lib.hid he
          clear he
          go_wp2_with fail
          go_quiet (fail)
          go_wp2_with fail
          go_roundw
          case rel =>
            refine ⟨k + 1, by omega, by go_num, fun j hj => ?_, ?_⟩
            · by_cases hjk : j = k
              · subst hjk; exact HE.out
              · exact HA.out j (by omega)
            · have hq := HB.out
              exact ⟨hq.os, hq.tape, hq.output, hq.size, hq.block⟩
          case measure => simp [intOf]; omega
        · have he' : (z k != y k) = true := by simp [he]
          go_wp2_with fail
          go_quiet (fail)
          go_wp2_with fail
          go_ret
          refine ⟨ret_bool ?_, ?_⟩
          · symm
            exact decide_eq_false fun q => he (q.2 k hlt)
          · have hq := HB.out
            exact ⟨hq.os, hq.tape, hq.output, hq.size, hq.block⟩
      · go_wp2_with fail
        go_ret
        refine ⟨ret_bool ?_, hbl⟩
        symm
        exact decide_eq_true ⟨rfl, fun j hj => HA.out j (by omega)⟩
  · have hne : ((n : Int) != (m : Int)) = true := by simp; omega
    have HN := Lib.hid hnm
    clear hnm
    go_enter Try.func15, Try.ntmps15
    go_wp2_with fail
    go_ret
    refine ⟨ret_bool ?_, Below.refl _ _⟩
    symm
    exact decide_eq_false fun q => HN.out q.1

end Go.Proofs.Ytadinglpkphpgaa
