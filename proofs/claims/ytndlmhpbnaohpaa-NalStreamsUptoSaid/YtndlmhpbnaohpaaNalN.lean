/- SameTexts of texts that are alike; a row of units of the call's own. -/
import Derived.Test.YtndlmhpbnaohpaaNalM
import Derived.Test.YtndlmhpbnaohpaaAppendRows
import Derived.Test.YtndlmhpbnaohpaaNalDb
import Derived.Test.YtndlmhpbnaohpaaNalG
import Derived.Test.YtndlmhpbnaohpaaNalK
namespace Go.Proofs.Ytndlmhpbnaohpaa
open Go.RowKit
set_option linter.unusedVariables false
set_option linter.unusedSimpArgs false

set_option maxRecDepth 100000 in
set_option maxHeartbeats 1600000 in
theorem samet_yes (A C : Option Addr) (n c d : Nat) (z : Nat → ByteArray) (w : World) (h : Rd w w.heap.size A n fun k => .string (z k)) (g : Rd w w.heap.size C n fun k => .string (z k)) (hn : n ≤ 9223372036854775807) :
    Calls Try.prog 24 #[.slice A n c, .slice C n d] w fun e w' => e = .returned (.bool true) ∧ Below w.heap.size w w' := by
  have hnn : ((n : Int) != (n : Int)) = false := by simp
  go_enter Try.func24, Try.ntmps24
  go_wp2_with fail
  go_loopw [5] (fun i wr => ∃ k : Nat, k ≤ n ∧ i = .int .i64 k ∧ Below w.heap.size w wr) (fun i _ => n - (intOf i).toNat)
  case atStart => exact ⟨0, Nat.zero_le _, rfl, Below.refl _ _⟩
  case round =>
    obtain ⟨k, hk, rfl, hbl⟩ := hrel
    by_cases hlt : k < n
    · obtain ⟨ad, rfl, hb, hc⟩ := Rd.at_ h hlt
      obtain ⟨ad', rfl, hb', hc'⟩ := Rd.at_ g hlt
      have hc1 : wr.cell? (ad.add k) = some (.string (z k)) := (hbl.cell (by rw [block_add]; exact hb)).trans hc
      have hc2 : wr.cell? (ad'.add k) = some (.string (z k)) := (hbl.cell (by rw [block_add]; exact hb')).trans hc'
      have HB := Lib.hid hbl
      clear hbl h g hc hc' hb hb'
      have hi0 : (0 : Int) ≤ (k : Int) := Int.natCast_nonneg _
      have hi1 : (k : Int) < (n : Int) := by omega
      generalize z k = x at *
      go_wp2_with fail
      go_quiet (fail)
      go_wp2_with fail
      go_roundw
      case rel =>
        have hq := HB.out
        exact ⟨k + 1, by omega, by go_num, ⟨hq.os, hq.tape, hq.output, hq.size, hq.block⟩⟩
      case measure => simp [intOf]; omega
    · go_wp2_with fail
      go_ret
      exact ⟨rfl, hbl⟩

theorem sV_rd {w : World} {B : Nat} {A : Option Addr} {l : List (List UInt8)} (h : Rd w B A l.length (fun k => (sV l).getD k undef)) : Rd w B A l.length (fun k => .string ⟨(l.getD k []).toArray⟩) :=
  h.congr fun k hk => by simp [sV, List.getD_eq_getElem?_getD, hk]
theorem unit_info : (Try.prog.info? 32).map (fun i => (i.zero, i.size, i.bytes)) = some (some (.agg #[.int .i64 0, .int .i64 0, .string ⟨#[]⟩]), 3, 32) := by kernel_rfl
/-- the cells of units -/
def uV (R T : Nat → Int) (S : Nat → ByteArray) : Nat → List Value
  | 0 => []
  | n + 1 => uV R T S n ++ [.int .i64 (R n), .int .i64 (T n), .string (S n)]
theorem uV_len (R T : Nat → Int) (S : Nat → ByteArray) : ∀ n, (uV R T S n).length = n * 3
  | 0 => rfl
  | n + 1 => by rw [uV, List.length_append, uV_len R T S n]; simp; omega
theorem uV_get (R T : Nat → Int) (S : Nat → ByteArray) (k : Nat) : ∀ n, k < n → (uV R T S n)[k * 3]? = some (.int .i64 (R k)) ∧ (uV R T S n)[k * 3 + 1]? = some (.int .i64 (T k)) ∧ (uV R T S n)[k * 3 + 2]? = some (.string (S k))
  | 0, h => by omega
  | n + 1, h => by
    have hl := uV_len R T S n
    rw [uV]
    by_cases hk : k = n
    · subst hk
      refine ⟨?_, ?_, ?_⟩
      · rw [List.getElem?_append_right (by omega), hl, Nat.sub_self]; rfl
      · rw [List.getElem?_append_right (by omega), hl, show k * 3 + 1 - k * 3 = 1 by omega]; rfl
      · rw [List.getElem?_append_right (by omega), hl, show k * 3 + 2 - k * 3 = 2 by omega]; rfl
    · have := uV_get R T S k n (by omega)
      refine ⟨?_, ?_, ?_⟩
      · rw [List.getElem?_append_left (by omega)]; exact this.1
      · rw [List.getElem?_append_left (by omega)]; exact this.2.1
      · rw [List.getElem?_append_left (by omega)]; exact this.2.2
theorem uV_one (R T : Nat → Int) (S : Nat → ByteArray) : ∀ n, ∀ u ∈ uV R T S n, u.oneCell' = true
  | 0, u, h => by simp [uV] at h
  | n + 1, u, h => by
    rw [uV, List.mem_append] at h
    rcases h with h | h
    · exact uV_one R T S n u h
    · simp at h; rcases h with rfl | rfl | rfl <;> rfl
theorem Us.cells {w : World} {B : Nat} {A : Option Addr} {n : Nat} {R T : Nat → Int} {S : Nat → ByteArray} (h : Us w B A n R T S) (hn : 0 < n) : ∃ ad, A = some ad ∧ ∀ j u, (uV R T S n)[j]? = some u → w.cell? (ad.add j) = some u := by
  obtain ⟨ad, e, hb, hc⟩ := h hn
  refine ⟨ad, e, fun j u hj => ?_⟩
  have hjl := (List.getElem?_eq_some_iff.1 hj).1
  rw [uV_len] at hjl
  have hk : j / 3 < n := by omega
  have hg := uV_get R T S (j / 3) n hk
  have hcc := hc (j / 3) hk
  rcases (by omega : j % 3 = 0 ∨ j % 3 = 1 ∨ j % 3 = 2) with q | q | q
  · have e3 : j = j / 3 * 3 := by omega
    rw [e3] at hj ⊢
    rw [hg.1] at hj
    injection hj with hj
    rw [← hj]
    exact hcc.1
  · have e3 : j = j / 3 * 3 + 1 := by omega
    rw [e3] at hj ⊢
    rw [hg.2.1] at hj
    injection hj with hj
    rw [← hj, add_off _ _ _ (by omega)]
    exact hcc.2.1
  · have e3 : j = j / 3 * 3 + 2 := by omega
    rw [e3] at hj ⊢
    rw [hg.2.2] at hj
    injection hj with hj
    rw [← hj, add_off _ _ _ (by omega)]
    exact hcc.2.2
theorem Us.of_own {w : World} {base : Nat} {v : Value} {n : Nat} {R T : Nat → Int} {S : Nat → ByteArray} (h : w.ownsRow base 32 3 v n (uV R T S n)) :
    ∃ A c, v = .slice A n c ∧ n ≤ c ∧ Us w w.heap.size A n R T S := by
  rcases h.2 with ⟨rfl, h0⟩ | ⟨g, cap, cur, rfl, hbg, hh, hnc, hcm, _, _⟩
  · exact ⟨none, 0, by rw [h0], by omega, fun q => by omega⟩
  · refine ⟨_, _, rfl, hnc, fun hn => ⟨⟨g, 0, none⟩, rfl, (Array.getElem?_eq_some_iff.1 hh).1, fun k hk => ?_⟩⟩
    have hg := uV_get R T S k n hk
    refine ⟨?_, ?_, ?_⟩
    · rw [add_new, h.cellAt _ (by omega)]; exact hg.1
    · rw [add_new]; show w.cell? ⟨g, k * 3 + 1, none⟩ = _; rw [h.cellAt _ (by omega)]; exact hg.2.1
    · rw [add_new]; show w.cell? ⟨g, k * 3 + 2, none⟩ = _; rw [h.cellAt _ (by omega)]; exact hg.2.2
end Go.Proofs.Ytndlmhpbnaohpaa
