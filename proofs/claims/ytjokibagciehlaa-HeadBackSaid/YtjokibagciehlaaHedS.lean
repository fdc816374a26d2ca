/- SameMods, SameWeights, SameOps, SameHead: of equal ones. Printed by gen-heds.py. -/
import Derived.Test.YtjokibagciehlaaHedE
import Derived.Laws.StructEq
import Derived.Laws.Tables
namespace Go.Proofs.Ytjokibagciehlaa
open Go.RowKit
set_option linter.unusedVariables false
set_option linter.unusedSimpArgs false

theorem eq_arr3 (d : Nat) (a b c : Int) (w : World) : (Op.equalIn (d + 2) 41 (.agg #[.int .i64 a, .int .i64 b, .int .i64 c]) (.agg #[.int .i64 a, .int .i64 b, .int .i64 c])).run Try.prog w = .ok true w := by
  have u3 := Try.underlying3
  have a3 := Try.isAgg3
  have z3 := Try.sizeOf3
  rw [Op.equalIn]
  simp only [Sem.run_bind, run_underlying Try.underlying41, Result.andThen_ok]
  simp only [Std.Legacy.Range.forIn_eq_forIn_range', Std.Legacy.Range.size, Nat.sub_zero, Nat.add_sub_cancel, Nat.div_one, List.range'_succ, List.range'_zero, List.forIn_cons, List.forIn_nil]
  go_simp
  try simp
attribute [local go_sem] eq_arr3
set_option maxRecDepth 100000 in
set_option maxHeartbeats 3200000 in
theorem sameMods_yes (l : List Md) (A B : Option Addr) (c d : Nat) (w : World) (h1 : RwAt w w.heap.size A 2 mdF l) (h2 : RwAt w w.heap.size B 2 mdF l) (hn : l.length ≤ 1152921504606846976) :
    Calls Try.prog 28 #[.slice A l.length c, .slice B l.length d] w fun e w' => e = .returned (.bool true) ∧ Below w.heap.size w w' := by
  have H1 := Lib.hid h1
  have H2 := Lib.hid h2
  clear h1 h2
  go_enter Try.func28, Try.ntmps28
  go_wp2_with fail
  go_loopw [5] (fun i wr => ∃ k : Nat, k ≤ l.length ∧ i = .int .i64 k ∧ Below w.heap.size w wr) (fun i _ => l.length - (intOf i).toNat)
  case atStart => exact ⟨0, Nat.zero_le _, rfl, Below.refl _ _⟩
  case round =>
    obtain ⟨k, hk, rfl, hbl⟩ := hrel
    have HB := Lib.hid hbl
    clear hbl
    by_cases hlt : k < l.length
    · have hlt' : (k : Int) < (l.length : Int) := by omega
      have hk0 : (0 : Int) ≤ (k : Int) := Int.natCast_nonneg _
      obtain ⟨ad, rfl, hab, hc⟩ := (H1.out.below HB.out (Nat.le_refl _)) (by omega)
      obtain ⟨ae, rfl, hae, he⟩ := (H2.out.below HB.out (Nat.le_refl _)) (by omega)
      obtain ⟨hc0, hcj⟩ := hc k hlt
      obtain ⟨he0, hej⟩ := he k hlt
      have hc1 := hcj 1 (by omega) (by omega)
      have he1 := hej 1 (by omega) (by omega)
      obtain ⟨⟨mk, mv⟩, hm⟩ : ∃ m, m = l[k] := ⟨_, rfl⟩
      rw [← hm] at hc0 he0 hc1 he1
      have dc0 : wr.cell? (ad.add (k * 2)) = some (.int .i64 mk) := hc0
      have de0 : wr.cell? (ae.add (k * 2)) = some (.int .i64 mk) := he0
      have dc1 : wr.cell? ⟨(ad.add (k * 2)).block, (ad.add (k * 2)).off + 1, none⟩ = some (.int .i64 mv) := hc1
      have de1 : wr.cell? ⟨(ae.add (k * 2)).block, (ae.add (k * 2)).off + 1, none⟩ = some (.int .i64 mv) := he1
      clear hc0 he0 hc1 he1 hcj hej hc he hab hae hm
      go_wp2_with fail
      go_quiet (fail)
      go_wp2_with fail
      go_roundw
      case rel => 
        have hq := HB.out
        exact ⟨k + 1, by omega, by go_num, ⟨hq.os, hq.tape, hq.output, hq.size, hq.block⟩⟩
      case measure => simp [intOf]; omega
    · obtain rfl : k = l.length := by omega
      have hnl : ¬ (l.length : Int) < (l.length : Int) := by omega
      go_wp2_with fail
      go_ret
      exact ⟨rfl, HB.out⟩
set_option maxRecDepth 100000 in
set_option maxHeartbeats 3200000 in
theorem sameWeights_yes (l : List Wt) (A B : Option Addr) (c d : Nat) (w : World) (h1 : RwAt w w.heap.size A 6 wtF l) (h2 : RwAt w w.heap.size B 6 wtF l) (hn : l.length ≤ 1152921504606846976) :
    Calls Try.prog 29 #[.slice A l.length c, .slice B l.length d] w fun e w' => e = .returned (.bool true) ∧ Below w.heap.size w w' := by
  have H1 := Lib.hid h1
  have H2 := Lib.hid h2
  clear h1 h2
  go_enter Try.func29, Try.ntmps29
  go_wp2_with fail
  go_loopw [5] (fun i wr => ∃ k : Nat, k ≤ l.length ∧ i = .int .i64 k ∧ Below w.heap.size w wr) (fun i _ => l.length - (intOf i).toNat)
  case atStart => exact ⟨0, Nat.zero_le _, rfl, Below.refl _ _⟩
  case round =>
    obtain ⟨k, hk, rfl, hbl⟩ := hrel
    have HB := Lib.hid hbl
    clear hbl
    by_cases hlt : k < l.length
    · have hlt' : (k : Int) < (l.length : Int) := by omega
      have hk0 : (0 : Int) ≤ (k : Int) := Int.natCast_nonneg _
      obtain ⟨ad, rfl, hab, hc⟩ := (H1.out.below HB.out (Nat.le_refl _)) (by omega)
      obtain ⟨ae, rfl, hae, he⟩ := (H2.out.below HB.out (Nat.le_refl _)) (by omega)
      obtain ⟨hc0, hcj⟩ := hc k hlt
      obtain ⟨he0, hej⟩ := he k hlt
      have hc1 := hcj 1 (by omega) (by omega)
      have he1 := hej 1 (by omega) (by omega)
      have hc2 := hcj 2 (by omega) (by omega)
      have he2 := hej 2 (by omega) (by omega)
      have hc3 := hcj 3 (by omega) (by omega)
      have he3 := hej 3 (by omega) (by omega)
      have hc4 := hcj 4 (by omega) (by omega)
      have he4 := hej 4 (by omega) (by omega)
      have hc5 := hcj 5 (by omega) (by omega)
      have he5 := hej 5 (by omega) (by omega)
      obtain ⟨⟨xs0, xs1, xs2, xo0, xo1, xo2⟩, hm⟩ : ∃ m, m = l[k] := ⟨_, rfl⟩
      rw [← hm] at hc0 he0 hc1 he1 hc2 he2 hc3 he3 hc4 he4 hc5 he5
      have dc0 : wr.cell? (ad.add (k * 6)) = some (.int .i64 xs0) := hc0
      have de0 : wr.cell? (ae.add (k * 6)) = some (.int .i64 xs0) := he0
      have dc1 : wr.cell? ⟨(ad.add (k * 6)).block, (ad.add (k * 6)).off + 1, none⟩ = some (.int .i64 xs1) := hc1
      have de1 : wr.cell? ⟨(ae.add (k * 6)).block, (ae.add (k * 6)).off + 1, none⟩ = some (.int .i64 xs1) := he1
      have dc2 : wr.cell? ⟨(ad.add (k * 6)).block, (ad.add (k * 6)).off + 2, none⟩ = some (.int .i64 xs2) := hc2
      have de2 : wr.cell? ⟨(ae.add (k * 6)).block, (ae.add (k * 6)).off + 2, none⟩ = some (.int .i64 xs2) := he2
      have dc3 : wr.cell? ⟨(ad.add (k * 6)).block, (ad.add (k * 6)).off + 3, none⟩ = some (.int .i64 xo0) := hc3
      have de3 : wr.cell? ⟨(ae.add (k * 6)).block, (ae.add (k * 6)).off + 3, none⟩ = some (.int .i64 xo0) := he3
      have dc4 : wr.cell? ⟨(ad.add (k * 6)).block, (ad.add (k * 6)).off + 4, none⟩ = some (.int .i64 xo1) := hc4
      have de4 : wr.cell? ⟨(ae.add (k * 6)).block, (ae.add (k * 6)).off + 4, none⟩ = some (.int .i64 xo1) := he4
      have dc5 : wr.cell? ⟨(ad.add (k * 6)).block, (ad.add (k * 6)).off + 5, none⟩ = some (.int .i64 xo2) := hc5
      have de5 : wr.cell? ⟨(ae.add (k * 6)).block, (ae.add (k * 6)).off + 5, none⟩ = some (.int .i64 xo2) := he5
      clear hc0 he0 hc1 he1 hc2 he2 hc3 he3 hc4 he4 hc5 he5 hcj hej hc he hab hae hm
      go_wp2_with fail
      go_quiet (fail)
      go_wp2_with fail
      go_roundw
      case rel => 
        have hq := HB.out
        exact ⟨k + 1, by omega, by go_num, ⟨hq.os, hq.tape, hq.output, hq.size, hq.block⟩⟩
      case measure => simp [intOf]; omega
    · obtain rfl : k = l.length := by omega
      have hnl : ¬ (l.length : Int) < (l.length : Int) := by omega
      go_wp2_with fail
      go_ret
      exact ⟨rfl, HB.out⟩
set_option maxRecDepth 100000 in
set_option maxHeartbeats 3200000 in
theorem sameOps_yes (l : List Mo) (A B : Option Addr) (c d : Nat) (w : World) (h1 : RwAt w w.heap.size A 3 moF l) (h2 : RwAt w w.heap.size B 3 moF l) (hn : l.length ≤ 1152921504606846976) :
    Calls Try.prog 30 #[.slice A l.length c, .slice B l.length d] w fun e w' => e = .returned (.bool true) ∧ Below w.heap.size w w' := by
  have H1 := Lib.hid h1
  have H2 := Lib.hid h2
  clear h1 h2
  go_enter Try.func30, Try.ntmps30
  go_wp2_with fail
  go_loopw [5] (fun i wr => ∃ k : Nat, k ≤ l.length ∧ i = .int .i64 k ∧ Below w.heap.size w wr) (fun i _ => l.length - (intOf i).toNat)
  case atStart => exact ⟨0, Nat.zero_le _, rfl, Below.refl _ _⟩
  case round =>
    obtain ⟨k, hk, rfl, hbl⟩ := hrel
    have HB := Lib.hid hbl
    clear hbl
    by_cases hlt : k < l.length
    · have hlt' : (k : Int) < (l.length : Int) := by omega
      have hk0 : (0 : Int) ≤ (k : Int) := Int.natCast_nonneg _
      obtain ⟨ad, rfl, hab, hc⟩ := (H1.out.below HB.out (Nat.le_refl _)) (by omega)
      obtain ⟨ae, rfl, hae, he⟩ := (H2.out.below HB.out (Nat.le_refl _)) (by omega)
      obtain ⟨hc0, hcj⟩ := hc k hlt
      obtain ⟨he0, hej⟩ := he k hlt
      have hc1 := hcj 1 (by omega) (by omega)
      have he1 := hej 1 (by omega) (by omega)
      have hc2 := hcj 2 (by omega) (by omega)
      have he2 := hej 2 (by omega) (by omega)
      obtain ⟨⟨mk, ma, mb⟩, hm⟩ : ∃ m, m = l[k] := ⟨_, rfl⟩
      rw [← hm] at hc0 he0 hc1 he1 hc2 he2
      have dc0 : wr.cell? (ad.add (k * 3)) = some (.int .i64 mk) := hc0
      have de0 : wr.cell? (ae.add (k * 3)) = some (.int .i64 mk) := he0
      have dc1 : wr.cell? ⟨(ad.add (k * 3)).block, (ad.add (k * 3)).off + 1, none⟩ = some (.int .i64 ma) := hc1
      have de1 : wr.cell? ⟨(ae.add (k * 3)).block, (ae.add (k * 3)).off + 1, none⟩ = some (.int .i64 ma) := he1
      have dc2 : wr.cell? ⟨(ad.add (k * 3)).block, (ad.add (k * 3)).off + 2, none⟩ = some (.int .i64 mb) := hc2
      have de2 : wr.cell? ⟨(ae.add (k * 3)).block, (ae.add (k * 3)).off + 2, none⟩ = some (.int .i64 mb) := he2
      clear hc0 he0 hc1 he1 hc2 he2 hcj hej hc he hab hae hm
      go_wp2_with fail
      go_quiet (fail)
      go_wp2_with fail
      go_roundw
      case rel => 
        have hq := HB.out
        exact ⟨k + 1, by omega, by go_num, ⟨hq.os, hq.tape, hq.output, hq.size, hq.block⟩⟩
      case measure => simp [intOf]; omega
    · obtain rfl : k = l.length := by omega
      have hnl : ¬ (l.length : Int) < (l.length : Int) := by omega
      go_wp2_with fail
      go_ret
      exact ⟨rfl, HB.out⟩
end Go.Proofs.Ytjokibagciehlaa
