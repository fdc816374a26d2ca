/- The document's Pack. -/
import Derived.Test.YtegfglpaabddlaaBitR
namespace Go.Proofs.Ytegfglpaabddlaa
open Go.RowKit
set_option linter.unusedVariables false
set_option linter.unusedSimpArgs false

theorem bytesV_take (b : List Bool) (i m : Nat) (hi : i < b.length) (hm : i / 8 < m) : (bytesV (b.take i) m).set (i / 8) (.int .u8 (byteOf (b.take (i + 1)) (i / 8))) = bytesV (b.take (i + 1)) m := by
  have e : b.take (i + 1) = b.take i ++ [b[i]] := by rw [List.take_add_one, List.getElem?_eq_getElem hi]; rfl
  have hl : (b.take i).length = i := by rw [List.length_take]; omega
  apply List.ext_getElem
  · simp [bytesV]
  · intro k h1 h2
    have hk : k < m := by simpa [bytesV] using h2
    rw [List.getElem_set]
    split
    · rename_i h
      subst h
      simp [bytesV]
    · rename_i h
      simp only [bytesV, List.getElem_map, List.getElem_range]
      rw [e, byteOf_far _ _ _ (by rw [hl]; omega)]
theorem byteOf_take_nought (b : List Bool) (i k : Nat) (hi : i < b.length) (h : b.getD i false = false) : byteOf (b.take (i + 1)) k = byteOf (b.take i) k := by
  have e : b.take (i + 1) = b.take i ++ [false] := by
    rw [List.take_add_one, List.getElem?_eq_getElem hi]
    rw [List.getD_eq_getElem?_getD, List.getElem?_eq_getElem hi] at h
    simp at h
    rw [h]
    rfl
  have hl : (b.take i).length = i := by rw [List.length_take]; omega
  rw [e]
  by_cases hk : k = i / 8
  · have := byteOf_push (b.take i) false
    rw [hl] at this
    rw [hk, this]
    simp [bv]
  · exact byteOf_far _ _ _ (by rw [hl]; exact hk)
theorem byteOf_take_one (b : List Bool) (i : Nat) (hi : i < b.length) (h : b.getD i false = true) : bits .or .u8 (byteOf (b.take i) (i / 8) : Int) (((2 ^ (7 - i % 8) : Nat)) : Int) = (byteOf (b.take (i + 1)) (i / 8) : Int) := by
  have e : b.take (i + 1) = b.take i ++ [true] := by
    rw [List.take_add_one, List.getElem?_eq_getElem hi]
    rw [List.getD_eq_getElem?_getD, List.getElem?_eq_getElem hi] at h
    simp at h
    rw [h]
    rfl
  have hl : (b.take i).length = i := by rw [List.length_take]; omega
  have h2 : (2 : Nat) ^ (7 - i % 8) < 2 ^ 8 := Nat.pow_lt_pow_right (by omega) (by omega)
  rw [or_u8 _ _ (byteOf_lt _ _) h2, e]
  have := byteOf_push (b.take i) true
  rw [hl] at this
  rw [this]
  rfl

set_option maxRecDepth 100000 in
set_option maxHeartbeats 3200000 in
theorem pack_any (A : Option Addr) (c B0 : Nat) (b : List Bool) (w : World) (hr : Rd w B0 A b.length (fun k => .int .u8 (bu (b.getD k false)))) (hB0 : B0 ≤ w.heap.size) (hb : b.length ≤ 1100000) :
    Calls Try.prog 36 #[.slice A b.length c] w fun e w' => e = .returned (.string (packS b)) ∧ Below w.heap.size w w' := by
  obtain ⟨i0, hi, hz0, hz1, hz2⟩ := info_parts u8_info
  obtain ⟨m, hm⟩ : ∃ m, m = (b.length + 7) / 8 := ⟨_, rfl⟩
  obtain ⟨L, hL⟩ : ∃ L, L = b.length := ⟨_, rfl⟩
  have hmL : ((L : Int) + 7) / 8 = m := by omega
  have hm8 : L ≤ 8 * m := by omega
  have hmb : m ≤ 200000 := by omega
  have hmk := run_make_one (P := Try.prog) 56 5 i0 (.int .u8 0) Try.underlying56 hi hz0 hz1 rfl m (by rw [hz2]; omega) (by omega) w
  have ho := World.ownsRow_lit (base := w.heap.size) (e := 5) (size := 1) w (Array.replicate m (.int .u8 0)) m (Nat.le_refl _) (by unfold maxLen; omega) (by simp)
  have hbl := (Below.refl w.heap.size w).alloc (Nat.le_refl _) (.cells (Array.replicate m (.int .u8 0)) 5)
  have e0 : (Array.replicate m (Value.int .u8 0)).toList = bytesV (b.take 0) m := by
    rw [Array.toList_replicate]
    apply List.ext_getElem
    · simp [bytesV]
    · intro k h1 h2
      simp only [bytesV, List.getElem_map, List.getElem_range, List.getElem_replicate, List.take_zero]
      rw [byteOf_past _ _ (by simp)]
      rfl
  rw [e0] at ho
  obtain ⟨w1, hw1⟩ : ∃ w1, w1 = w.alloc (.cells (Array.replicate m (.int .u8 0)) 5) := ⟨_, rfl⟩
  rw [← hw1] at hmk ho hbl
  rw [← hL] at hr hb ⊢
  have HM := Lib.hid hm
  have HO := Lib.hid ho
  have HB := Lib.hid hbl
  have HR := Lib.hid (hr.more hB0)
  have HL := Lib.hid hL
  clear hw1 ho hbl e0 hr hL hm hB0
  go_enter Try.func36, Try.ntmps36
  go_wp2_with fail
  clear hmk hmL
  go_loopw [4] (fun t wr => ∃ i : Nat, i ≤ L ∧ t = .int .i64 i ∧ wr.ownsRow w.heap.size 5 1 (.slice (some ⟨w.heap.size, 0, none⟩) m m) m (bytesV (b.take i) m) ∧ Below w.heap.size w wr) (fun t _ => L - (intOf t).toNat)
  case atStart => exact ⟨0, Nat.zero_le _, rfl, HO.out, HB.out⟩
  case round =>
    clear HO HB
    obtain ⟨i, hi', rfl, ho, hbl⟩ := hrel
    have HO := Lib.hid ho
    have HB := Lib.hid hbl
    by_cases hlt : i < L
    · have hrr := Rd.below HR.out hbl (Nat.le_refl _)
      obtain ⟨ad, rfl, had, hc⟩ := hrr.at_ hlt
      have hiL : i < b.length := by have := HL.out; omega
      by_cases h1 : b.getD i false = true
      · rw [h1] at hc
        have hc : wr.cell? (ad.add i) = some (.int .u8 1) := hc
        obtain ⟨q, hq⟩ : ∃ q, q = i / 8 := ⟨_, rfl⟩
        obtain ⟨r, hr⟩ : ∃ r : Nat, (i : Int).tmod 8 = r := ⟨i % 8, by rw [Int.tmod_eq_emod_of_nonneg (by omega)]; omega⟩
        have hri : r = i % 8 := by rw [Int.tmod_eq_emod_of_nonneg (by omega)] at hr; omega
        have hr8 : r < 8 := by omega
        have hqi : (i : Int).tdiv 8 = q := by rw [Int.tdiv_eq_ediv_of_nonneg (by omega)]; omega
        have hqm : q < m := by omega
        have hqw : IntKind.i64.wrap (q : Int) = q := wr_in (by omega)
        have hqm2 : (q : Int) < m := by omega
        have hr0 : (0 : Int) ≤ r := Int.natCast_nonneg _
        have c1 : wr.cell? ⟨w.heap.size, q, none⟩ = some (.int .u8 (byteOf (b.take i) q)) := by
          rw [ho.cellAt q (by omega)]
          simp [bytesV, hqm]
        have f1 := ho.frozenAt q
        have hz := byteOf_take_one b i hiL h1
        rw [← hq, ← hri] at hz
        have hsh : (128 : Int) / 2 ^ r = ((2 ^ (7 - r) : Nat) : Int) := by
          rcases (by omega : r = 0 ∨ r = 1 ∨ r = 2 ∨ r = 3 ∨ r = 4 ∨ r = 5 ∨ r = 6 ∨ r = 7) with h | h | h | h | h | h | h | h <;> rw [h] <;> decide
        have hsh2 : (128 : Int) / 2 ^ min r 8 = ((2 ^ (7 - r) : Nat) : Int) := by rw [Nat.min_eq_left (by omega)]; exact hsh
        generalize 2 ^ (7 - r) = P at *
        have hst := bytesV_take b i m hiL (by omega)
        rw [← hq] at hst
        have HS := Lib.hid hst
        have HZ := Lib.hid hz
        have HQ := Lib.hid hq
        have HI := Lib.hid hiL
        obtain ⟨y, hy⟩ : ∃ y : Int, y = (byteOf (b.take i) q : Int) := ⟨_, rfl⟩
        rw [← hy] at c1
        have HY := Lib.hid hy
        clear ho hbl hrr had hst hri hz hq h1 hiL hy
        go_wp2_with fail
        refine wp_region_still_tail 13 (by kernel_rfl) (by kernel_rfl) ?_
        simp only [List.take_succ_cons, List.take_zero, List.drop_succ_cons, List.drop_zero]
        change wpStill _ _ (World.drew _) (fun a' => wpList _ _ _ _ a' (World.drew _)) _ _
        repeat still_step
        refine wpStill_nil ?_
        change wpList _ _ _ _ _ (World.drew _)
        go_wp2
        go_roundw
        case rel =>
          refine ⟨i + 1, by omega, by go_num, ?_, (HB.out.setCell (Nat.le_refl _) _).drew⟩
          have h2 := (HO.out.stored q (.int .u8 (bits .or .u8 y P))).1
          rw [HY.out, HZ.out, HS.out] at h2
          rw [HY.out, HZ.out]
          exact own_drew h2
        case measure => simp [intOf]; omega
      · have h0 : b.getD i false = false := by simpa using h1
        rw [h0] at hc
        have hc : wr.cell? (ad.add i) = some (.int .u8 0) := hc
        have hst : bytesV (b.take (i + 1)) m = bytesV (b.take i) m := by
          unfold bytesV
          apply List.map_congr_left
          intro k _
          rw [byteOf_take_nought b i k hiL h0]
        have HS := Lib.hid hst
        clear ho hbl hrr had h1 h0 hst hiL
        go_wp2
        go_roundw
        case rel => exact ⟨i + 1, by omega, by go_num, by rw [HS.out]; exact HO.out, HB.out⟩
        case measure => simp [intOf]; omega
    · obtain rfl : i = L := by omega
      have hr2 : Rd wr wr.heap.size (some ⟨w.heap.size, 0, none⟩) m (fun k => .int .u8 (byteOf b k)) := by
        obtain ⟨A2, c2, hv2, _, _, hr⟩ := Rd.of_own ho
        have hA2 : A2 = some ⟨w.heap.size, 0, none⟩ := by injection hv2 with h _ _; exact h.symm
        rw [hA2] at hr
        refine hr.congr fun k hk => ?_
        simp [bytesV, List.getD_eq_getElem?_getD, hk]
        rw [List.take_of_length_le (by rw [HL.out]; exact Nat.le_refl _)]
      have e1 : (convert 56 9 (.slice (some ⟨w.heap.size, 0, none⟩) m m)).run Try.prog wr = .ok (.string (packS b)) wr := by
        have := run_str (P := Try.prog) (c := m) Try.underlying56 Try.underlying5 Try.underlying9 hr2
        rw [this]
        unfold packS
        rw [← HM.out]
      obtain ⟨S, hS⟩ : ∃ S, packS b = S := ⟨_, rfl⟩
      rw [hS] at e1
      have HPS := Lib.hid hS
      clear hS
      clear ho hbl hr2
      go_wp2
      go_ret
      exact ⟨by rw [HPS.out]; rfl, HB.out⟩
end Go.Proofs.Ytegfglpaabddlaa
