/- bins' maker: ones, tail, great. Printed by gen-conn.py. -/
import Derived.Test.YtfignfohcalcfaaGreatDoorConM
namespace Go.Proofs.YtfignfohcalcfaaGreatDoor
open Go.RowKit
set_option linter.unusedVariables false
set_option linter.unusedSimpArgs false

theorem nL_le {l : List UInt8} {n : Nat} (h : l.length ≤ n) : (nL l).length ≤ n := by rw [nL_len]; exact h
theorem ones_more (l : List UInt8) (k : Nat) : l ++ List.replicate k 49 ++ [49] = l ++ List.replicate (k + 1) 49 := by rw [List.append_assoc, ← List.replicate_succ']
set_option maxRecDepth 100000 in
set_option maxHeartbeats 3200000 in
theorem ones_any {base g : Nat} {l : List UInt8} (n lim : Nat) (w : World) (H : MB w base g l) (hbs : base ≤ w.heap.size) (hl : l.length ≤ 1000) (hn : n ≤ 1000) (hlim : lim ≤ 1000) :
    Calls Tryz.prog 94 #[.pointer (some ⟨g, 0, none⟩), .int .i64 n, .int .i64 lim] w fun e w' => e = .returned (.tuple #[]) ∧ MB w' base g (l ++ onesL n lim) ∧ Below base w w' := by
  obtain ⟨i0, hi, hz0, hz1, hz2⟩ := info_parts u8_info
  have HM := Lib.hid H
  have HB0 := Lib.hid hbs
  clear H hbs
  go_enter Tryz.func94, Tryz.ntmps94
  go_wp2_with fail
  go_loopw [7] (fun i wr => ∃ k : Nat, k ≤ n ∧ i = .int .i64 k ∧ MB wr base g (l ++ List.replicate k 49) ∧ Below base w wr) (fun i _ => n - (intOf i).toNat)
  case atStart => exact ⟨0, Nat.zero_le _, rfl, by rw [List.replicate_zero, List.append_nil]; exact HM.out, Below.refl _ _⟩
  case round =>
    clear HM
    obtain ⟨k, hk, rfl, hM, hB⟩ := hrel
    have HM := Lib.hid hM
    have HB := Lib.hid hB
    have HBS := Lib.hid (Nat.le_trans HB0.out hB.size)
    clear hM hB
    by_cases hlt : k < n
    · have hi0 : (0 : Int) ≤ (k : Int) := Int.natCast_nonneg _
      have hi1 : (k : Int) < (n : Int) := by omega
      obtain ⟨hge, v, h1, h2, h3⟩ := HM.out
      have hlen : (nL (l ++ List.replicate k 49)).length ≤ 100000 := nL_le (by simp; omega)
      obtain ⟨L, hL⟩ : ∃ n, n = (nL (l ++ List.replicate k 49)).length := ⟨_, rfl⟩
      rw [← hL] at h2 hlen
      have HL := Lib.hid hL
      have HO := Lib.hid h2
      have HK := Lib.hid h1
      have H3 := Lib.hid h3
      have HG := Lib.hid hge
      have c0 : wr.cell? ⟨g, 0, none⟩ = some v := h1.cell 0
      have hlt := h1.lt
      clear h1 h2 h3 hge hL HM
      go_wp2_with (at_builtin; refine wpList_append_own_at (P := Tryz.prog) _ rfl (.tmp 13) (.tmp 14) 61 rfl base 5 i0 (.int .u8 0) 1 1 Tryz.underlying61 hi hz0 hz1 hz2 rfl (by decide) v L (bV (nL (l ++ List.replicate k 49))) rfl (HO.out.alloc _) ⟨wr.heap.size, 0, none⟩ 1 1 [.int .u8 49] rfl rfl (cells_new _ _ _) (one_cell _) (by unfold maxLen; omega) (by omega) (by have := HO.out; have := HBS.out; simp; omega) ?_)
      intro v3 w5 hown3 hg3 _ hat
      have hat2 : v3.ownBlock ≠ some g := by
        rcases hat with e | e
        · rw [e]; exact H3.out
        · rw [e]; simp; omega
      have k5 : Bk w5 g 144 #[v] := (HK.out.alloc _).grown hg3 (fun e => H3.out e.symm)
      have HP := Lib.hid (MB.put (c := 49) HG.out HK.out (HL.out ▸ HO.out) H3.out rfl (HL.out ▸ rfl : L + 1 = (nL (l ++ List.replicate k 49)).length + 1) hown3 hg3 hat2)
      obtain ⟨A3, c3, hv3, _, _, _⟩ := own_slice hown3
      subst hv3
      have c5 : w5.cell? ⟨g, 0, none⟩ = some v := k5.cell 0
      have f5 := k5.frozen 0
      clear hown3 hg3 hat k5
      go_wp2_with fail
      go_roundw
      case rel => exact ⟨k + 1, by omega, by go_num, ones_more l k ▸ HP.out.1, HB.out.trans HP.out.2⟩
      case measure => simp [intOf]; omega
    · have hk2 : k = n := by omega
      subst hk2
      clear hk hlt
      by_cases hq : k < lim
      · have hq2 : (k : Int) < (lim : Int) := by omega
        obtain ⟨hge, v, h1, h2, h3⟩ := HM.out
        have hlen : (nL (l ++ List.replicate k 49)).length ≤ 100000 := nL_le (by simp; omega)
        obtain ⟨L, hL⟩ : ∃ n, n = (nL (l ++ List.replicate k 49)).length := ⟨_, rfl⟩
        rw [← hL] at h2 hlen
        have HL := Lib.hid hL
        have HO := Lib.hid h2
        have HK := Lib.hid h1
        have H3 := Lib.hid h3
        have HG := Lib.hid hge
        have c0 : wr.cell? ⟨g, 0, none⟩ = some v := h1.cell 0
        have hlt := h1.lt
        clear h1 h2 h3 hge hL HM
        go_wp2_with (at_builtin; refine wpList_append_own_at (P := Tryz.prog) _ rfl (.tmp 26) (.tmp 27) 61 rfl base 5 i0 (.int .u8 0) 1 1 Tryz.underlying61 hi hz0 hz1 hz2 rfl (by decide) v L (bV (nL (l ++ List.replicate k 49))) rfl (HO.out.alloc _) ⟨wr.heap.size, 0, none⟩ 1 1 [.int .u8 48] rfl rfl (cells_new _ _ _) (one_cell _) (by unfold maxLen; omega) (by omega) (by have := HO.out; have := HBS.out; simp; omega) ?_)
        intro v3 w5 hown3 hg3 _ hat
        have hat2 : v3.ownBlock ≠ some g := by
          rcases hat with e | e
          · rw [e]; exact H3.out
          · rw [e]; simp; omega
        have k5 : Bk w5 g 144 #[v] := (HK.out.alloc _).grown hg3 (fun e => H3.out e.symm)
        have HP := Lib.hid (MB.put (c := 48) HG.out HK.out (HL.out ▸ HO.out) H3.out rfl (HL.out ▸ rfl : L + 1 = (nL (l ++ List.replicate k 49)).length + 1) hown3 hg3 hat2)
        obtain ⟨A3, c3, hv3, _, _, _⟩ := own_slice hown3
        subst hv3
        have c5 : w5.cell? ⟨g, 0, none⟩ = some v := k5.cell 0
        have f5 := k5.frozen 0
        clear hown3 hg3 hat k5
        go_wp2_with fail
        go_end0
        have e : l ++ List.replicate k 49 ++ [48] = l ++ onesL k lim := by unfold onesL; rw [if_pos hq2, List.append_assoc]; simp
        exact ⟨rfl, e ▸ HP.out.1, HB.out.trans HP.out.2⟩
      · have hq2 : ¬ (k : Int) < (lim : Int) := by omega
        go_wp2_with fail
        go_end0
        have e : l ++ List.replicate k 49 = l ++ onesL k lim := by unfold onesL; rw [if_neg (by omega), List.append_nil]; simp
        exact ⟨rfl, e ▸ HM.out, HB.out⟩
end Go.Proofs.YtfignfohcalcfaaGreatDoor
