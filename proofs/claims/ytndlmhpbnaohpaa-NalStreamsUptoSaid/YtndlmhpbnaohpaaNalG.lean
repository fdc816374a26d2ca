/- Split: the document's. -/
import Derived.Test.YtndlmhpbnaohpaaNalF
namespace Go.Proofs.Ytndlmhpbnaohpaa
open Go.RowKit
set_option linter.unusedVariables false
set_option linter.unusedSimpArgs false

theorem tB_piece (s : ByteArray) (i j : Nat) : (s.extract i j).data.toList = ((tB s).drop i).take (j - i) := by
  unfold tB
  simp [ByteArray.extract, ByteArray.copySlice]
theorem pre3 (s : ByteArray) (i : Nat) (h : i + 3 ≤ s.size) : ((s.extract i (i + 3)).toList == ([0, 0, 1] : List UInt8)) = st3.isPrefixOf ((tB s).drop i) := by
  rw [ByteArray.toList_eq, tB_piece]
  have e : i + 3 - i = 3 := by omega
  rw [e]
  have hl : 3 ≤ ((tB s).drop i).length := by rw [List.length_drop, tB_len]; omega
  generalize (tB s).drop i = l at *
  match l, hl with
  | a :: b :: c :: t, _ =>
    have e2 : ∀ x y : UInt8, (x == y) = (y == x) := fun x y => by rw [Bool.eq_iff_iff, beq_iff_eq, beq_iff_eq]; exact eq_comm
    simp [st3, List.isPrefixOf]
    rw [e2 a 0, e2 b 0, e2 c 1]
theorem pre3_short (s : ByteArray) (i : Nat) (h : ¬ i + 3 ≤ s.size) : ¬ st3.isPrefixOf ((tB s).drop i) = true := by
  intro q
  have := List.IsPrefix.length_le (List.isPrefixOf_iff_prefix.1 q)
  rw [List.length_drop, tB_len] at this
  simp only [st3, List.length_cons, List.length_nil] at this
  omega

theorem piece_next (s : ByteArray) (fr i : Nat) (hf : fr ≤ i) (hi : i < s.size) (h : ¬ st3.isPrefixOf ((tB s).drop i) = true) :
    splF (((tB s).drop fr).take (i - fr)) ((tB s).drop i) = splF (((tB s).drop fr).take (i + 1 - fr)) ((tB s).drop (i + 1)) := by
  have hl : i < (tB s).length := hi
  have e : (tB s).drop i = (tB s)[i] :: (tB s).drop (i + 1) := List.drop_eq_getElem_cons hl
  rw [e] at h
  have e1 : i + 1 - fr = (i - fr) + 1 := by omega
  have e2 : ((tB s).drop fr)[i - fr]? = some (tB s)[i] := by
    rw [List.getElem?_drop]
    have : fr + (i - fr) = i := by omega
    rw [this, List.getElem?_eq_getElem hl]
  rw [e, splF_no _ _ _ h, e1, List.take_add_one, e2]
  rfl
theorem piece_val (s : ByteArray) (fr i : Nat) : sV [((tB s).drop fr).take (i - fr)] = [.string (s.extract fr i)] := by
  unfold sV
  rw [← tB_piece]
  rfl

set_option maxRecDepth 100000 in
set_option maxHeartbeats 3200000 in
theorem split1 (s : ByteArray) (w : World) (hs : s.size ≤ 16777216) :
    Calls Try.prog 23 #[.string s] w fun e w' => ∃ v, e = .returned (.tuple #[v, .int .i64 (spE s)]) ∧ w'.ownsRow w.heap.size 9 1 v (spL s).length (sV (spL s)) ∧ Below w.heap.size w w' := by
  obtain ⟨i0, hi, hz0, hz1, hz2⟩ := info_parts str_info
  rcases Nat.eq_zero_or_pos s.size with hz | hz
  · have hse : s = ⟨#[]⟩ := by
      apply ByteArray.ext
      exact Array.eq_empty_of_size_eq_zero hz
    have hq : s.toList.isEmpty = true := by rw [ByteArray.toList_eq, hse]; rfl
    have HL : Hid (spL s = []) := Lib.hid (by rw [hse]; rfl)
    have HE : Hid (spE s = 0) := Lib.hid (if_pos hz)
    clear hse
    go_enter Try.func23, Try.ntmps23
    go_wp2_with fail
    go_ret2
    exact ⟨_, by (rw [HE.out]; rfl), by rw [HL.out]; exact World.ownsRow_nil _ _ _ _, Below.refl _ _⟩
  · have hne : s.toList.isEmpty = false := by
      rw [ByteArray.toList_eq, List.isEmpty_eq_false_iff]
      intro q
      have : s.data.toList.length = 0 := by rw [q]; rfl
      have h3 : s.size = s.data.toList.length := rfl
      omega
    by_cases h3 : 3 ≤ s.size
    · have hp := pre3 s 0 (by omega)
      rw [List.drop_zero] at hp
      have hb3 : (3 : Int) ≤ (s.size : Int) := by omega
      by_cases hq : st3.isPrefixOf (tB s) = true
      · have HL : Hid (spL s = splF [] ((tB s).drop 3)) := Lib.hid (by unfold spL; rw [if_pos hq])
        have HE : Hid (spE s = 0) := Lib.hid (by unfold spE; rw [if_neg (by omega), if_pos hq])
        rw [hq] at hp
        clear hq
        go_enter Try.func23, Try.ntmps23
        go_wp2_with fail
        go_loopw [4, 5, 6] (fun v f t wr => ∃ (xs : List (List UInt8)) (fr i : Nat), f = .int .i64 fr ∧ t = .int .i64 i ∧ xs.length ≤ i ∧ 3 ≤ i ∧ ((i ≤ s.size ∧ fr ≤ i ∧ xs ++ splF (((tB s).drop fr).take (i - fr)) ((tB s).drop i) = spL s) ∨ (i = s.size + 1 ∧ xs = spL s)) ∧ wr.ownsRow w.heap.size 9 1 v xs.length (sV xs) ∧ Below w.heap.size w wr) (fun _ _ t _ => s.size + 1 - (intOf t).toNat)
        case atStart => exact ⟨[], 3, 3, rfl, rfl, by simp, Nat.le_refl _, .inl ⟨h3, Nat.le_refl _, by rw [HL.out]; simp⟩, World.ownsRow_nil _ _ _ _, Below.refl _ _⟩
        case round =>
          obtain ⟨xs, fr, i, rfl, rfl, hxl, hi3, hst, ho, hb⟩ := hrel
          have HB := Lib.hid hb
          have HO := Lib.hid ho
          have hsz := hb.size
          clear ho hb
          rcases hst with ⟨hle, hfr, htot⟩ | ⟨rfl, hx⟩
          · have hle' : (i : Int) ≤ (s.size : Int) := by omega
            have hfr' : (fr : Int) ≤ (i : Int) := by omega
            obtain ⟨L, hLL⟩ : ∃ L, L = xs.length := ⟨_, rfl⟩
            have HLL := Lib.hid hLL
            rw [← hLL] at HO hxl
            clear hLL
            rcases Nat.lt_or_ge i s.size with hlt | hge
            · have hlt' : (i : Int) < (s.size : Int) := by omega
              have hne2 : ((i : Int) == (s.size : Int)) = false := by rw [beq_eq_false_iff_ne]; omega
              by_cases h6 : i + 3 ≤ s.size
              · have h6' : (i : Int) + 3 ≤ (s.size : Int) := by omega
                have hp2 := pre3 s i h6
                by_cases hq2 : st3.isPrefixOf ((tB s).drop i) = true
                · rw [hq2] at hp2
                  rw [splF_yes _ _ hq2, List.drop_drop] at htot
                  have HPV := Lib.hid (piece_val s fr i)
                  have HT := Lib.hid htot
                  clear hq2 htot
                  go_wp2_with (at_builtin; refine wpList_append_own (P := Try.prog) _ rfl (.tmp 42) (.tmp 47) 42 rfl w.heap.size 9 i0 (.string ⟨#[]⟩) 1 16 Try.underlying42 hi hz0 hz1 hz2 rfl (by decide) _ L _ rfl (HO.out.alloc _) ⟨wr.heap.size, 0, none⟩ 1 1 [.string (s.extract fr i)] rfl rfl (cells_new _ _ _) (one_str _) (by unfold maxLen; omega) (by omega) (by simp; omega) ?_)
                  intro v3 w5 hown3 hg3 _
                  have HB := Lib.hid ((HB.out.alloc hsz _).grown hg3 (by simp; omega) (fun k hk => (HO.out.lt k hk).1))
                  have HO := Lib.hid hown3
                  clear hown3 hg3
                  go_wp2_with fail
                  go_roundw
                  case rel => exact ⟨xs ++ [((tB s).drop fr).take (i - fr)], i + 3, i + 3, by go_num, by go_num, by have := HLL.out; simp; omega, by omega, .inl ⟨h6, Nat.le_refl _, by have := HT.out; simpa [Nat.add_comm] using this⟩, by have := HO.out; rw [← HPV.out, ← sV_append, HLL.out] at this; simpa using this, HB.out⟩
                  case measure => simp [intOf]; omega
                · rw [Bool.eq_false_iff.2 hq2] at hp2
                  rw [piece_next s fr i hfr hlt hq2] at htot
                  have HT := Lib.hid htot
                  clear hq2 htot
                  go_wp2_with fail
                  go_roundw
                  case rel => exact ⟨xs, fr, i + 1, by go_num, by go_num, by have := HLL.out; omega, by omega, .inl ⟨by omega, by omega, HT.out⟩, by rw [← HLL.out]; exact HO.out, HB.out⟩
                  case measure => simp [intOf]; omega
              · have hq2 := pre3_short s i h6
                have h6' : (s.size : Int) < (i : Int) + 3 := by omega
                rw [piece_next s fr i hfr hlt hq2] at htot
                have HT := Lib.hid htot
                clear hq2 htot
                go_wp2_with fail
                go_roundw
                case rel => exact ⟨xs, fr, i + 1, by go_num, by go_num, by have := HLL.out; omega, by omega, .inl ⟨by omega, by omega, HT.out⟩, by rw [← HLL.out]; exact HO.out, HB.out⟩
                case measure => simp [intOf]; omega
            · obtain rfl : i = s.size := by omega
              have HPV := Lib.hid (piece_val s fr s.size)
              have hd : (tB s).drop s.size = [] := List.drop_of_length_le (by rw [tB_len]; exact Nat.le_refl _)
              rw [hd, splF_nil] at htot
              have HT := Lib.hid htot
              clear htot
              go_wp2_with (at_builtin; refine wpList_append_own (P := Try.prog) _ rfl (.tmp 42) (.tmp 47) 42 rfl w.heap.size 9 i0 (.string ⟨#[]⟩) 1 16 Try.underlying42 hi hz0 hz1 hz2 rfl (by decide) _ L _ rfl (HO.out.alloc _) ⟨wr.heap.size, 0, none⟩ 1 1 [.string (s.extract fr s.size)] rfl rfl (cells_new _ _ _) (one_str _) (by unfold maxLen; omega) (by omega) (by simp; omega) ?_)
              intro v3 w5 hown3 hg3 _
              have HB := Lib.hid ((HB.out.alloc hsz _).grown hg3 (by simp; omega) (fun k hk => (HO.out.lt k hk).1))
              have HO := Lib.hid hown3
              clear hown3 hg3
              go_wp2_with fail
              go_roundw
              case rel => exact ⟨xs ++ [((tB s).drop fr).take (s.size - fr)], s.size + 1, s.size + 1, by go_num, by go_num, by have := HLL.out; simp; omega, by omega, .inr ⟨rfl, HT.out⟩, by have := HO.out; rw [← HPV.out, ← sV_append, HLL.out] at this; simpa using this, HB.out⟩
              case measure => simp [intOf]
          · go_wp2_with fail
            go_ret2
            exact ⟨_, by (rw [HE.out]; rfl), by have := HO.out; rw [hx] at this; exact this, HB.out⟩
      · have HL : Hid (spL s = []) := Lib.hid (by unfold spL; rw [if_neg hq])
        have HE : Hid (spE s = 201) := Lib.hid (by unfold spE; rw [if_neg (by omega), if_neg hq])
        rw [Bool.eq_false_iff.2 hq] at hp
        clear hq
        go_enter Try.func23, Try.ntmps23
        go_wp2_with fail
        go_ret2
        exact ⟨_, by (rw [HE.out]; rfl), by rw [HL.out]; exact World.ownsRow_nil _ _ _ _, Below.refl _ _⟩
    · have hq : ¬ st3.isPrefixOf (tB s) = true := pre3_short s 0 (by omega)
      have HL : Hid (spL s = []) := Lib.hid (by unfold spL; rw [if_neg hq])
      have HE : Hid (spE s = 201) := Lib.hid (by unfold spE; rw [if_neg (by omega), if_neg hq])
      have hb3 : (s.size : Int) < 3 := by omega
      clear hq
      go_enter Try.func23, Try.ntmps23
      go_wp2_with fail
      go_ret2
      exact ⟨_, by (rw [HE.out]; rfl), by rw [HL.out]; exact World.ownsRow_nil _ _ _ _, Below.refl _ _⟩
end Go.Proofs.Ytndlmhpbnaohpaa
