/- Unescape: the program's and the document's. -/
import Derived.Test.YtndlmhpbnaohpaaNalA
import Derived.Test.YtndlmhpbnaohpaaSep
namespace Go.Proofs.Ytndlmhpbnaohpaa
open Go.RowKit
set_option linter.unusedVariables false
set_option linter.unusedSimpArgs false

theorem toList_inj {a b : ByteArray} (h : a.toList = b.toList) : a = b := by
  rw [ByteArray.toList_eq, ByteArray.toList_eq] at h
  obtain ⟨⟨a⟩⟩ := a
  obtain ⟨⟨b⟩⟩ := b
  simp at h
  rw [h]
/-- what Unescape answers -/
def unOk (s : ByteArray) : Bool := decide (txt (esc (une (bl s))) = s)
def unS (s : ByteArray) : ByteArray := if unOk s = true then txt (une (bl s)) else ByteArray.empty
def unE (s : ByteArray) : Int := if unOk s = true then 0 else 200
theorem ret_si {k : IntKind} {a c : ByteArray} {b d : Int} (h : a = c) (g : b = d) : Ending.returned (.tuple #[.string a, .int k b]) = .returned (.tuple #[.string c, .int k d]) := by rw [h, g]

set_option maxRecDepth 100000 in
set_option maxHeartbeats 6400000 in
theorem une_any (s : ByteArray) (w : World) (hs : s.size ≤ 4194304) :
    Calls Try.prog 11 #[.string s] w fun e w' => e = .returned (.tuple #[.string (unS s), .int .i64 (unE s)]) ∧ Below w.heap.size w w' := by
  obtain ⟨i0, hi, hz0, hz1, hz2⟩ := info_parts u8_info
  obtain ⟨l, hl⟩ : ∃ l, l = bl s := ⟨_, rfl⟩
  have hll : l.length = s.size := by rw [hl]; exact bl_len s
  have hlt : ∀ b ∈ l, b < 256 := by rw [hl]; exact bl_lt s
  have hat : ∀ k (h : k < s.size), (s[k]'h).toNat = l.getD k 0 := fun k h => by rw [List.getD_eq_getElem?_getD, List.getElem?_eq_getElem (by omega)]; subst hl; exact (bl_at s k h).symm
  have hun : une l = une (bl s) := by rw [hl]
  have hul := une_len l
  have hub := une_bytes l hlt
  have HL := Lib.hid hll
  have HLT := Lib.hid hlt
  have HAT := Lib.hid hat
  have HUN := Lib.hid hun
  have HUL := Lib.hid hul
  have HUB := Lib.hid hub
  clear hl hll hlt hat hun hul hub
  have hmk := run_make_cap (P := Try.prog) 51 5 i0 (.int .u8 0) Try.underlying51 hi hz0 hz1 rfl s.size (by rw [hz2]; omega) (by omega) w
  have ho : (w.alloc (.cells (Array.replicate s.size (.int .u8 0)) 5)).ownsRow w.heap.size 5 1 (.slice (some ⟨w.heap.size, 0, none⟩) 0 s.size) ([] : List Nat).length (bV []) :=
    ⟨rfl, .inr ⟨w.heap.size, s.size, _, rfl, Nat.le_refl _, heap_alloc_new w _, Nat.zero_le _, by unfold maxLen; omega, by simp, rfl⟩⟩
  have hb := (Below.refl w.heap.size w).alloc (Nat.le_refl _) (.cells (Array.replicate s.size (.int .u8 0)) 5)
  obtain ⟨w1, hw1⟩ : ∃ w1, w1 = w.alloc (.cells (Array.replicate s.size (.int .u8 0)) 5) := ⟨_, rfl⟩
  rw [← hw1] at hmk ho hb
  have HO := Lib.hid ho
  have HB := Lib.hid hb
  clear hw1 ho hb
  go_enter Try.func11, Try.ntmps11
  go_wp2_with fail
  clear hmk
  go_loopw [4, 5, 12] (fun v z t wr => ∃ (i : Nat) (E : List Nat) (Z : Nat), i ≤ s.size ∧ t = .int .i64 i ∧ z = .int .i64 Z ∧ (E, Z) = (l.take i).foldl stepU ([], 0) ∧ wr.ownsRow w.heap.size 5 1 v E.length (bV E) ∧ Below w.heap.size w wr) (fun _ _ t _ => s.size - (intOf t).toNat)
  case atStart => exact ⟨0, [], 0, Nat.zero_le _, rfl, rfl, by simp, HO.out, HB.out⟩
  case round =>
    obtain ⟨i, E, Z, hi', rfl, rfl, hst, ho, hb⟩ := hrel
    have hbd := stepU_len l i (by have := HL.out; omega)
    rw [← hst] at hbd
    simp only at hbd
    have HB := Lib.hid hb
    have HO := Lib.hid ho
    have hsz := hb.size
    clear ho hb
    by_cases hlt : i < s.size
    · have hil : i < l.length := by have := HL.out; omega
      have hst2 := fold_take (f := stepU) (e := ([], 0)) l i hil
      rw [← hst] at hst2
      have hg : (s[i]'hlt).toNat = l[i] := (HAT.out i hlt).trans (by rw [List.getD_eq_getElem?_getD, List.getElem?_eq_getElem hil]; rfl)
      have h256 := HLT.out _ (List.getElem_mem hil)
      obtain ⟨b, hb'⟩ : ∃ b, b = l[i] := ⟨_, rfl⟩
      rw [← hb'] at hst2 hg h256
      have hEl : E.length ≤ 8388608 := by omega
      have hil2 : (i : Int) < (s.size : Int) := by omega
      have hi0 : (0 : Int) ≤ (i : Int) := Int.natCast_nonneg _
      have hZb : Z ≤ 8388608 := by omega
      clear hst hb' hbd
      obtain ⟨L, hL⟩ : ∃ L, L = E.length := ⟨_, rfl⟩
      rw [← hL] at HO hEl
      have HEL := Lib.hid hL
      clear hL
      by_cases hc : b = 3 ∧ Z = 2
      · have hst3 : (l.take (i + 1)).foldl stepU ([], 0) = (E, 0) := hst2.trans (if_pos hc)
        have HST := Lib.hid hst3
        obtain ⟨rfl, rfl⟩ := hc
        clear hst2 hst3
        go_wp2_with fail
        go_roundw
        case rel => exact ⟨i + 1, E, 0, by omega, by go_num, rfl, HST.out.symm, by have := HO.out; rw [HEL.out] at this; exact this, HB.out⟩
        case measure => simp [intOf]; omega
      · have hst3 : (l.take (i + 1)).foldl stepU ([], 0) = (E ++ [b], if b = 0 then Z + 1 else 0) := hst2.trans (if_neg hc)
        have HST := Lib.hid hst3
        have hways : ((b : Int) == 3) = false ∧ b = 0 ∨ (((b : Int) == 3) = false ∧ b ≠ 0 ∧ b ≠ 0) ∨ (((b : Int) == 3) = true ∧ b ≠ 0 ∧ ((Z : Int) == 2) = false) := by
          by_cases hz : b = 3
          · exact .inr (.inr ⟨by simp [hz], by omega, by rw [beq_eq_false_iff_ne]; omega⟩)
          · have h1 : ((b : Int) == 3) = false := by rw [beq_eq_false_iff_ne]; omega
            by_cases h2 : b = 0
            · exact .inl ⟨h1, h2⟩
            · exact .inr (.inl ⟨h1, h2, h2⟩)
        clear hst2 hst3 hc
        rcases hways with ⟨hw1, hb0⟩ | ⟨hw1, hb0, hw2⟩ | ⟨hw1, hb0, hw2⟩
        · subst hb0
          go_wp2_with (at_builtin; refine wpList_append_own (P := Try.prog) _ rfl (.tmp 23) (.tmp 27) 51 rfl w.heap.size 5 i0 (.int .u8 0) 1 1 Try.underlying51 hi hz0 hz1 hz2 rfl (by decide) _ L _ rfl (HO.out.alloc _) ⟨wr.heap.size, 0, none⟩ 1 1 [.int .u8 0] rfl rfl (cells_new _ _ _) (one_cell _) (by unfold maxLen; omega) (by omega) (by simp; omega) ?_)
          intro v3 w3 hown3 hg3 _
          have HB := Lib.hid ((HB.out.alloc hsz _).grown hg3 (by simp; omega) (fun k hk => (HO.out.lt k hk).1))
          have HO := Lib.hid hown3
          clear hown3 hg3
          go_wp2_with fail
          go_roundw
          case rel => exact ⟨i + 1, E ++ [0], Z + 1, by omega, by go_num, by go_num, HST.out.symm, by have := HO.out; rw [bV_append, List.length_append, ← HEL.out]; exact this, HB.out⟩
          case measure => simp [intOf]; omega
        all_goals
          have HST2 : Hid ((l.take (i + 1)).foldl stepU ([], 0) = (E ++ [b], 0)) := Lib.hid (by rw [HST.out, if_neg hb0])
          have hb0' : ((b : Int) != 0) = true := by simp; omega
          clear hb0
          go_wp2_with (at_builtin; refine wpList_append_own (P := Try.prog) _ rfl (.tmp 23) (.tmp 27) 51 rfl w.heap.size 5 i0 (.int .u8 0) 1 1 Try.underlying51 hi hz0 hz1 hz2 rfl (by decide) _ L _ rfl (HO.out.alloc _) ⟨wr.heap.size, 0, none⟩ 1 1 [.int .u8 b] rfl rfl (cells_new _ _ _) (one_cell _) (by unfold maxLen; omega) (by omega) (by simp; omega) ?_)
          intro v3 w3 hown3 hg3 _
          have HB := Lib.hid ((HB.out.alloc hsz _).grown hg3 (by simp; omega) (fun k hk => (HO.out.lt k hk).1))
          have HO := Lib.hid hown3
          clear hown3 hg3
          go_wp2_with fail
          go_roundw
          case rel => exact ⟨i + 1, E ++ [b], 0, by omega, by go_num, rfl, HST2.out.symm, by have := HO.out; rw [bV_append, List.length_append, ← HEL.out]; exact this, HB.out⟩
          case measure => simp [intOf]; omega
    · obtain rfl : i = s.size := by omega
      have hE : E = une l := by
        unfold une
        rw [List.take_of_length_le (by rw [HL.out]; exact Nat.le_refl _)] at hst
        rw [← hst]
      have hcv := run_txt HO.out
      have hEs : E.length ≤ 4194304 := by omega
      have hEb : ∀ b ∈ E, b < 256 := by rw [hE]; exact HUB.out
      have hesc := esc_any (txt E) wr (by rw [txt_size]; exact hEs)
      rw [bl_txt E hEb] at hesc
      have hunok : unOk s = decide (txt (esc E) = s) := by unfold unOk; rw [hE, HUN.out]
      obtain ⟨S, hS⟩ : ∃ S, S = txt E := ⟨_, rfl⟩
      obtain ⟨S2, hS2⟩ : ∃ S2, S2 = txt (esc E) := ⟨_, rfl⟩
      rw [← hS] at hcv hesc
      rw [← hS2] at hesc hunok
      have HE := Lib.hid hE
      have HS := Lib.hid hS
      have HESC := Lib.hid hesc
      have HCV := Lib.hid (show ∀ w', w'.ownsRow w.heap.size 5 1 u4 E.length (bV E) → (convert 51 9 u4).run Try.prog w' = .ok (.string S) w' from fun w' h => by rw [hS]; exact run_txt h)
      have HUO := Lib.hid hunok
      clear hst hE hS hS2 hbd hesc hEb hunok
      go_wp2_with fail
      refine HESC.out.mono ?_
      rintro e w2 ⟨rfl, hb⟩
      have HO2 := Lib.hid (own_go HO.out hb)
      have HB2 := Lib.hid (HB.out.trans (hb.mono hsz))
      have hcv2 := HCV.out w2 HO2.out
      clear hb hcv HESC
      by_cases hq : S2 = s
      · have hne : (S2.toList == s.toList) = true := by rw [hq]; exact beq_self_eq_true _
        have hok : unOk s = true := by rw [HUO.out]; simp [hq]
        have H1 : Hid (unS s = S) := Lib.hid (by unfold unS; rw [if_pos hok, HS.out, HE.out, HUN.out])
        have H2 : Hid (unE s = 0) := Lib.hid (by unfold unE; rw [if_pos hok])
        clear hq hok
        go_wp2_with fail
        go_ret2
        exact ⟨by rw [H1.out, H2.out]; rfl, HB2.out⟩
      · have hne : (S2.toList == s.toList) = false := by rw [beq_eq_false_iff_ne]; exact fun q => hq (toList_inj q)
        have hok : ¬ unOk s = true := by rw [HUO.out]; simp [hq]
        have H1 : Hid (unS s = ByteArray.empty) := Lib.hid (by unfold unS; rw [if_neg hok])
        have H2 : Hid (unE s = 200) := Lib.hid (by unfold unE; rw [if_neg hok])
        clear hq hok
        go_wp2_with fail
        go_ret2
        exact ⟨by rw [H1.out, H2.out]; rfl, HB2.out⟩

set_option maxRecDepth 100000 in
set_option maxHeartbeats 6400000 in
theorem une2_any (s : ByteArray) (w : World) (hs : s.size ≤ 4194304) :
    Calls Try.prog 12 #[.string s] w fun e w' => e = .returned (.tuple #[.string (unS s), .int .i64 (unE s)]) ∧ Below w.heap.size w w' := by
  obtain ⟨i0, hi, hz0, hz1, hz2⟩ := info_parts u8_info
  obtain ⟨l, hl⟩ : ∃ l, l = bl s := ⟨_, rfl⟩
  have hll : l.length = s.size := by rw [hl]; exact bl_len s
  have hlt : ∀ b ∈ l, b < 256 := by rw [hl]; exact bl_lt s
  have hat : ∀ k (h : k < s.size), (s[k]'h).toNat = l.getD k 0 := fun k h => by rw [List.getD_eq_getElem?_getD, List.getElem?_eq_getElem (by omega)]; subst hl; exact (bl_at s k h).symm
  have hun : une l = une (bl s) := by rw [hl]
  have hul := une_len l
  have hub := une_bytes l hlt
  have HL := Lib.hid hll
  have HLT := Lib.hid hlt
  have HAT := Lib.hid hat
  have HUN := Lib.hid hun
  have HUL := Lib.hid hul
  have HUB := Lib.hid hub
  clear hl hll hlt hat hun hul hub
  go_enter Try.func12, Try.ntmps12
  go_wp2_with fail
  go_loopw [4, 5, 6] (fun v z t wr => ∃ (i : Nat) (E : List Nat) (Z : Nat), i ≤ s.size ∧ t = .int .i64 i ∧ z = .int .i64 Z ∧ (E, Z) = (l.take i).foldl stepU ([], 0) ∧ wr.ownsRow w.heap.size 5 1 v E.length (bV E) ∧ Below w.heap.size w wr) (fun _ _ t _ => s.size - (intOf t).toNat)
  case atStart => exact ⟨0, [], 0, Nat.zero_le _, rfl, rfl, by simp, World.ownsRow_nil _ _ _ _, Below.refl _ _⟩
  case round =>
    obtain ⟨i, E, Z, hi', rfl, rfl, hst, ho, hb⟩ := hrel
    have hbd := stepU_len l i (by have := HL.out; omega)
    rw [← hst] at hbd
    simp only at hbd
    have HB := Lib.hid hb
    have HO := Lib.hid ho
    have hsz := hb.size
    clear ho hb
    by_cases hlt : i < s.size
    · have hil : i < l.length := by have := HL.out; omega
      have hst2 := fold_take (f := stepU) (e := ([], 0)) l i hil
      rw [← hst] at hst2
      have hg : (s[i]'hlt).toNat = l[i] := (HAT.out i hlt).trans (by rw [List.getD_eq_getElem?_getD, List.getElem?_eq_getElem hil]; rfl)
      have h256 := HLT.out _ (List.getElem_mem hil)
      obtain ⟨b, hb'⟩ : ∃ b, b = l[i] := ⟨_, rfl⟩
      rw [← hb'] at hst2 hg h256
      have hEl : E.length ≤ 8388608 := by omega
      have hil2 : (i : Int) < (s.size : Int) := by omega
      have hi0 : (0 : Int) ≤ (i : Int) := Int.natCast_nonneg _
      have hZb : Z ≤ 8388608 := by omega
      clear hst hb' hbd
      obtain ⟨L, hL⟩ : ∃ L, L = E.length := ⟨_, rfl⟩
      rw [← hL] at HO hEl
      have HEL := Lib.hid hL
      clear hL
      by_cases hc : b = 3 ∧ Z = 2
      · have hst3 : (l.take (i + 1)).foldl stepU ([], 0) = (E, 0) := hst2.trans (if_pos hc)
        have HST := Lib.hid hst3
        obtain ⟨rfl, rfl⟩ := hc
        clear hst2 hst3
        go_wp2_with fail
        go_roundw
        case rel => exact ⟨i + 1, E, 0, by omega, by go_num, rfl, HST.out.symm, by have := HO.out; rw [HEL.out] at this; exact this, HB.out⟩
        case measure => simp [intOf]; omega
      · have hst3 : (l.take (i + 1)).foldl stepU ([], 0) = (E ++ [b], if b = 0 then Z + 1 else 0) := hst2.trans (if_neg hc)
        have HST := Lib.hid hst3
        have hways : ((b : Int) == 3) = false ∧ b = 0 ∨ (((b : Int) == 3) = false ∧ b ≠ 0 ∧ b ≠ 0) ∨ (((b : Int) == 3) = true ∧ b ≠ 0 ∧ ((Z : Int) == 2) = false) := by
          by_cases hz : b = 3
          · exact .inr (.inr ⟨by simp [hz], by omega, by rw [beq_eq_false_iff_ne]; omega⟩)
          · have h1 : ((b : Int) == 3) = false := by rw [beq_eq_false_iff_ne]; omega
            by_cases h2 : b = 0
            · exact .inl ⟨h1, h2⟩
            · exact .inr (.inl ⟨h1, h2, h2⟩)
        clear hst2 hst3 hc
        rcases hways with ⟨hw1, hb0⟩ | ⟨hw1, hb0, hw2⟩ | ⟨hw1, hb0, hw2⟩
        · subst hb0
          go_wp2_with (at_builtin; refine wpList_append_own (P := Try.prog) _ rfl (.tmp 21) (.tmp 25) 51 rfl w.heap.size 5 i0 (.int .u8 0) 1 1 Try.underlying51 hi hz0 hz1 hz2 rfl (by decide) _ L _ rfl (HO.out.alloc _) ⟨wr.heap.size, 0, none⟩ 1 1 [.int .u8 0] rfl rfl (cells_new _ _ _) (one_cell _) (by unfold maxLen; omega) (by omega) (by simp; omega) ?_)
          intro v3 w3 hown3 hg3 _
          have HB := Lib.hid ((HB.out.alloc hsz _).grown hg3 (by simp; omega) (fun k hk => (HO.out.lt k hk).1))
          have HO := Lib.hid hown3
          clear hown3 hg3
          go_wp2_with fail
          go_roundw
          case rel => exact ⟨i + 1, E ++ [0], Z + 1, by omega, by go_num, by go_num, HST.out.symm, by have := HO.out; rw [bV_append, List.length_append, ← HEL.out]; exact this, HB.out⟩
          case measure => simp [intOf]; omega
        all_goals
          have HST2 : Hid ((l.take (i + 1)).foldl stepU ([], 0) = (E ++ [b], 0)) := Lib.hid (by rw [HST.out, if_neg hb0])
          have hb0' : ((b : Int) != 0) = true := by simp; omega
          clear hb0
          go_wp2_with (at_builtin; refine wpList_append_own (P := Try.prog) _ rfl (.tmp 21) (.tmp 25) 51 rfl w.heap.size 5 i0 (.int .u8 0) 1 1 Try.underlying51 hi hz0 hz1 hz2 rfl (by decide) _ L _ rfl (HO.out.alloc _) ⟨wr.heap.size, 0, none⟩ 1 1 [.int .u8 b] rfl rfl (cells_new _ _ _) (one_cell _) (by unfold maxLen; omega) (by omega) (by simp; omega) ?_)
          intro v3 w3 hown3 hg3 _
          have HB := Lib.hid ((HB.out.alloc hsz _).grown hg3 (by simp; omega) (fun k hk => (HO.out.lt k hk).1))
          have HO := Lib.hid hown3
          clear hown3 hg3
          go_wp2_with fail
          go_roundw
          case rel => exact ⟨i + 1, E ++ [b], 0, by omega, by go_num, rfl, HST2.out.symm, by have := HO.out; rw [bV_append, List.length_append, ← HEL.out]; exact this, HB.out⟩
          case measure => simp [intOf]; omega
    · obtain rfl : i = s.size := by omega
      have hE : E = une l := by
        unfold une
        rw [List.take_of_length_le (by rw [HL.out]; exact Nat.le_refl _)] at hst
        rw [← hst]
      have hcv := run_txt HO.out
      have hEs : E.length ≤ 4194304 := by omega
      have hEb : ∀ b ∈ E, b < 256 := by rw [hE]; exact HUB.out
      have hesc := esc2_any (txt E) wr (by rw [txt_size]; exact hEs)
      rw [bl_txt E hEb] at hesc
      have hunok : unOk s = decide (txt (esc E) = s) := by unfold unOk; rw [hE, HUN.out]
      obtain ⟨S, hS⟩ : ∃ S, S = txt E := ⟨_, rfl⟩
      obtain ⟨S2, hS2⟩ : ∃ S2, S2 = txt (esc E) := ⟨_, rfl⟩
      rw [← hS] at hcv hesc
      rw [← hS2] at hesc hunok
      have HE := Lib.hid hE
      have HS := Lib.hid hS
      have HESC := Lib.hid hesc
      have HCV := Lib.hid (show ∀ w', w'.ownsRow w.heap.size 5 1 u4 E.length (bV E) → (convert 51 9 u4).run Try.prog w' = .ok (.string S) w' from fun w' h => by rw [hS]; exact run_txt h)
      have HUO := Lib.hid hunok
      clear hst hE hS hS2 hbd hesc hEb hunok
      go_wp2_with fail
      refine HESC.out.mono ?_
      rintro e w2 ⟨rfl, hb⟩
      have HO2 := Lib.hid (own_go HO.out hb)
      have HB2 := Lib.hid (HB.out.trans (hb.mono hsz))
      have hcv2 := HCV.out w2 HO2.out
      clear hb hcv HESC
      by_cases hq : S2 = s
      · have hne : (S2.toList == s.toList) = true := by rw [hq]; exact beq_self_eq_true _
        have hok : unOk s = true := by rw [HUO.out]; simp [hq]
        have H1 : Hid (unS s = S) := Lib.hid (by unfold unS; rw [if_pos hok, HS.out, HE.out, HUN.out])
        have H2 : Hid (unE s = 0) := Lib.hid (by unfold unE; rw [if_pos hok])
        clear hq hok
        go_wp2_with fail
        go_ret2
        exact ⟨by rw [H1.out, H2.out]; rfl, HB2.out⟩
      · have hne : (S2.toList == s.toList) = false := by rw [beq_eq_false_iff_ne]; exact fun q => hq (toList_inj q)
        have hok : ¬ unOk s = true := by rw [HUO.out]; simp [hq]
        have H1 : Hid (unS s = ByteArray.empty) := Lib.hid (by unfold unS; rw [if_neg hok])
        have H2 : Hid (unE s = 200) := Lib.hid (by unfold unE; rw [if_neg hok])
        clear hq hok
        go_wp2_with fail
        go_ret2
        exact ⟨by rw [H1.out, H2.out]; rfl, HB2.out⟩
end Go.Proofs.Ytndlmhpbnaohpaa
