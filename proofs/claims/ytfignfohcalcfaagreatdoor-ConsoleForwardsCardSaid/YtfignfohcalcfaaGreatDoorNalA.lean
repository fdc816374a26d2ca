/- Escape, Unescape: the program's and the document's. -/
import Derived.Test.YtfignfohcalcfaaGreatDoorNalP
import Derived.Test.YtfignfohcalcfaaGreatDoorBitW
import Derived.Test.YtfignfohcalcfaaGreatDoorAppend
import Derived.Test.YtfignfohcalcfaaGreatDoorMake
import Derived.Test.YtfignfohcalcfaaGreatDoorStr
namespace Go.Proofs.YtfignfohcalcfaaGreatDoor
open Go.RowKit
set_option linter.unusedVariables false
set_option linter.unusedSimpArgs false

theorem cells_new (w : World) (l : List Value) (t : TypeId) : ∀ (j : Nat) (u : Value), l[j]? = some u → (w.alloc (.cells l.toArray t)).cell? ((⟨w.heap.size, 0, none⟩ : Addr).add j) = some u := by
  intro j u hj
  rw [add_new, World.cell?_alloc_at _ _ _ _ rfl]
  simpa using hj
theorem one_cell (x : Int) : ∀ u ∈ [Value.int .u8 x], u.oneCell' = true := by intro u hu; simp at hu; subst hu; rfl
/-- a text's bytes; bytes as a text -/
def bl (s : ByteArray) : List Nat := s.data.toList.map UInt8.toNat
def txt (l : List Nat) : ByteArray := strOfNums (l.map fun n : Nat => (n : Int))
theorem bl_len (s : ByteArray) : (bl s).length = s.size := by simp [bl]
theorem bl_at (s : ByteArray) (k : Nat) (h : k < s.size) : (bl s)[k]'(by rw [bl_len]; exact h) = (s[k]'h).toNat := by simp [bl]; rfl
theorem bl_lt (s : ByteArray) : ∀ b ∈ bl s, b < 256 := by
  intro b hb
  obtain ⟨x, _, rfl⟩ := List.mem_map.1 hb
  exact UInt8.toNat_lt x
theorem txt_size (l : List Nat) : (txt l).size = l.length := by unfold txt; rw [strOfNums_size]; simp
theorem bl_txt (l : List Nat) (h : ∀ b ∈ l, b < 256) : bl (txt l) = l := by
  unfold bl txt
  rw [strOfNums_data, List.map_map, List.map_map]
  conv => rhs; rw [← List.map_id l]
  apply List.map_congr_left
  intro b hb
  have := h b hb
  simp
  omega
theorem txt_bl (s : ByteArray) : txt (bl s) = s := by
  obtain ⟨⟨d⟩⟩ := s
  unfold txt bl strOfNums
  simp only [List.map_map]
  congr 2
  conv => rhs; rw [← List.map_id d]
  apply List.map_congr_left
  intro b _
  simp
theorem txt_inj {l m : List Nat} (h : ∀ b ∈ l, b < 256) (k : ∀ b ∈ m, b < 256) (q : txt l = txt m) : l = m := by rw [← bl_txt l h, ← bl_txt m k, q]
/-- bytes as cells -/
def bV (l : List Nat) : List Value := l.map fun n : Nat => .int .u8 (n : Int)
theorem bV_len (l : List Nat) : (bV l).length = l.length := by simp [bV]
theorem bV_append (a b : List Nat) : bV (a ++ b) = bV a ++ bV b := by simp [bV]
theorem Rd.bV {w : World} {base : Nat} {v : Value} {l : List Nat} (h : w.ownsRow base 5 1 v l.length (bV l)) : ∃ A c, v = .slice A l.length c ∧ Rd w w.heap.size A l.length (fun k => .int .u8 ((l.getD k 0 : Nat) : Int)) := by
  obtain ⟨A, c, hv, _, _, hr⟩ := Rd.of_own h
  refine ⟨A, c, hv, hr.congr fun k hk => ?_⟩
  simp [Go.Proofs.YtfignfohcalcfaaGreatDoor.bV, List.getD_eq_getElem?_getD, hk]
theorem run_txt {w : World} {base : Nat} {v : Value} {l : List Nat} (h : w.ownsRow base 5 1 v l.length (bV l)) : (convert 61 9 v).run Tryz.prog w = .ok (.string (txt l)) w := by
  obtain ⟨A, c, rfl, hr⟩ := Rd.bV h
  rw [run_str Tryz.underlying61 Tryz.underlying5 Tryz.underlying9 hr]
  have : (List.range l.length).map (fun k => ((l.getD k 0 : Nat) : Int)) = l.map fun n : Nat => (n : Int) := by
    apply List.ext_getElem
    · simp
    · intro i h1 h2
      have hi : i < l.length := by simpa using h1
      simp [List.getD_eq_getElem?_getD, hi]
  rw [this]
  rfl
theorem fold_take {α : Type} {f : α → Nat → α} {e : α} (l : List Nat) (i : Nat) (h : i < l.length) : (l.take (i + 1)).foldl f e = f ((l.take i).foldl f e) l[i] := by
  rw [List.take_add_one, List.getElem?_eq_getElem h, List.foldl_append]
  rfl
theorem stepE_len (l : List Nat) : ∀ i, i ≤ l.length → ((l.take i).foldl stepE ([], 0)).1.length ≤ 2 * i ∧ ((l.take i).foldl stepE ([], 0)).2 ≤ 2 := by
  intro i
  induction i with
  | zero => intro _; simp
  | succ i ih =>
    intro hi
    have := ih (by omega)
    rw [fold_take l i (by omega)]
    generalize (l.take i).foldl stepE ([], 0) = st at *
    unfold stepE
    split
    · simp only [List.length_append, List.length_cons, List.length_nil]
      exact ⟨by omega, by split <;> omega⟩
    · simp only [List.length_append, List.length_cons, List.length_nil]
      exact ⟨by omega, by split <;> omega⟩
theorem stepU_len (l : List Nat) : ∀ i, i ≤ l.length → ((l.take i).foldl stepU ([], 0)).1.length ≤ i ∧ ((l.take i).foldl stepU ([], 0)).2 ≤ i := by
  intro i
  induction i with
  | zero => intro _; simp
  | succ i ih =>
    intro hi
    have := ih (by omega)
    rw [fold_take l i (by omega)]
    generalize (l.take i).foldl stepU ([], 0) = st at *
    unfold stepU
    split
    · exact ⟨by show st.1.length ≤ i + 1; omega, by show 0 ≤ i + 1; omega⟩
    · simp only [List.length_append, List.length_cons, List.length_nil]
      exact ⟨by omega, by split <;> omega⟩

set_option maxRecDepth 100000 in
set_option maxHeartbeats 6400000 in
theorem esc_any (s : ByteArray) (w : World) (hs : s.size ≤ 4194304) :
    Calls Tryz.prog 34 #[.string s] w fun e w' => e = .returned (.string (txt (esc (bl s)))) ∧ Below w.heap.size w w' := by
  obtain ⟨i0, hi, hz0, hz1, hz2⟩ := info_parts u8_info
  obtain ⟨l, hl⟩ : ∃ l, l = bl s := ⟨_, rfl⟩
  have hll : l.length = s.size := by rw [hl]; exact bl_len s
  have hlt : ∀ b ∈ l, b < 256 := by rw [hl]; exact bl_lt s
  have hat : ∀ k (h : k < s.size), (s[k]'h).toNat = l.getD k 0 := fun k h => by rw [List.getD_eq_getElem?_getD, List.getElem?_eq_getElem (by omega)]; subst hl; exact (bl_at s k h).symm
  rw [← hl]
  have HL := Lib.hid hll
  have HLT := Lib.hid hlt
  have HAT := Lib.hid hat
  clear hl hll hlt hat
  obtain ⟨N, hN⟩ : ∃ N : Nat, (s.size : Int) + (s.size : Int) / 2 + 1 = N := ⟨s.size + s.size / 2 + 1, by omega⟩
  have hmk := run_make_cap (P := Tryz.prog) 61 5 i0 (.int .u8 0) Tryz.underlying61 hi hz0 hz1 rfl N (by rw [hz2]; omega) (by omega) w
  have ho : (w.alloc (.cells (Array.replicate N (.int .u8 0)) 5)).ownsRow w.heap.size 5 1 (.slice (some ⟨w.heap.size, 0, none⟩) 0 N) ([] : List Nat).length (bV []) :=
    ⟨rfl, .inr ⟨w.heap.size, N, _, rfl, Nat.le_refl _, heap_alloc_new w _, Nat.zero_le _, by unfold maxLen; omega, by simp, rfl⟩⟩
  have hb := (Below.refl w.heap.size w).alloc (Nat.le_refl _) (.cells (Array.replicate N (.int .u8 0)) 5)
  obtain ⟨w1, hw1⟩ : ∃ w1, w1 = w.alloc (.cells (Array.replicate N (.int .u8 0)) 5) := ⟨_, rfl⟩
  rw [← hw1] at hmk ho hb
  have HO := Lib.hid ho
  have HB := Lib.hid hb
  clear hw1 ho hb
  go_enter Tryz.func34, Tryz.ntmps34
  go_wp2_with fail
  clear hmk hN
  go_loopw [3, 4, 16] (fun v z t wr => ∃ (i : Nat) (E : List Nat) (Z : Nat), i ≤ s.size ∧ t = .int .i64 i ∧ z = .int .i64 Z ∧ (E, Z) = (l.take i).foldl stepE ([], 0) ∧ wr.ownsRow w.heap.size 5 1 v E.length (bV E) ∧ Below w.heap.size w wr) (fun _ _ t _ => s.size - (intOf t).toNat)
  case atStart => exact ⟨0, [], 0, Nat.zero_le _, rfl, rfl, by simp, HO.out, HB.out⟩
  case round =>
    obtain ⟨i, E, Z, hi', rfl, rfl, hst, ho, hb⟩ := hrel
    have hbd := stepE_len l i (by have := HL.out; omega)
    rw [← hst] at hbd
    simp only at hbd
    have HB := Lib.hid hb
    have HO := Lib.hid ho
    have hsz := hb.size
    clear ho hb
    by_cases hlt : i < s.size
    · have hil : i < l.length := by have := HL.out; omega
      have hst2 := fold_take (f := stepE) (e := ([], 0)) l i hil
      rw [← hst] at hst2
      have hg : (s[i]'hlt).toNat = l[i] := (HAT.out i hlt).trans (by rw [List.getD_eq_getElem?_getD, List.getElem?_eq_getElem hil]; rfl)
      have h256 := HLT.out _ (List.getElem_mem hil)
      obtain ⟨b, hb'⟩ : ∃ b, b = l[i] := ⟨_, rfl⟩
      rw [← hb'] at hst2 hg h256
      obtain ⟨Z2, hZ2⟩ : ∃ Z2, Z2 = Z := ⟨_, rfl⟩
      have hEl : E.length ≤ 8388608 := by omega
      have hil2 : (i : Int) < (s.size : Int) := by omega
      have hi0 : (0 : Int) ≤ (i : Int) := Int.natCast_nonneg _
      have hZb : Z ≤ 2 := hbd.2
      clear hst hb' hZ2 Z2 hbd
      obtain ⟨L, hL⟩ : ∃ L, L = E.length := ⟨_, rfl⟩
      rw [← hL] at HO hEl
      have HEL := Lib.hid hL
      clear hL
      by_cases hc : Z = 2 ∧ b ≤ 3
      · have hst3 : (l.take (i + 1)).foldl stepE ([], 0) = (E ++ [3, b], if b = 0 then 1 else 0) := hst2.trans (if_pos hc)
        have HST := Lib.hid hst3
        obtain ⟨rfl, hb3⟩ := hc
        have hb3' : (b : Int) ≤ 3 := by omega
        clear hst2 hst3
        by_cases hb0 : b = 0
        · subst hb0
          go_wp2_with (at_builtin; refine wpList_append_own (P := Tryz.prog) _ rfl (.tmp 27) (.tmp 28) 61 rfl w.heap.size 5 i0 (.int .u8 0) 1 1 Tryz.underlying61 hi hz0 hz1 hz2 rfl (by decide) _ L _ rfl (HO.out.alloc _) ⟨wr.heap.size, 0, none⟩ 1 1 [.int .u8 3] rfl rfl (cells_new _ _ _) (one_cell _) (by unfold maxLen; omega) (by omega) (by simp; omega) ?_)
          intro v2 w2 hown2 hg2 _
          have HB := Lib.hid ((HB.out.alloc hsz _).grown hg2 (by simp; omega) (fun k hk => (HO.out.lt k hk).1))
          have HO := Lib.hid hown2
          have hsz2 := HB.out.size
          clear hown2 hg2
          go_wp2_with (at_builtin; refine wpList_append_own (P := Tryz.prog) _ rfl (.tmp 30) (.tmp 34) 61 rfl w.heap.size 5 i0 (.int .u8 0) 1 1 Tryz.underlying61 hi hz0 hz1 hz2 rfl (by decide) _ (L + 1) _ rfl (HO.out.alloc _) ⟨w2.heap.size, 0, none⟩ 1 1 [.int .u8 0] rfl rfl (cells_new _ _ _) (one_cell _) (by unfold maxLen; omega) (by omega) (by simp; omega) ?_)
          intro v3 w3 hown3 hg3 _
          have HB := Lib.hid ((HB.out.alloc hsz2 _).grown hg3 (by simp; omega) (fun k hk => (HO.out.lt k hk).1))
          have HO := Lib.hid hown3
          clear hown3 hg3
          go_wp2_with fail
          go_roundw
          case rel => exact ⟨i + 1, E ++ [3, 0], 1, by omega, by go_num, rfl, HST.out.symm, by have := HO.out; (try rw [List.append_assoc] at this); rw [bV_append, List.length_append, ← HEL.out]; exact this, HB.out⟩
          case measure => simp [intOf]; omega
        · have hb0' : ((b : Int) != 0) = true := by simp; omega
          have HST2 : Hid ((l.take (i + 1)).foldl stepE ([], 0) = (E ++ [3, b], 0)) := Lib.hid (by rw [HST.out, if_neg hb0])
          clear hb0
          go_wp2_with (at_builtin; refine wpList_append_own (P := Tryz.prog) _ rfl (.tmp 27) (.tmp 28) 61 rfl w.heap.size 5 i0 (.int .u8 0) 1 1 Tryz.underlying61 hi hz0 hz1 hz2 rfl (by decide) _ L _ rfl (HO.out.alloc _) ⟨wr.heap.size, 0, none⟩ 1 1 [.int .u8 3] rfl rfl (cells_new _ _ _) (one_cell _) (by unfold maxLen; omega) (by omega) (by simp; omega) ?_)
          intro v2 w2 hown2 hg2 _
          have HB := Lib.hid ((HB.out.alloc hsz _).grown hg2 (by simp; omega) (fun k hk => (HO.out.lt k hk).1))
          have HO := Lib.hid hown2
          have hsz2 := HB.out.size
          clear hown2 hg2
          go_wp2_with (at_builtin; refine wpList_append_own (P := Tryz.prog) _ rfl (.tmp 30) (.tmp 34) 61 rfl w.heap.size 5 i0 (.int .u8 0) 1 1 Tryz.underlying61 hi hz0 hz1 hz2 rfl (by decide) _ (L + 1) _ rfl (HO.out.alloc _) ⟨w2.heap.size, 0, none⟩ 1 1 [.int .u8 b] rfl rfl (cells_new _ _ _) (one_cell _) (by unfold maxLen; omega) (by omega) (by simp; omega) ?_)
          intro v3 w3 hown3 hg3 _
          have HB := Lib.hid ((HB.out.alloc hsz2 _).grown hg3 (by simp; omega) (fun k hk => (HO.out.lt k hk).1))
          have HO := Lib.hid hown3
          clear hown3 hg3
          go_wp2_with fail
          go_roundw
          case rel => exact ⟨i + 1, E ++ [3, b], 0, by omega, by go_num, rfl, HST2.out.symm, by have := HO.out; (try rw [List.append_assoc] at this); rw [bV_append, List.length_append, ← HEL.out]; exact this, HB.out⟩
          case measure => simp [intOf]; omega
      · have hst3 : (l.take (i + 1)).foldl stepE ([], 0) = (E ++ [b], if b = 0 then Z + 1 else 0) := hst2.trans (if_neg hc)
        have HST := Lib.hid hst3
        have hways : (((Z : Int) == 2) = false ∧ b = 0) ∨ (((Z : Int) == 2) = false ∧ b ≠ 0 ∧ b ≠ 0) ∨ (((Z : Int) == 2) = true ∧ b ≠ 0 ∧ ¬ (b : Int) ≤ 3) := by
          by_cases hz : Z = 2
          · exact .inr (.inr ⟨by simp [hz], by omega, by omega⟩)
          · have h1 : ((Z : Int) == 2) = false := by rw [beq_eq_false_iff_ne]; omega
            by_cases h2 : b = 0
            · exact .inl ⟨h1, h2⟩
            · exact .inr (.inl ⟨h1, h2, h2⟩)
        clear hst2 hst3 hc
        rcases hways with ⟨hw1, hb0⟩ | ⟨hw1, hb0, hw2⟩ | ⟨hw1, hb0, hw2⟩
        · skip
          · subst hb0
            go_wp2_with (at_builtin; refine wpList_append_own (P := Tryz.prog) _ rfl (.tmp 30) (.tmp 34) 61 rfl w.heap.size 5 i0 (.int .u8 0) 1 1 Tryz.underlying61 hi hz0 hz1 hz2 rfl (by decide) _ L _ rfl (HO.out.alloc _) ⟨wr.heap.size, 0, none⟩ 1 1 [.int .u8 0] rfl rfl (cells_new _ _ _) (one_cell _) (by unfold maxLen; omega) (by omega) (by simp; omega) ?_)
            intro v3 w3 hown3 hg3 _
            have HB := Lib.hid ((HB.out.alloc hsz _).grown hg3 (by simp; omega) (fun k hk => (HO.out.lt k hk).1))
            have HO := Lib.hid hown3
            clear hown3 hg3
            go_wp2_with fail
            go_roundw
            case rel => exact ⟨i + 1, E ++ [0], Z + 1, by omega, by go_num, by go_num, HST.out.symm, by have := HO.out; rw [bV_append, List.length_append, ← HEL.out]; exact this, HB.out⟩
            case measure => simp [intOf]; omega
        all_goals
          · have HST2 : Hid ((l.take (i + 1)).foldl stepE ([], 0) = (E ++ [b], 0)) := Lib.hid (by rw [HST.out, if_neg hb0])
            have hb0' : ((b : Int) != 0) = true := by simp; omega
            clear hb0
            go_wp2_with (at_builtin; refine wpList_append_own (P := Tryz.prog) _ rfl (.tmp 30) (.tmp 34) 61 rfl w.heap.size 5 i0 (.int .u8 0) 1 1 Tryz.underlying61 hi hz0 hz1 hz2 rfl (by decide) _ L _ rfl (HO.out.alloc _) ⟨wr.heap.size, 0, none⟩ 1 1 [.int .u8 b] rfl rfl (cells_new _ _ _) (one_cell _) (by unfold maxLen; omega) (by omega) (by simp; omega) ?_)
            intro v3 w3 hown3 hg3 _
            have HB := Lib.hid ((HB.out.alloc hsz _).grown hg3 (by simp; omega) (fun k hk => (HO.out.lt k hk).1))
            have HO := Lib.hid hown3
            clear hown3 hg3
            go_wp2_with fail
            go_roundw
            case rel => exact ⟨i + 1, E ++ [b], 0, by omega, by go_num, rfl, HST2.out.symm, by have := HO.out; rw [bV_append, List.length_append, ← HEL.out]; exact this, HB.out⟩
            case measure => simp [intOf]; omega
    · obtain rfl : i = s.size := by omega
      have hE : E = esc l := by
        unfold esc
        rw [List.take_of_length_le (by rw [HL.out]; exact Nat.le_refl _)] at hst
        rw [← hst]
      have hcv := run_txt HO.out
      obtain ⟨S, hS⟩ : ∃ S, S = txt E := ⟨_, rfl⟩
      rw [← hS] at hcv
      have HE := Lib.hid hE
      have HS := Lib.hid hS
      clear hst hE hS hbd
      go_wp2_with fail
      go_ret
      exact ⟨by rw [← HE.out, ← HS.out]; rfl, HB.out⟩

end Go.Proofs.YtfignfohcalcfaaGreatDoor
