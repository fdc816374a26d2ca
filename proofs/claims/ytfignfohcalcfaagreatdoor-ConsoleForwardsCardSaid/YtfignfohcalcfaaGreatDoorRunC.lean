/- How long what a line tells is, plainly. The Builder's WriteString once more: what it leaves alone; the predicate of blanks. console.Run. -/
import Derived.Test.YtfignfohcalcfaaGreatDoorLineA
namespace Go.Proofs.YtfignfohcalcfaaGreatDoor
open Go.RowKit
set_option linter.unusedVariables false
set_option linter.unusedSimpArgs false

theorem hexF_size (s : ByteArray) : (hexF s).size ≤ 2 * s.size + 4 := by
  by_cases h : s.size = 0
  · unfold hexF
    rw [if_pos h]
    exact Nat.le_add_left _ _
  · rw [hexF_txt s h, txt_size, hexLN_len, bl_len]
    omega
theorem fault_size (e : Int) (h : I64 e) : (faultF e).size ≤ 1000 := by
  unfold faultF
  rw [tx_size, List.length_append]
  have := itoaF_size e h.1 h.2
  unfold itoaF at this
  rw [tx_size] at this
  simp only [List.length_cons, List.length_nil]
  omega
theorem onesL_len (n lim : Int) (m : Nat) (h : n ≤ m) : (onesL n lim).length ≤ m + 1 := by
  unfold onesL
  rw [List.length_append, List.length_replicate]
  split
  · simp only [List.length_cons, List.length_nil]; omega
  · simp only [List.length_nil]; omega
theorem greatL_len (v own : Int) (k m : Nat) (h : own ≤ m) : (greatL v own k).length ≤ m + k + 42 := by
  unfold greatL
  rw [List.length_append]
  have h1 := onesL_len (min v own) own m (by omega)
  have h2 := tailL_len (v - own).toNat k
  split
  · omega
  · simp only [List.length_nil]; omega
theorem binF_size (el v m : Int) : (binF el v m).size ≤ 1000 := by
  unfold binF
  split
  · rename_i h
    rw [tx_size]
    unfold binL
    split
    · simp
    · split
      · rename_i h2
        have : m ≤ 63 := by
          unfold mayB at h
          rw [h2] at h
          simp at h
          omega
        have := onesL_len v m 63 (by
          unfold mayB at h
          rw [h2] at h
          simp at h
          omega)
        omega
      · split
        · have := greatL_len (max v (-v)) 9 3 9 (by omega)
          rw [List.length_append]
          split
          · simp only [List.length_cons, List.length_nil]; omega
          · split
            · simp only [List.length_cons, List.length_nil]; omega
            · simp only [List.length_nil]; omega
        · have := greatL_len v 14 0 14 (by omega)
          omega
  · exact fault_size 600 (by unfold I64; omega)
theorem rowF_size (l : List Int) (hl : l.length ≤ 16) (hb : ∀ x ∈ l, I64 x) : (rowF l).size ≤ 1000 := by
  unfold rowF
  rw [tx_size]
  have h := join_len [32] (l.map Lib.itoa) 21 (fun z hz => by
    obtain ⟨x, hx, rfl⟩ := List.mem_map.1 hz
    exact itoaF_size x (hb x hx).1 (hb x hx).2)
  rw [List.length_map] at h
  simp only [List.length_cons, List.length_nil] at h
  omega
theorem code_size {r : Option (List Bool)} {F : ByteArray} (h : F = match r with | some b => hexF (packS b) | none => faultF 101) (hl : ∀ b, r = some b → b.length ≤ 100) : F.size ≤ 1000 := by
  cases r with
  | none => rw [h]; exact fault_size 101 (by unfold I64; omega)
  | some b =>
    rw [h]
    have h1 := hexF_size (packS b)
    have h2 := hl b rfl
    have h3 := packS_len b
    simp only
    omega
theorem run_size (c : Cmd) (l : List Int) (hl : l.length = c.many) (hb : ∀ x ∈ l, I64 x) : (c.run l).size ≤ 1000 := by
  cases c <;> simp only [Cmd.many] at hl
  · exact code_size (code0_f _) (fun b h => code0_len _ b h)
  · exact code_size (code1_f _) (fun b h => code1_len _ b h)
  · exact binF_size _ _ _
  · exact rowF_size _ (by rw [fwdF_length]; omega) (fwd_bd l hl)
  · exact rowF_size _ (by simp) (fun x hx => by simp at hx; subst hx; exact qpT_bd _ _)
  · show (match pocF (g16 l 0) (g16 l 1) (g16 l 2) (g16 l 3) with | none => faultF 1701 | some x => rowF [x.1, x.2]).size ≤ 1000
    cases h : pocF (g16 l 0) (g16 l 1) (g16 l 2) (g16 l 3) with
    | none => exact fault_size 1701 (by unfold I64; omega)
    | some x =>
      have hx := poc_bd h
      exact rowF_size _ (by simp) (fun y hy => by simp at hy; rcases hy with rfl | rfl; exact hx.1; exact hx.2)
  · refine rowF_size _ (by simp) (fun x hx => ?_)
    simp at hx
    subst hx
    have h0 := g16_bd hb 0 (by omega)
    have h1 := g16_bd hb 1 (by omega)
    have h2 := g16_bd hb 2 (by omega)
    unfold medF I64 at *
    omega
theorem badT_size : badT.size ≤ 1000 := by decide
theorem lineF_size (ws : List ByteArray) (h : ∀ w ∈ ws, w.size ≤ 65536) : (lineF ws).size ≤ 200000 := by
  have hb := badT_size
  unfold lineF
  split
  · rename_i h2
    split
    · have h3 := unF_size (ws.getD 1 (tx []))
      have h4 : (ws.getD 1 (tx [])).size ≤ 65536 := by
        rw [List.getD_eq_getElem?_getD]
        cases hx : ws[1]? with
        | none => exact Nat.zero_le _
        | some x => exact h x (List.mem_of_getElem? hx)
      have h5 := esc_size (unF (ws.getD 1 (tx []))).1
      have h6 := hexF_size (txt (esc (bl (unF (ws.getD 1 (tx []))).1)))
      omega
    · omega
  · split
    · rename_i c n hc hn
      split
      · have := run_size c n (by assumption) (numsF_bd _ _ hn)
        omega
      · omega
    · omega
/-- a script's words lie in it, and none is empty -/
theorem spans_good (p : Nat → Bool) (s : ByteArray) : ∀ (f pos : Nat) (st : Option Nat) (acc : List (Nat × Nat)), pos ≤ s.size → (∀ a, st = some a → a < pos) → (∀ x ∈ acc, x.1 < x.2 ∧ x.2 ≤ s.size) → acc.length + (if st = none then 0 else 1) ≤ pos →
    (∀ x ∈ Lib.closeSpans s (Lib.spansFromP p s f pos st acc), x.1 < x.2 ∧ x.2 ≤ s.size) ∧ (Lib.closeSpans s (Lib.spansFromP p s f pos st acc)).length ≤ s.size := by
  have hend : ∀ (pos : Nat) (st : Option Nat) (acc : List (Nat × Nat)), pos ≤ s.size → (∀ a, st = some a → a < pos) → (∀ x ∈ acc, x.1 < x.2 ∧ x.2 ≤ s.size) → acc.length + (if st = none then 0 else 1) ≤ pos →
      (∀ x ∈ Lib.closeSpans s (acc, st), x.1 < x.2 ∧ x.2 ≤ s.size) ∧ (Lib.closeSpans s (acc, st)).length ≤ s.size := by
    intro pos st acc hp hst hacc hl
    cases st with
    | none =>
      simp at hl
      exact ⟨hacc, by show acc.length ≤ _; omega⟩
    | some a =>
      have ha := hst a rfl
      simp at hl
      refine ⟨fun x hx => ?_, by show (acc ++ [(a, s.size)]).length ≤ _; rw [List.length_append]; simp; omega⟩
      rcases List.mem_append.1 hx with hx | hx
      · exact hacc x hx
      · simp at hx
        subst hx
        exact ⟨by show a < s.size; omega, Nat.le_refl _⟩
  intro f
  induction f with
  | zero => intro pos st acc hp hst hacc hl; exact hend pos st acc hp hst hacc hl
  | succ f ih =>
    intro pos st acc hp hst hacc hl
    by_cases hlt : pos < s.size
    · have hw := Lib.width_pos s pos
      have hwn : pos + (Utf8.decode s pos).2 ≤ s.size := by
        have := Lib.decodeN_le_n' (s.size - pos) (s.get! pos).toNat (s.get! (pos + 1)).toNat (s.get! (pos + 2)).toNat (s.get! (pos + 3)).toNat (by omega)
        rw [← Lib.decode_at] at this
        omega
      simp only [Lib.spansFromP, if_pos hlt]
      split
      · cases st with
        | none =>
          simp at hl
          exact ih _ none acc hwn (fun a h => by cases h) hacc (by simp; omega)
        | some a =>
          have ha := hst a rfl
          simp at hl
          refine ih _ none _ hwn (fun a h => by cases h) (fun x hx => ?_) (by simp; omega)
          rcases List.mem_append.1 hx with hx | hx
          · exact hacc x hx
          · simp at hx
            subst hx
            exact ⟨ha, by show pos ≤ s.size; omega⟩
      · cases st with
        | none =>
          simp at hl
          exact ih _ (some pos) acc hwn (fun a h => by cases h; omega) hacc (by simp; omega)
        | some a =>
          have ha := hst a rfl
          simp at hl
          exact ih _ (some a) acc hwn (fun b h => by cases h; omega) hacc (by simp; omega)
    · rw [Lib.spansFromP_end p s _ _ _ _ hlt]
      exact hend pos st acc hp hst hacc hl
theorem words_good (s : ByteArray) : (∀ x ∈ Lib.goFieldsP blankP s, 0 < x.size ∧ x.size ≤ s.size) ∧ (Lib.goFieldsP blankP s).length ≤ s.size := by
  obtain ⟨h1, h2⟩ := spans_good blankP s s.size 0 none [] (Nat.zero_le _) (fun a h => by cases h) (by simp) (by simp)
  refine ⟨fun x hx => ?_, by unfold Lib.goFieldsP; rw [List.length_map]; exact h2⟩
  unfold Lib.goFieldsP at hx
  obtain ⟨p, hp, rfl⟩ := List.mem_map.1 hx
  have := h1 p hp
  rw [ByteArray.size_extract]
  omega
theorem splitB_len (sep : ByteArray) (hs : 1 ≤ sep.size) : ∀ (n : Nat) (s : ByteArray), Lib.countB s sep = n → (Lib.splitB sep 0 n s).length = n + 1
  | 0, s, _ => rfl
  | n + 1, s, h => by
    rcases Lib.indexB_cases s sep with hi | ⟨i, hi, hr⟩
    · rw [Lib.countB_miss s sep hi] at h
      cases h
    · rw [Lib.countB_hit s sep i hs hi] at h
      rw [Lib.splitB_hit sep 0 n s i hi, List.length_cons, splitB_len sep hs n _ (by omega)]
theorem splitB_sz (sep : ByteArray) : ∀ (n : Nat) (s x : ByteArray), x ∈ Lib.splitB sep 0 n s → x.size ≤ s.size
  | 0, s, x, h => by
    rw [Lib.splitB_zero] at h
    simp at h
    subst h
    exact Nat.le_refl _
  | n + 1, s, x, h => by
    rcases Lib.indexB_cases s sep with hi | ⟨i, hi, hr⟩
    · rw [Lib.splitB_miss sep 0 (n + 1) s hi] at h
      simp at h
      subst h
      exact Nat.le_refl _
    · rw [Lib.splitB_hit sep 0 n s i hi] at h
      rcases List.mem_cons.1 h with rfl | h
      · rw [ByteArray.size_extract]; omega
      · have := splitB_sz sep n _ x h
        rw [ByteArray.size_extract] at this
        omega
end Go.Proofs.YtfignfohcalcfaaGreatDoor

namespace Go.Proofs.YtfignfohcalcfaaGreatDoor
open Go.RowKit
set_option linter.unusedVariables false
set_option linter.unusedSimpArgs false

/-- what is no row of bytes, and not block b, stays -/
def Keeps (b : Nat) (w w' : World) : Prop := ∀ (k : Nat) (o : Obj), w.heap[k]? = some o → k ≠ b → (∀ cs fr, o ≠ .cells cs 5 fr) → w'.heap[k]? = some o
theorem Keeps.refl (b : Nat) (w : World) : Keeps b w w := fun _ _ h _ _ => h
theorem Keeps.trans {b : Nat} {w w1 w2 : World} (h : Keeps b w w1) (k : Keeps b w1 w2) : Keeps b w w2 := fun i o hi hb ho => k i o (h i o hi hb ho) hb ho
theorem Keeps.setb (b j : Nat) (w : World) (v : Value) : Keeps b w (w.setCell ⟨b, j, none⟩ v) := fun k o hk hb _ => (Below.heap_setCell w ⟨b, j, none⟩ v k hb).trans hk
theorem Keeps.grown {b B n : Nat} {w w' : World} {v : Value} {xs : List Value} (ho : w.ownsRow B 5 1 v n xs) (hg : w.grownBy w' v.ownBlock) : Keeps b w w' := fun k o hk hb hno => by
  have hl : k < w.heap.size := by
    rcases Nat.lt_or_ge k w.heap.size with h | h
    · exact h
    · rw [Array.getElem?_eq_none h] at hk; cases hk
  refine (hg.block k hl (fun e => ?_)).trans hk
  rcases ho.2 with ⟨rfl, _⟩ | ⟨g, cap, cur, rfl, hbg, hh, _⟩
  · simp [Value.ownBlock] at e
  · simp [Value.ownBlock] at e
    subst e
    rw [hh] at hk
    injection hk with hk
    exact hno _ _ hk.symm
theorem Keeps.bk {b k : Nat} {w w' : World} {t : TypeId} {cs : Array Value} (h : Keeps b w w') (hk : Bk w k t cs) (hb : k ≠ b) (ht : t ≠ 5) : Bk w' k t cs :=
  h k _ hk hb (fun cs fr e => ht (by injection e))
theorem Cm.keeps {b c : Nat} {w w' : World} (h : Cm w c) (k : Keeps b w w') (hb : c ≠ b) (hB : ∃ T cs, Bk w b T cs) : Cm w' c := by
  rcases h with h | ⟨mb, h1, h2, h3⟩
  · exact .inl (k.bk h hb (by decide))
  · refine .inr ⟨mb, h1, k.bk h2 hb (by decide), h3.go ?_⟩
    obtain ⟨es, clock, hm, _⟩ := h3
    rw [hm]
    refine k mb _ hm (fun e => ?_) (fun cs fr e => by cases e)
    obtain ⟨T, cs, hB⟩ := hB
    unfold Bk at hB
    rw [e, hB] at hm
    cases hm
theorem check2_any (B b : Nat) (bs : List Value) (w : World) (h : Lib.IsBuilder 63 5 B b bs w) :
    Calls Tryz.prog 31 #[.pointer (some ⟨b, 0, none⟩)] w fun e w' => e = .returned (.tuple #[]) ∧ (Lib.BuilderAt 63 5 B b (.pointer (some ⟨b, 0, none⟩)) bs w' ∧ Below B w w' ∧ Keeps b w w') := by
  rcases h with h | h
  · refine (check_fresh b w h.cell0 h.shape h.frozen0).mono ?_
    rintro e w' ⟨rfl, rfl⟩
    exact ⟨rfl, h.used _, (Below.refl B w).setCell (p := ⟨b, 0, none⟩) h.1 _, Keeps.setb b 0 w _⟩
  · refine (check_used b w h.cell0).mono ?_
    rintro e w' ⟨rfl, rfl⟩
    exact ⟨rfl, h, Below.refl B _, Keeps.refl b _⟩
set_option maxHeartbeats 1000000 in
set_option maxRecDepth 100000 in
theorem write2_any (B b : Nat) (l : List Nat) (s : ByteArray) (w : World) (h : SB w B b l) (hlen : l.length + s.size ≤ 140737488355328) (hBw : B ≤ w.heap.size) :
    Calls Tryz.prog 22 #[.pointer (some ⟨b, 0, none⟩), .string s] w fun e w' => e = .returned (.tuple #[.int .i64 s.size, .nilIface]) ∧ SB w' B b (l ++ bl s) ∧ Below B w w' ∧ Keeps b w w' := by
  obtain ⟨i0, hi, hz0, hz1, hz2⟩ := info_parts u8_info
  have hbl : (bV l).length = l.length := bV_len l
  have HC := Lib.hid (check2_any B b (bV l) w h)
  have HBL := Lib.hid hbl
  have hss : s.size ≤ 140737488355328 := by omega
  clear h hbl
  go_enter Tryz.func22, Tryz.ntmps22
  go_wp2_with fail
  refine HC.out.mono ?_
  rintro e w1 ⟨rfl, h1, hb1, hk1⟩
  obtain ⟨hB, v, hbk, hown, hne⟩ := h1
  have hs1 := hb1.size
  have hbk1 : Bk w1 b 63 #[.pointer (some ⟨b, 0, none⟩), v] := hbk
  have c0 := hbk1.cell 0
  have c1 : w1.cell? ⟨b, 1, none⟩ = some v := hbk1.cell 1
  have HO := Lib.hid hown
  have HB1 := Lib.hid hb1
  have HBK := Lib.hid hbk1
  have HNE := Lib.hid hne
  have HK := Lib.hid hk1
  clear hown hb1 hbk hbk1 hne HC hk1
  go_wp2_with (at_builtin; refine Lib.wpList_append_own_string _ rfl _ _ 61 9 rfl B 5 i0 Tryz.underlying61 Tryz.underlying9 hi hz0 hz1 hz2 _ _ _ rfl HO.out s rfl (by unfold maxLen; rw [HBL.out]; omega) (by rw [HBL.out]; omega) (by omega) ?_)
  intro v' w2 hown' hgrow _
  have hb2 := HBK.out.grown hgrow (fun e => HNE.out e.symm)
  have f1 := hb2.frozen 1
  have d1 : w2.cell? ⟨b, 1, none⟩ = some v := hb2.cell 1
  obtain ⟨ao, n', cap, rfl⟩ : ∃ ao n' cap, v' = .slice ao n' cap := by
    rcases hown'.2 with ⟨hv, _⟩ | ⟨g, cap, cur, hv, _⟩
    · exact ⟨_, _, _, hv⟩
    · exact ⟨_, _, _, hv⟩
  have HO2 := Lib.hid hown'
  have HG := Lib.hid hgrow
  have HB2 := Lib.hid hb2
  clear hown' hgrow hb2 c0 c1
  go_wp2
  go_ret2
  refine ⟨rfl, .inr ?_, ?_, ?_⟩
  · have ho := HO2.out
    rw [strCells_eq, ← bV_append] at ho
    have hl : (bV l).length + s.size = (bV (l ++ bl s)).length := by rw [bV_len, bV_len, List.length_append, bl_len]
    rw [hl] at ho
    exact Lib.BuilderAt.put hB HB2.out ho (by decide)
  · exact (HB1.out.grown HG.out (by omega) (fun k hk => (HO.out.lt k hk).1)).setCell (p := ⟨b, 1, none⟩) hB _
  · exact (HK.out.trans (Keeps.grown HO.out HG.out)).trans (Keeps.setb b 1 _ _)
theorem SB.touch {w w' : World} {B b c : Nat} {l : List Nat} {cs : Array Value} (h : SB w B b l) (ht : Touch (fun k => k = c) w w') (hb : b ≠ c) (hc : Bk w c 59 cs) : SB w' B b l := by
  rcases h with ⟨hB, v, hbk, hown, hne⟩ | ⟨hB, v, hbk, hown, hne⟩
  · exact .inl ⟨hB, v, Bk.touch hbk ht hb, own_touch hown ht (fun k hk e => by subst e; exact Bk.ne_own hc hown (by decide) hk), hne⟩
  · exact .inr ⟨hB, v, Bk.touch hbk ht hb, own_touch hown ht (fun k hk e => by subst e; exact Bk.ne_own hc hown (by decide) hk), hne⟩
theorem SB.bk {w : World} {B b : Nat} {l : List Nat} (h : SB w B b l) : ∃ T cs, Bk w b T cs := by
  rcases h with ⟨hB, v, hbk, _⟩ | ⟨hB, v, hbk, _⟩
  · exact ⟨_, _, hbk⟩
  · exact ⟨_, _, hbk⟩
theorem blank_pred (w : World) : PredAtRunes Tryz.prog 21 #[] blankP w := fun W x _ _ => by
  refine (blank_any x W).mono ?_
  rintro e w' ⟨rfl, rfl⟩
  exact ⟨rfl, 0, rfl⟩
theorem fields_any (x : ByteArray) (w : World) (hx : x.size ≤ 65536) :
    Calls Tryz.prog 20 #[.string x, .func (.func 21) #[] #[]] w fun e w' => ∃ A, e = .returned (.slice (some ⟨A, 0, none⟩) (Lib.goFieldsP blankP x).length (Lib.goFieldsP blankP x).length) ∧ w.heap.size ≤ A ∧ A < w'.heap.size ∧
      (∀ k, k < (Lib.goFieldsP blankP x).length → w'.cell? ⟨A, k, none⟩ = some (.string ((Lib.goFieldsP blankP x).getD k (tx [])))) ∧ Below w.heap.size w w' := by
  have h := Tryz.strings_FieldsFunc_runes 21 #[] (enters_of Tryz.func21 (by kernel_rfl) rfl) blankP x w (by omega) (blank_pred w)
  refine h.mono ?_
  rintro e w' ⟨A, rfl, h1, h2, h3⟩
  refine ⟨A, rfl, h1, ?_, fun k hk => ?_, h3⟩
  · exact (h2.lt A rfl).2
  · rw [h2.cellAt k (by omega)]
    simp [hk]
end Go.Proofs.YtfignfohcalcfaaGreatDoor

namespace Go.Proofs.YtfignfohcalcfaaGreatDoor
open Go.RowKit
set_option linter.unusedVariables false
set_option linter.unusedSimpArgs false

theorem tellF_none {x : ByteArray} (h : Lib.goFieldsP blankP x = []) : tellF x = [] := by
  unfold tellF
  rw [h]
theorem tellF_hash {x w0 : ByteArray} {t : List ByteArray} (h : Lib.goFieldsP blankP x = w0 :: t) (h2 : w0.data.toList.headD 0 = 35) : tellF x = [] := by
  unfold tellF
  rw [h]
  exact if_pos h2
theorem tellF_line {x w0 : ByteArray} {t : List ByteArray} (h : Lib.goFieldsP blankP x = w0 :: t) (h2 : ¬ w0.data.toList.headD 0 = 35) : tellF x = (lineF (Lib.goFieldsP blankP x)).data.toList ++ [10] := by
  unfold tellF
  rw [h]
  exact if_neg h2
theorem tellF_len (x : ByteArray) (hx : x.size ≤ 65536) : (tellF x).length ≤ 200001 := by
  unfold tellF
  have hg := (words_good x).1
  split
  · simp
  · rename_i w0 t h
    split
    · simp
    · have := lineF_size (w0 :: t) (fun y hy => by have := hg y (by rw [h]; exact hy); omega)
      rw [List.length_append, ← Lib.size_eq]
      simp only [List.length_cons, List.length_nil]
      omega
theorem tells_len : ∀ (l : List ByteArray), (∀ x ∈ l, x.size ≤ 65536) → (l.flatMap tellF).length ≤ l.length * 200001
  | [], _ => by simp
  | x :: t, h => by
    have h1 := tellF_len x (h x (by simp))
    have h2 := tells_len t (fun y hy => h y (by simp [hy]))
    rw [List.flatMap_cons, List.length_append, List.length_cons]
    omega
theorem getD_list (l : List ByteArray) : (List.range l.length).map (fun k => l.getD k (tx [])) = l := by
  apply List.ext_getElem
  · simp
  · intro i h1 h2
    have hi : i < l.length := by simpa using h1
    simp [hi]
theorem bl_line (s : ByteArray) : bl (s ++ (⟨#[10]⟩ : ByteArray)) = bO (s.data.toList ++ [10]) := by
  unfold bl bO
  simp
theorem bO_app (a b : List UInt8) : bO (a ++ b) = bO a ++ bO b := by simp [bO]
theorem head_at {w0 : ByteArray} (h : 0 < w0.size) : w0[0]'h = w0.data.toList.headD 0 := by
  obtain ⟨⟨l⟩⟩ := w0
  cases l with
  | nil => simp [ByteArray.size] at h
  | cons c t => rfl
set_option maxRecDepth 100000 in
set_option maxHeartbeats 3200000 in
theorem run_any (s : ByteArray) (w : World) (T : Tabs w) :
    Calls Tryz.prog 8 #[.string s] w fun e w' => e = .returned (.tuple #[.string (conF s).1, .int .i64 (conF s).2]) ∧ Below w.heap.size w w' := by
  by_cases hlong : 65536 < s.size
  · have h1 : (65536 : Int) < (s.size : Int) := by omega
    have hF : conF s = (tx [], 2701) := by unfold conF; rw [if_pos hlong]
    rw [hF]
    clear hF hlong
    go_enter Tryz.func8, Tryz.ntmps8
    go_wp2_with fail
    go_ret2
    exact ⟨rfl, Below.refl _ _⟩
  · have h1 : ¬ (65536 : Int) < (s.size : Int) := by omega
    have hF : conF s = (tx (conL s), 0) := by unfold conF; rw [if_neg hlong]
    obtain ⟨L, hL⟩ : ∃ L, Lib.splitB (tx [10]) 0 (Lib.countB s (tx [10])) s = L := ⟨_, rfl⟩
    have hLl : L.length = Lib.countB s (tx [10]) + 1 := by rw [← hL]; exact splitB_len _ (by decide) _ _ rfl
    have hLs : ∀ x ∈ L, x.size ≤ 65536 := fun x hx => by
      rw [← hL] at hx
      have := splitB_sz _ _ _ _ hx
      omega
    have hLc : conL s = L.flatMap tellF := by unfold conL; rw [hL]
    rw [hLc] at hF
    obtain ⟨n, hn⟩ : ∃ n, L.length = n := ⟨_, rfl⟩
    have hcnt : Lib.countB s (tx [10]) + 1 = n := by rw [← hn, hLl]
    have hnb : n ≤ 65537 + 1 := by
      have := Lib.count_le s.data.toList (tx [10]).data.toList
      have e := Lib.size_eq s
      unfold Lib.countB at hcnt
      omega
    rw [hF]
    obtain ⟨m, hm⟩ := T.max
    have hml := cell_lt hm
    have HT := Lib.hid T
    have HLS := Lib.hid hLs
    have HN := Lib.hid hn
    obtain ⟨b, hb⟩ : ∃ b, w.heap.size = b := ⟨_, rfl⟩
    have k0 : Bk (w.alloc (.cells (cC 0 (.map none)) 59)) b 59 (cC 0 (.map none)) := hb ▸ Bk.new w _ _
    have b0 := (Below.refl w.heap.size w).alloc (Nat.le_refl _) (.cells (cC 0 (.map none)) 59)
    obtain ⟨w1, hw1⟩ : ∃ x, w.alloc (.cells (cC 0 (.map none)) 59) = x := ⟨_, rfl⟩
    have hs1 : w1.heap.size = b + 1 := by rw [← hw1, World.size_alloc, hb]
    rw [hw1] at k0 b0
    have sb := Lib.fresh_isBuilder 63 5 w1
    have k1 := k0.alloc (.cells #[.pointer none, .slice none 0 0] 63)
    have b1 := b0.alloc b0.size (.cells #[.pointer none, .slice none 0 0] 63)
    obtain ⟨w2, hw2⟩ : ∃ x, w1.alloc (.cells #[.pointer none, .slice none 0 0] 63) = x := ⟨_, rfl⟩
    have hs2 : w2.heap.size = b + 2 := by rw [← hw2, World.size_alloc, hs1]
    rw [hw2] at sb k1 b1
    rw [hs1] at sb
    have hsp := Tryz.strings_Split s (tx [10]) m w2 (by omega) ((b1.cell hml).trans hm) (by decide)
    rw [hcnt, hL, hs2] at hsp
    have k2 := k1.alloc (.cells (L.map Value.string).toArray 9)
    have b2 := b1.alloc b1.size (.cells (L.map Value.string).toArray 9)
    have l2 : Bk (w2.alloc (.cells (L.map Value.string).toArray 9)) (b + 2) 9 (L.map Value.string).toArray := hs2 ▸ Bk.new w2 _ _
    have sb2 : SB (w2.alloc (.cells (L.map Value.string).toArray 9)) (b + 1) (b + 1) [] := SB.go sb ((Below.refl _ _).alloc (Nat.le_refl _) _)
    obtain ⟨w3, hw3⟩ : ∃ x, w2.alloc (.cells (L.map Value.string).toArray 9) = x := ⟨_, rfl⟩
    rw [hw3] at hsp k2 b2 l2 sb2
    have HSP := Lib.hid hsp
    have HST := Lib.hid (And.intro l2 (And.intro sb2 (And.intro (Or.inl k2 : Cm w3 b) b2)))
    clear hsp k2 b2 l2 sb2 k1 b1 sb k0 b0 hm hml T hL hLl hLs hF hLc hlong hw3 hn
    go_enter Tryz.func8, Tryz.ntmps8
    go_upto_region 5 with fail
    change Code.wp _ _ _ _ ((w.alloc (Obj.cells (cC 0 (.map none)) 59)).alloc (Obj.cells #[.pointer none, .slice none 0 0] 63))
    rw [hw1, hw2]
    clear hw1 hw2
    go_wp2_with fail
    refine HSP.out.mono ?_
    rintro e w3' ⟨rfl, rfl⟩
    go_wp2_with fail
    have HBE := Lib.hid hb
    have HQ : Hid (conF s = conF s) := Lib.hid rfl
    go_loopw [17] (fun t wr => ∃ i : Nat, i ≤ n ∧ t = .int .i64 i ∧ Bk wr (b + 2) 9 (L.map Value.string).toArray ∧ SB wr (b + 1) (b + 1) (bO ((L.take i).flatMap tellF)) ∧ Cm wr b ∧ Below w.heap.size w wr) (fun t _ => n - (intOf t).toNat)
    case atStart => exact ⟨0, Nat.zero_le _, rfl, HST.out.1, HST.out.2.1, HST.out.2.2.1, HST.out.2.2.2⟩
    case round =>
      obtain ⟨i, hin, rfl, hL, hSB, hCm, hB⟩ := hrel
      have HL := Lib.hid hL
      have HSB := Lib.hid hSB
      have HCM := Lib.hid hCm
      have HB := Lib.hid hB
      have hwz := hL.lt
      clear hL hSB hCm hB HSP HST
      have hi0 : (0 : Int) ≤ (i : Int) := Int.natCast_nonneg _
      by_cases hlt : i < n
      · have hi1 : (i : Int) < (n : Int) := by omega
        have hil : i < L.length := by have := HN.out; omega
        have hcc : wr.cell? ⟨b + 2, i, none⟩ = some (.string L[i]) := by rw [HL.out.cell i]; simp [hil]
        have hxs := HLS.out L[i] (List.getElem_mem hil)
        have htk : L.take (i + 1) = L.take i ++ [L[i]] := by rw [List.take_add_one, List.getElem?_eq_getElem hil]; rfl
        obtain ⟨x, hx⟩ : ∃ x, L[i] = x := ⟨_, rfl⟩
        rw [hx] at hcc hxs htk
        have hfm : (L.take (i + 1)).flatMap tellF = (L.take i).flatMap tellF ++ tellF x := by rw [htk, List.flatMap_append]; simp
        have htl := tells_len (L.take i) (fun y hy => HLS.out y (List.mem_of_mem_take hy))
        rw [List.length_take] at htl
        have htl2 : ((L.take i).flatMap tellF).length ≤ 13200000000 := by
          have h1 : min i L.length ≤ 65538 := by omega
          have h2 : min i L.length * 200001 ≤ 65538 * 200001 := Nat.mul_le_mul_right _ h1
          omega
        obtain ⟨J, hJ⟩ : ∃ J, (L.take i).flatMap tellF = J := ⟨_, rfl⟩
        rw [hJ] at HSB hfm htl2
        have HFM := Lib.hid hfm
        have HFF := Lib.hid (fields_any x wr hxs)
        have hgood := words_good x
        have hn1 := tellF_none (x := x)
        have hn2 := fun w0 t => tellF_hash (x := x) (w0 := w0) (t := t)
        have hn3 := fun w0 t => tellF_line (x := x) (w0 := w0) (t := t)
        obtain ⟨ws, hws⟩ : ∃ ws, Lib.goFieldsP blankP x = ws := ⟨_, rfl⟩
        rw [hws] at HFF hgood hn1
        simp only [hws] at hn2 hn3
        obtain ⟨hg1, hg2⟩ := hgood
        obtain ⟨nw, hnw⟩ : ∃ nw, ws.length = nw := ⟨_, rfl⟩
        rw [hnw] at HFF hg2
        have HNW := Lib.hid hnw
        have HG1 := Lib.hid hg1
        have HN1 := Lib.hid hn1
        have HN2 := Lib.hid hn2
        have HN3 := Lib.hid hn3
        clear hx htk htl hJ hfm hn1 hn2 hn3 hws hg1 hnw
        go_wp2_with fail
        refine HFF.out.mono ?_
        rintro e w4 ⟨A, rfl, hA1, hA2, hA3, hb4⟩
        have HA3 := Lib.hid hA3
        have HL4 := Lib.hid (Bk.go HL.out hb4)
        have HSB4 := Lib.hid (SB.go HSB.out hb4)
        have HCM4 := Lib.hid (Cm.go HCM.out hb4)
        have HB4 := Lib.hid (HB.out.trans (hb4.mono HB.out.size))
        clear hb4 hA3 HL HSB HCM HB HFF hcc
        cases ws with
        | nil =>
          have HFM2 : Hid ((L.take (i + 1)).flatMap tellF = J) := Lib.hid (by rw [HFM.out, HN1.out rfl, List.append_nil])
          have hnw0 : nw = 0 := HNW.out.symm
          subst hnw0
          clear HN1 HN2 HN3 HFM hg2 HG1
          go_wp2_with fail
          exact ⟨⟨i + 1, by omega, by go_num, HL4.out, HFM2.out ▸ HSB4.out, HCM4.out, HB4.out⟩, by simp [intOf]; omega⟩
        | cons w0 t =>
          have hnp : 0 < nw := by rw [← HNW.out]; simp
          have hnp2 : (0 : Int) < (nw : Int) := by omega
          have hnp3 : (0 : Int) ≤ (nw : Int) := by omega
          have ha0 : w4.cell? ⟨A, 0, none⟩ = some (.string w0) := HA3.out 0 hnp
          obtain ⟨hz1, hz2⟩ := HG1.out w0 (by simp)
          have hz3 : (0 : Int) < (w0.size : Int) := by omega
          have hat : (w0[0]'hz1).toNat = (w0.data.toList.headD 0).toNat := by rw [head_at hz1]
          obtain ⟨y, hy⟩ : ∃ y, w0.data.toList.headD 0 = y := ⟨_, rfl⟩
          rw [hy] at hat
          obtain ⟨Y, hY⟩ : ∃ Y, y.toNat = Y := ⟨_, rfl⟩
          rw [hY] at hat
          by_cases h35 : y = 35
          · have HFM2 : Hid ((L.take (i + 1)).flatMap tellF = J) := Lib.hid (by rw [HFM.out, HN2.out w0 t rfl (hy.trans h35), List.append_nil])
            have hne : ((Y : Int) != 35) = false := by subst h35; rw [← hY]; rfl
            clear HN1 HN2 HN3 HFM HG1 hy hY h35
            go_wp2_with fail
            exact ⟨⟨i + 1, by omega, by go_num, HL4.out, HFM2.out ▸ HSB4.out, HCM4.out, HB4.out⟩, by simp [intOf]; omega⟩
          · have HLF := Lib.hid (HN3.out w0 t rfl (fun e => h35 (hy.symm.trans e)))
            have hne : ((Y : Int) != 35) = true := by
              simp
              intro e
              apply h35
              have h2 : y.toNat = 35 := by omega
              exact UInt8.toNat_inj.1 h2
            have hls := lineF_size (w0 :: t) (fun z hz => by have := HG1.out z hz; omega)
            have hLN := line_any b (fun k => (w0 :: t).getD k (tx [])) (some ⟨A, 0, none⟩) nw nw w4 (fun _ => ⟨⟨A, 0, none⟩, rfl, hA2, fun k hk => by rw [add_new]; exact HA3.out k hk⟩) hnp (by omega) (Nat.le_refl _) (fun k => by
              rw [List.getD_eq_getElem?_getD]
              cases hz : (w0 :: t)[k]? with
              | none => exact Nat.zero_le _
              | some z => have := HG1.out z (List.mem_of_getElem? hz); simp only [Option.getD_some]; omega) (fun ad e => by
              injection e with e
              subst e
              show A ≠ b
              omega) HCM4.out w HT.out HB4.out (by omega)
            rw [show (List.range nw).map (fun k => (w0 :: t).getD k (tx [])) = w0 :: t from by rw [← HNW.out]; exact getD_list _] at hLN
            obtain ⟨LT, hLT⟩ : ∃ LT, lineF (w0 :: t) = LT := ⟨_, rfl⟩
            rw [hLT] at hLN HLF hls
            have HLN := Lib.hid hLN
            obtain ⟨X, hX⟩ : ∃ X, LT ++ (⟨#[10]⟩ : ByteArray) = X := ⟨_, rfl⟩
            have hXb : bl X = bO (tellF x) := by rw [← hX, bl_line, HLF.out]
            have hXs : X.size ≤ 200001 := by
              rw [← hX, ByteArray.size_append]
              have : (⟨#[10]⟩ : ByteArray).size = 1 := rfl
              omega
            have hls2 : (LT.size : Int) ≤ 8388608 := by omega
            have hJb : (bO J).length ≤ 13200000000 := by unfold bO; rw [List.length_map]; exact htl2
            have HXB := Lib.hid hXb
            have HJB := Lib.hid hJb
            have HFM2 : Hid (bO ((L.take (i + 1)).flatMap tellF) = bO J ++ bO (tellF x)) := Lib.hid (by rw [HFM.out, bO_app])
            clear HN1 HN2 HN3 hy hY h35 hLN hLT HLF hXb hJb HFM htl2 HG1
            go_wp2_with fail
            refine HLN.out.mono ?_
            rintro e w5 ⟨rfl, hcm5, ht5⟩
            obtain ⟨cs5, hbk5⟩ := Cm.bk HCM4.out
            have HSB5 := Lib.hid (SB.touch HSB4.out ht5 (by omega) hbk5)
            have HL5 := Lib.hid (HL4.out.touch ht5 (by omega))
            have HCM5 := Lib.hid hcm5
            have HB5 := Lib.hid (Below.touch HB4.out ht5 (fun k hk => by omega) (Nat.le_refl _))
            have hs5 := ht5.size
            clear hcm5 ht5 hbk5 HSB4 HL4 HCM4 HB4
            go_wp2_with fail
            refine (write2_any (b + 1) (b + 1) (bO J) X w5 HSB5.out (by have := HJB.out; omega) (by omega)).mono ?_
            rintro e w6 ⟨rfl, hsb6, hb6, hk6⟩
            have HSB6 := Lib.hid hsb6
            have HL6 := Lib.hid (hk6.bk HL5.out (by omega) (by decide))
            have HCM6 := Lib.hid (Cm.keeps HCM5.out hk6 (by omega) (SB.bk HSB5.out))
            have HB6 := Lib.hid (HB5.out.trans (hb6.mono (by omega)))
            clear hsb6 hb6 hk6
            go_wp2_with fail
            exact ⟨⟨i + 1, by omega, by go_num, HL6.out, by rw [HFM2.out, ← HXB.out]; exact HSB6.out, HCM6.out, HB6.out⟩, by simp [intOf]; omega⟩
      · obtain rfl : i = n := by omega
        have hsb := HSB.out
        rw [← HN.out, List.take_length] at hsb
        have hS := sbString_any (b + 1) (b + 1) (bO (L.flatMap tellF)) wr hsb (fun z hz => by
          unfold bO at hz
          obtain ⟨c, _, rfl⟩ := List.mem_map.1 hz
          exact UInt8.toNat_lt c) (by omega)
        rw [show txt (bO (L.flatMap tellF)) = tx (L.flatMap tellF) from txt_tx _] at hS
        have HS := Lib.hid hS
        clear hsb hS
        go_wp2_with fail
        refine HS.out.mono ?_
        rintro e w4 ⟨rfl, hb4⟩
        have HB4 := Lib.hid (HB.out.trans (hb4.mono (by omega)))
        clear hb4
        go_wp2_with fail
        go_ret2
        exact ⟨rfl, HB4.out⟩
end Go.Proofs.YtfignfohcalcfaaGreatDoor
