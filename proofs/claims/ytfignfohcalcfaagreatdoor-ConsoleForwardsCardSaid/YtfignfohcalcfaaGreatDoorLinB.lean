/- A script's lines, a line's words, plainly. No function of the program. Numerals: what a number's numeral comes to, plainly. No function of the program. -/
import Derived.Test.YtfignfohcalcfaaGreatDoorConA
import Derived.Laws.RangeString
namespace Go.Proofs.YtfignfohcalcfaaGreatDoor
set_option linter.unusedVariables false
set_option linter.unusedSimpArgs false

/-- a text cut at its LFs -/
def lnL : List UInt8 → List UInt8 → List (List UInt8)
  | cur, [] => [cur]
  | cur, c :: r => if c = 10 then cur :: lnL [] r else lnL (cur ++ [c]) r
theorem lnL_app (r : List UInt8) : ∀ (a cur : List UInt8), lnL cur (a ++ 10 :: r) = lnL cur a ++ lnL [] r
  | [], cur => by simp [lnL]
  | c :: a, cur => by
    by_cases h : c = 10
    · simp [lnL, h, lnL_app r a []]
    · simp [lnL, h, lnL_app r a (cur ++ [c])]
theorem lnL_one : ∀ (s cur : List UInt8), (∀ x ∈ s, x ≠ 10) → lnL cur s = [cur ++ s]
  | [], cur, _ => by simp [lnL]
  | c :: r, cur, h => by
    have h1 : ¬ c = 10 := h c (by simp)
    rw [lnL, if_neg h1, lnL_one r (cur ++ [c]) fun x hx => h x (by simp [hx])]
    simp
theorem occ10 (s : List UInt8) (j : Nat) : Lib.occAt s [10] j = true ↔ s[j]? = some 10 := by
  have h : s[j]? = (s.drop j)[0]? := by simp
  rw [h]
  unfold Lib.occAt
  cases s.drop j with
  | nil => simp [List.isPrefixOf]
  | cons c r => simp [List.isPrefixOf]; exact eq_comm
theorem splitK_lines : ∀ (n : Nat) (s : List UInt8), s.length ≤ n → Lib.splitK [10] 0 (Lib.count s [10]) s = lnL [] s := by
  intro n
  induction n with
  | zero =>
    intro s hs
    have : s = [] := List.eq_nil_of_length_eq_zero (by omega)
    subst this
    rfl
  | succ n ih =>
    intro s hs
    rcases Lib.index_spec s [10] with ⟨h1, h2⟩ | ⟨i, h1, h2, h3, h4⟩
    · rw [Lib.count_miss h1, lnL_one s [] ?_]
      · rfl
      · intro x hx e
        obtain ⟨j, hj, hx⟩ := List.getElem_of_mem hx
        have := h2 j (by omega)
        have h5 := (occ10 s j).2 (by rw [List.getElem?_eq_getElem hj, hx, e])
        rw [h5] at this
        cases this
    · have hi := (occ10 s i).1 h3
      obtain ⟨hil, hi2⟩ := List.getElem?_eq_some_iff.1 hi
      have hm : ¬ (Lib.index s [10] == -1) = true := fun e => by have := beq_iff_eq.1 e; omega
      rw [Lib.count_hit (by simp) h1, Nat.add_comm 1, Lib.splitK, if_neg hm, h1]
      have hc : s = s.take i ++ 10 :: s.drop (i + 1) := by
        have := List.drop_eq_getElem_cons hil
        rw [hi2] at this
        rw [← this, List.take_append_drop]
      rw [show ((i : Int).toNat) = i from rfl, Nat.add_zero]
      have hd := ih (s.drop (i + 1)) (by rw [List.length_drop]; omega)
      show s.take i :: Lib.splitK [10] 0 (Lib.count (s.drop (i + 1)) [10]) (s.drop (i + 1)) = lnL [] s
      rw [hd]
      conv => rhs; rw [hc]
      rw [lnL_app, lnL_one (s.take i) [] ?_]
      · rfl
      · intro x hx e
        obtain ⟨j, hj, hx⟩ := List.getElem_of_mem hx
        rw [List.length_take] at hj
        have h5 := (occ10 s j).2 (by rw [List.getElem?_eq_getElem (by omega)]; rw [List.getElem_take] at hx; rw [hx, e])
        have h6 := h4 j (by omega)
        rw [h5] at h6
        cases h6
theorem tx_data (s : ByteArray) : tx s.data.toList = s := by unfold tx; simp
theorem data_tx (l : List UInt8) : (tx l).data.toList = l := by simp [tx]
theorem tx_size (l : List UInt8) : (tx l).size = l.length := by simp [tx, ByteArray.size]
theorem tx_inj {l m : List UInt8} (h : tx l = tx m) : l = m := by rw [← data_tx l, h, data_tx]
theorem split_lines (s : ByteArray) : Lib.splitB (tx [10]) 0 (Lib.countB s (tx [10])) s = (lnL [] s.data.toList).map tx := by
  have h := Lib.splitB_data (tx [10]) 0 (Lib.countB s (tx [10])) s
  rw [data_tx] at h
  have h2 : Lib.splitK [10] 0 (Lib.countB s (tx [10])) s.data.toList = lnL [] s.data.toList := by
    unfold Lib.countB
    rw [data_tx]
    exact splitK_lines _ _ (Nat.le_refl _)
  rw [h2] at h
  rw [← h, List.map_map]
  conv => lhs; rw [← List.map_id (Lib.splitB (tx [10]) 0 (Lib.countB s (tx [10])) s)]
  exact List.map_congr_left fun x _ => (tx_data x).symm
theorem conL_lines (s : ByteArray) : conL s = (lnL [] s.data.toList).flatMap fun l => tellF (tx l) := by
  unfold conL
  rw [split_lines, List.flatMap_map]
theorem tell_nil : tellF (tx []) = [] := rfl
theorem conL_nil : conL (tx []) = [] := by rw [conL_lines]; rfl
theorem conL_cut (a r : List UInt8) : conL (tx (a ++ 10 :: r)) = conL (tx a) ++ conL (tx r) := by
  rw [conL_lines, conL_lines, conL_lines, data_tx, data_tx, data_tx, lnL_app, List.flatMap_append]
theorem conL_begin (a r : List UInt8) : conL (tx (a ++ 10 :: r)) = conL (tx (a ++ [10])) ++ conL (tx r) := by
  rw [conL_cut, conL_cut, conL_nil, List.append_nil]
theorem conL_one (a : List UInt8) (h : ∀ x ∈ a, x ≠ 10) : conL (tx a) = tellF (tx a) := by
  rw [conL_lines, data_tx, lnL_one a [] h]
  simp

/-- a line's words -/
def wdL : List UInt8 → List UInt8 → List (List UInt8)
  | cur, [] => if cur = [] then [] else [cur]
  | cur, c :: r => if blankP c.toNat = true then (if cur = [] then wdL [] r else cur :: wdL [] r) else wdL (cur ++ [c]) r
theorem spans_words (s : ByteArray) (ha : ∀ c ∈ s.data.toList, c.toNat < 128) : ∀ (f pos : Nat) (st : Option Nat) (acc : List (Nat × Nat)), s.size ≤ pos + f → pos ≤ s.size → (∀ a, st = some a → a < pos) →
    acc.map (fun p => Lib.pieceU s.data.toList p.1 p.2) ++ wdL (Lib.openPiece s.data.toList st pos) (s.data.toList.drop pos) = (Lib.closeSpans s (Lib.spansFromP blankP s f pos st acc)).map (fun p => Lib.pieceU s.data.toList p.1 p.2)
  | f, pos, st, acc, h, hp, hst => by
    by_cases hlt : pos < s.size
    · cases f with
      | zero => omega
      | succ f =>
        have hl : pos < s.data.toList.length := by rw [← Lib.size_eq]; exact hlt
        have hd : s.data.toList.drop pos = s[pos] :: s.data.toList.drop (pos + 1) := by
          rw [List.drop_eq_getElem_cons hl]
          rfl
        have hdec := decode_ascii s pos hlt (ha _ (by
          have : s[pos] = s.data.toList[pos] := rfl
          rw [this]
          exact List.getElem_mem hl))
        obtain ⟨c, hc⟩ : ∃ c, s[pos] = c := ⟨_, rfl⟩
        rw [hc] at hd hdec
        rw [hd]
        simp only [Lib.spansFromP, if_pos hlt, hdec, wdL]
        have hone : (s.data.toList.drop pos).take 1 = [c] := by rw [hd]; rfl
        cases hb : blankP c.toNat with
        | true =>
          simp only [if_true]
          cases st with
          | none =>
            have ih := spans_words s ha f (pos + 1) none acc (by omega) (by omega) (fun a h => by cases h)
            simpa [Lib.openPiece] using ih
          | some a =>
            have hpn := Lib.pieceU_ne s.data.toList a pos (hst a rfl) (by rw [← Lib.size_eq]; omega)
            have ih := spans_words s ha f (pos + 1) none (acc ++ [(a, pos)]) (by omega) (by omega) (fun a h => by cases h)
            simpa [Lib.openPiece, hpn] using ih
        | false =>
          simp only [Bool.false_eq_true, if_false]
          cases st with
          | none =>
            have ih := spans_words s ha f (pos + 1) (some pos) acc (by omega) (by omega) (fun a h => by cases h; omega)
            have e : ([] : List UInt8) ++ [c] = Lib.pieceU s.data.toList pos (pos + 1) := by
              unfold Lib.pieceU
              rw [List.nil_append, Nat.add_sub_cancel_left, hone]
            simp only [Lib.openPiece] at ih ⊢
            rw [e]
            exact ih
          | some a =>
            have ih := spans_words s ha f (pos + 1) (some a) acc (by omega) (by omega) (fun b h => by cases h; have := hst a rfl; omega)
            simp only [Lib.openPiece] at ih ⊢
            rw [← hone, Lib.pieceU_grow _ _ _ _ (Nat.le_of_lt (hst a rfl))]
            exact ih
    · obtain rfl : pos = s.size := by omega
      have hd : s.data.toList.drop s.size = [] := List.drop_eq_nil_of_le (by rw [← Lib.size_eq]; exact Nat.le_refl _)
      rw [hd, Lib.spansFromP_end blankP s _ _ _ _ hlt]
      cases st with
      | none => simp [Lib.closeSpans, Lib.openPiece, wdL]
      | some a =>
        have := Lib.pieceU_ne s.data.toList a s.size (hst a rfl) (by rw [← Lib.size_eq]; exact Nat.le_refl _)
        simp [Lib.closeSpans, Lib.openPiece, this, wdL]
theorem words_ascii (s : ByteArray) (h : ∀ c ∈ s.data.toList, c.toNat < 128) : Lib.goFieldsP blankP s = (wdL [] s.data.toList).map tx := by
  have k := spans_words s h s.size 0 none [] (by omega) (Nat.zero_le _) (fun a h => by cases h)
  simp only [List.map_nil, List.nil_append, Lib.openPiece, List.drop_zero] at k
  unfold Lib.goFieldsP Lib.spansOfP
  rw [k, List.map_map]
  refine List.map_congr_left fun p _ => ?_
  show s.extract p.1 p.2 = tx (Lib.pieceU s.data.toList p.1 p.2)
  rw [← tx_data (s.extract p.1 p.2)]
  congr 1
  simp [Lib.pieceU]
/-- no blank among these -/
def Wd (l : List UInt8) : Prop := ∀ c ∈ l, blankP c.toNat = false
/-- blanks alone -/
def Bl (l : List UInt8) : Prop := ∀ c ∈ l, blankP c.toNat = true
theorem wdL_word : ∀ (w r cur : List UInt8), Wd w → wdL cur (w ++ r) = wdL (cur ++ w) r
  | [], r, cur, _ => by simp
  | c :: w, r, cur, h => by
    have h1 : blankP c.toNat = false := h c (by simp)
    rw [List.cons_append, wdL, h1]
    simp only [Bool.false_eq_true, if_false]
    rw [wdL_word w r _ fun x hx => h x (by simp [hx])]
    simp
theorem wdL_blank : ∀ (b r : List UInt8), Bl b → wdL [] (b ++ r) = wdL [] r
  | [], r, _ => rfl
  | c :: b, r, h => by
    have h1 : blankP c.toNat = true := h c (by simp)
    rw [List.cons_append, wdL, h1]
    simp only [if_true]
    exact wdL_blank b r fun x hx => h x (by simp [hx])
theorem wdL_step (w b r : List UInt8) (hw : Wd w) (hw0 : w ≠ []) (hb : Bl b) (hb0 : b ≠ []) : wdL [] (w ++ (b ++ r)) = w :: wdL [] r := by
  rw [wdL_word w _ [] hw, List.nil_append]
  cases b with
  | nil => exact absurd rfl hb0
  | cons c b =>
    have h1 : blankP c.toNat = true := hb c (by simp)
    rw [List.cons_append, wdL, h1]
    simp only [if_true]
    rw [if_neg hw0, wdL_blank b r fun x hx => hb x (by simp [hx])]
theorem wdL_last (w : List UInt8) (hw : Wd w) (hw0 : w ≠ []) : wdL [] w = [w] := by
  have := wdL_word w [] [] hw
  rw [List.append_nil, List.nil_append] at this
  rw [this, wdL, if_neg hw0]
theorem tell_words (l : List UInt8) (h : ∀ c ∈ l, c.toNat < 128) (w : List UInt8) (t : List (List UInt8)) (hw : wdL [] l = w :: t) (h35 : w.headD 0 ≠ 35) : tellF (tx l) = (lineF (tx w :: t.map tx)).data.toList ++ [10] := by
  unfold tellF
  rw [words_ascii _ (by rw [data_tx]; exact h), data_tx, hw]
  simp only [List.map_cons]
  rw [if_neg (by rw [data_tx]; exact h35)]
theorem tell_none (l : List UInt8) (h : ∀ c ∈ l, c.toNat < 128) (hw : wdL [] l = []) : tellF (tx l) = [] := by
  unfold tellF
  rw [words_ascii _ (by rw [data_tx]; exact h), data_tx, hw]
  rfl
end Go.Proofs.YtfignfohcalcfaaGreatDoor

namespace Go.Proofs.YtfignfohcalcfaaGreatDoor
set_option linter.unusedVariables false
set_option linter.unusedSimpArgs false

def Dg (l : List UInt8) : Prop := ∀ c ∈ l, 48 ≤ c.toNat ∧ c.toNat ≤ 57
def dv (acc : Nat) (l : List UInt8) : Nat := l.foldl (fun a c => a * 10 + (c.toNat - 48)) acc
theorem dv_nil (acc : Nat) : dv acc [] = acc := by simp [dv]
theorem dv_cons (acc : Nat) (c : UInt8) (l : List UInt8) : dv acc (c :: l) = dv (acc * 10 + (c.toNat - 48)) l := by simp [dv]
theorem dv_snoc (l : List UInt8) (acc : Nat) (c : UInt8) : dv acc (l ++ [c]) = dv acc l * 10 + (c.toNat - 48) := by simp [dv]
theorem parse_ok (l : List UInt8) : ∀ acc : Nat, Dg l → (acc + 1) * 10 ^ l.length ≤ 1000000000000000000 → Lib.parseUint10 acc l = .ok (dv acc l) ∧ dv acc l < (acc + 1) * 10 ^ l.length := by
  induction l with
  | nil =>
    intro acc _ _
    refine ⟨rfl, ?_⟩
    rw [List.length_nil, Nat.pow_zero, Nat.mul_one, dv_nil]
    exact Nat.lt_succ_self _
  | cons c r ih =>
    intro acc hd h
    have h1 := hd c (by simp)
    have hp : 1 ≤ 10 ^ r.length := Nat.one_le_pow _ _ (by decide)
    have e : (acc + 1) * 10 ^ (c :: r).length = (acc + 1) * 10 * 10 ^ r.length := by rw [List.length_cons, Nat.pow_succ, Nat.mul_assoc, Nat.mul_comm 10]
    rw [e] at h ⊢
    have h2 : (acc + 1) * 10 ≤ (acc + 1) * 10 * 10 ^ r.length := Nat.le_mul_of_pos_right _ hp
    have h3 : (acc + 1) * 10 ≤ 1000000000000000000 := Nat.le_trans h2 h
    have h4 : (acc * 10 + (c.toNat - 48) + 1) * 10 ^ r.length ≤ (acc + 1) * 10 * 10 ^ r.length := Nat.mul_le_mul_right _ (by omega)
    obtain ⟨q1, q2⟩ := ih (acc * 10 + (c.toNat - 48)) (fun x hx => hd x (by simp [hx])) (Nat.le_trans h4 h)
    rw [dv_cons]
    refine ⟨?_, Nat.lt_of_lt_of_le q2 h4⟩
    rw [Lib.parseUint10, if_pos h1, if_neg (by omega), if_neg (by omega), q1]
theorem pow_ten (k : Nat) (h : k ≤ 10) : 10 ^ k ≤ 10000000000 := Nat.pow_le_pow_right (n := 10) (by decide) h
theorem trim_minus (l : List UInt8) : Lib.trimPrefix (45 :: l) [45] = l := by simp [Lib.trimPrefix, Lib.hasPrefix, List.isPrefixOf]
theorem trim_other (c : UInt8) (l : List UInt8) (h : c ≠ 45) : Lib.trimPrefix (c :: l) [45] = c :: l := by
  have : (45 : UInt8) ≠ c := fun e => h e.symm
  simp [Lib.trimPrefix, Lib.hasPrefix, List.isPrefixOf, this]
theorem numF_minus (l : List UInt8) (h0 : l ≠ []) (hl : l.length ≤ 10) (hd : Dg l) : Lib.atoiAll (45 :: l) = .ok (-(dv 0 l : Int)) ∧ numF (tx (45 :: l)) = some (-(dv 0 l : Int)) := by
  have hp : (0 + 1) * 10 ^ l.length ≤ 1000000000000000000 := by
    rw [Nat.zero_add, Nat.one_mul]
    exact Nat.le_trans (pow_ten _ hl) (by decide)
  obtain ⟨q1, q2⟩ := parse_ok l 0 hd hp
  have hlt : dv 0 l < 10000000000 := Nat.lt_of_lt_of_le q2 (by rw [Nat.zero_add, Nat.one_mul]; exact pow_ten _ hl)
  have ha : Lib.atoiAll (45 :: l) = .ok (-(dv 0 l : Int)) := by
    unfold Lib.atoiAll
    simp only [show (45 : UInt8).toNat = 45 from rfl, or_true, if_true]
    unfold Lib.parseMag
    rw [if_neg h0, q1]
    simp
    omega
  refine ⟨ha, ?_⟩
  have hall : l.all (fun c => decide (48 ≤ c.toNat) && decide (c.toNat ≤ 57)) = true := by
    rw [List.all_eq_true]
    intro c hc
    simp [hd c hc]
  unfold numF
  simp only [data_tx, trim_minus, ha]
  rw [if_neg (by simp [h0]; omega), if_pos hall]
theorem numF_plain (l : List UInt8) (h0 : l ≠ []) (hl : l.length ≤ 10) (hd : Dg l) : Lib.atoiAll l = .ok (dv 0 l : Int) ∧ numF (tx l) = some (dv 0 l : Int) := by
  have hp : (0 + 1) * 10 ^ l.length ≤ 1000000000000000000 := by
    rw [Nat.zero_add, Nat.one_mul]
    exact Nat.le_trans (pow_ten _ hl) (by decide)
  obtain ⟨q1, q2⟩ := parse_ok l 0 hd hp
  have hlt : dv 0 l < 10000000000 := Nat.lt_of_lt_of_le q2 (by rw [Nat.zero_add, Nat.one_mul]; exact pow_ten _ hl)
  have ha : Lib.atoiAll l = .ok (dv 0 l : Int) := by
    cases l with
    | nil => exact absurd rfl h0
    | cons c r =>
      have hc := hd c (by simp)
      unfold Lib.atoiAll
      simp only [show ¬ (c.toNat = 43 ∨ c.toNat = 45) by omega, if_false]
      unfold Lib.parseMag
      rw [if_neg h0, q1]
      simp [show ¬ c.toNat = 45 by omega]
      omega
  refine ⟨ha, ?_⟩
  have hall : l.all (fun c => decide (48 ≤ c.toNat) && decide (c.toNat ≤ 57)) = true := by
    rw [List.all_eq_true]
    intro c hc
    simp [hd c hc]
  have ht : Lib.trimPrefix l [45] = l := by
    cases l with
    | nil => exact absurd rfl h0
    | cons c r =>
      have hc := hd c (by simp)
      exact trim_other c r (fun e => by subst e; simp at hc)
  unfold numF
  simp only [data_tx, ht, ha]
  rw [if_neg (by simp [h0]; omega), if_pos hall]
/-- what passes the tests is a number -/
theorem numF_some (w : ByteArray) (h : ¬ (Lib.trimPrefix w.data.toList [45] = [] ∨ 10 < (Lib.trimPrefix w.data.toList [45]).length)) (ha : (Lib.trimPrefix w.data.toList [45]).all (fun c => decide (48 ≤ c.toNat) && decide (c.toNat ≤ 57)) = true) :
    ∃ v : Int, Lib.atoiAll w.data.toList = .ok v ∧ numF w = some v := by
  obtain ⟨l, hl⟩ : ∃ l, w.data.toList = l := ⟨_, rfl⟩
  have hw : w = tx l := by rw [← hl, tx_data]
  subst hw
  rw [data_tx] at h ha ⊢
  have hD : Dg (Lib.trimPrefix l [45]) := fun c hc => by
    have := List.all_eq_true.1 ha c hc
    simpa using this
  cases l with
  | nil => exact absurd (Or.inl rfl) h
  | cons c r =>
    by_cases hc : c = 45
    · subst hc
      rw [trim_minus] at h hD
      obtain ⟨q1, q2⟩ := numF_minus r (fun e => h (Or.inl e)) (by omega) hD
      exact ⟨_, q1, q2⟩
    · rw [trim_other c r hc] at h hD
      obtain ⟨q1, q2⟩ := numF_plain (c :: r) (by simp) (by omega) hD
      exact ⟨_, q1, q2⟩
theorem numF_none1 (w : ByteArray) (h : Lib.trimPrefix w.data.toList [45] = [] ∨ 10 < (Lib.trimPrefix w.data.toList [45]).length) : numF w = none := by
  unfold numF
  rw [if_pos h]
theorem numF_none2 (w : ByteArray) (ha : ¬ (Lib.trimPrefix w.data.toList [45]).all (fun c => decide (48 ≤ c.toNat) && decide (c.toNat ≤ 57)) = true) : numF w = none := by
  unfold numF
  dsimp only
  split
  · rfl
  · first | rfl | rw [if_neg ha]
theorem numF_bd (w : ByteArray) (v : Int) (h : numF w = some v) : -9223372036854775808 ≤ v ∧ v ≤ 9223372036854775807 := by
  unfold numF at h
  dsimp only at h
  split at h
  · cases h
  · split at h
    · split at h
      · rename_i u hu
        injection h with h
        subst h
        unfold Lib.atoiAll at hu
        split at hu
        · cases hu
        · dsimp only at hu
          split at hu
          · cases hu
          · cases hu
          · split at hu
            · cases hu
            · split at hu
              · cases hu
              · injection hu with hu
                subst hu
                split <;> omega
      · cases h
    · cases h
theorem ofNat_toNat (n : Nat) (h : n < 256) : (UInt8.ofNat n).toNat = n := by simp; omega
theorem dec_digits (u : Nat) : Dg (Lib.decDigits u) ∧ dv 0 (Lib.decDigits u) = u ∧ Lib.decDigits u ≠ [] := by
  induction u using Nat.strongRecOn with
  | _ u ih =>
    by_cases h : u < 10
    · rw [Lib.decDigits, dif_pos h]
      refine ⟨?_, ?_, by simp⟩
      · intro c hc
        simp only [List.mem_singleton] at hc
        subst hc
        rw [ofNat_toNat _ (by omega)]
        omega
      · rw [dv_cons, dv_nil]
        rw [ofNat_toNat _ (by omega)]
        omega
    · obtain ⟨h1, h2, h3⟩ := ih (u / 10) (by omega)
      rw [Lib.decDigits, dif_neg h]
      refine ⟨?_, ?_, by simp⟩
      · intro c hc
        rcases List.mem_append.1 hc with hc | hc
        · exact h1 c hc
        · simp only [List.mem_singleton] at hc
          subst hc
          rw [ofNat_toNat _ (by omega)]
          omega
      · rw [dv_snoc, h2, ofNat_toNat _ (by omega)]
        omega
theorem dec_length : ∀ (k u : Nat), u < 10 ^ (k + 1) → (Lib.decDigits u).length ≤ k + 1
  | 0, u, h => by rw [Lib.decDigits, dif_pos (by simpa using h)]; simp
  | k + 1, u, h => by
    by_cases h2 : u < 10
    · rw [Lib.decDigits, dif_pos h2]; simp
    · rw [Lib.decDigits, dif_neg h2]
      have := dec_length k (u / 10) (by rw [Nat.pow_succ] at h; omega)
      simp
      omega
theorem numF_itoa (n : Int) (h0 : -10000000000 < n) (h1 : n < 10000000000) : numF (tx (Lib.itoa n)) = some n := by
  unfold Lib.itoa
  by_cases h : n < 0
  · rw [if_pos h]
    obtain ⟨d1, d2, d3⟩ := dec_digits n.natAbs
    rw [(numF_minus _ d3 (dec_length 9 _ (by omega)) d1).2, d2]
    congr 1
    omega
  · rw [if_neg h]
    obtain ⟨d1, d2, d3⟩ := dec_digits n.toNat
    rw [(numF_plain _ d3 (dec_length 9 _ (by omega)) d1).2, d2]
    congr 1
    omega
/-- a numeral's bytes -/
theorem itoa_bytes (n : Int) (c : UInt8) (h : c ∈ Lib.itoa n) : c = 45 ∨ (48 ≤ c.toNat ∧ c.toNat ≤ 57) := by
  unfold Lib.itoa at h
  split at h
  · rcases List.mem_cons.1 h with h | h
    · exact Or.inl h
    · exact Or.inr ((dec_digits _).1 c h)
  · exact Or.inr ((dec_digits _).1 c h)
theorem itoa_ne (n : Int) : Lib.itoa n ≠ [] := by
  unfold Lib.itoa
  split
  · simp
  · exact (dec_digits _).2.2
theorem itoa_wd (n : Int) : Wd (Lib.itoa n) := by
  intro c hc
  rcases itoa_bytes n c hc with rfl | h
  · rfl
  · unfold blankP
    simp
    omega
theorem itoa_ascii (n : Int) (c : UInt8) (h : c ∈ Lib.itoa n) : c.toNat < 128 ∧ c ≠ 10 := by
  rcases itoa_bytes n c h with rfl | h
  · exact ⟨by decide, by decide⟩
  · refine ⟨by omega, fun e => ?_⟩
    subst e
    simp at h
theorem numsF_map (l : List Int) (h : ∀ x ∈ l, -10000000000 < x ∧ x < 10000000000) : numsF (l.map fun x => tx (Lib.itoa x)) = some l := by
  induction l with
  | nil => rfl
  | cons x t ih =>
    have hx := h x (by simp)
    rw [List.map_cons, numsF, numF_itoa x hx.1 hx.2, ih fun y hy => h y (by simp [hy])]
    rfl
end Go.Proofs.YtfignfohcalcfaaGreatDoor
