/- What the statements' scripts tell, plainly. -/
import Derived.Test.YtfignfohcalcfaaGreatDoorLinB
import Derived.Test.YtfignfohcalcfaaGreatDoorRunC
namespace Go.Proofs.YtfignfohcalcfaaGreatDoor
set_option linter.unusedVariables false
set_option linter.unusedSimpArgs false

theorem conF_line (a w : List UInt8) (t : List (List UInt8)) (T : List UInt8) (hs : a.length ≤ 65536) (h10 : ∀ c ∈ a, c ≠ 10) (ha : ∀ c ∈ a, c.toNat < 128) (hw : wdL [] a = w :: t) (h35 : w.headD 0 ≠ 35) (hl : (lineF (tx w :: t.map tx)).data.toList = T) : conF (tx a) = (tx (T ++ [10]), 0) := by
  unfold conF
  rw [if_neg (by rw [tx_size]; omega), conL_one a h10, tell_words a ha w t hw h35, hl]
theorem two_words (w : List UInt8) (n : Int) (hw : Wd w) (hw0 : w ≠ []) : wdL [] (w ++ ([32] ++ Lib.itoa n)) = [w, Lib.itoa n] := by
  rw [wdL_step w [32] (Lib.itoa n) hw hw0 (by intro c hc; simp at hc; subst hc; rfl) (by simp), wdL_last _ (itoa_wd n) (itoa_ne n)]
theorem lineF_one (w : List UInt8) (c : Cmd) (n : Int) (hc : cmdF (tx w) = some c) (hm : c.many = 1) (h0 : -10000000000 < n) (h1 : n < 10000000000) : lineF [tx w, tx (Lib.itoa n)] = c.run [n] := by
  have hne : ¬ (([tx w, tx (Lib.itoa n)] : List ByteArray).headD (tx []) = tx [101, 115, 99, 97, 112, 101] ∧ ([tx w, tx (Lib.itoa n)] : List ByteArray).length = 2) := by
    intro h
    have h2 : tx w = tx [101, 115, 99, 97, 112, 101] := h.1
    rw [h2] at hc
    have h3 : cmdF (tx [101, 115, 99, 97, 112, 101]) = none := by rfl
    rw [h3] at hc
    cases hc
  unfold lineF
  rw [if_neg hne]
  have e1 : cmdF (([tx w, tx (Lib.itoa n)] : List ByteArray).headD (tx [])) = some c := hc
  have e2 : numsF ([tx w, tx (Lib.itoa n)] : List ByteArray).tail = some [n] := numsF_map [n] (by intro x hx; simp at hx; subst hx; exact ⟨h0, h1⟩)
  rw [e1, e2]
  exact if_pos hm.symm
theorem itoa_len (n : Int) (h0 : -9223372036854775808 ≤ n) (h1 : n ≤ 9223372036854775807) : (Lib.itoa n).length ≤ 21 := by
  have := itoaF_size n h0 h1
  unfold itoaF at this
  rwa [tx_size] at this
theorem small_mem {l : List UInt8} {w : List UInt8} {n : Int} {c : UInt8} (h : c ∈ w ++ ([32] ++ Lib.itoa n)) (hw : ∀ c ∈ w, c.toNat < 128 ∧ c ≠ 10) : c.toNat < 128 ∧ c ≠ 10 := by
  rcases List.mem_append.1 h with h | h
  · exact hw c h
  · rcases List.mem_append.1 h with h | h
    · simp at h; subst h; exact ⟨by decide, by decide⟩
    · exact itoa_ascii n c h
/-- "se " or "ue " and a numeral -/
theorem conF_word (w : List UInt8) (c : Cmd) (n : Int) (hc : cmdF (tx w) = some c) (hm : c.many = 1) (hw : Wd w) (hw0 : w ≠ []) (hwa : ∀ c ∈ w, c.toNat < 128 ∧ c ≠ 10) (hwl : w.length ≤ 100) (h35 : w.headD 0 ≠ 35) (h0 : -10000000000 < n) (h1 : n < 10000000000) :
    conF (tx (w ++ ([32] ++ Lib.itoa n))) = (tx ((c.run [n]).data.toList ++ [10]), 0) := by
  refine conF_line _ w [Lib.itoa n] _ ?_ (fun c hc => (small_mem (l := []) hc hwa).2) (fun c hc => (small_mem (l := []) hc hwa).1) (two_words w n hw hw0) h35 ?_
  · have := itoa_len n (by omega) (by omega)
    simp only [List.length_append, List.length_cons, List.length_nil]
    omega
  · simp only [List.map_cons, List.map_nil]
    rw [lineF_one w c n hc hm h0 h1]
theorem wd_ue : Wd [117, 101] := by intro c hc; simp at hc; rcases hc with rfl | rfl <;> rfl
theorem wd_se : Wd [115, 101] := by intro c hc; simp at hc; rcases hc with rfl | rfl <;> rfl
theorem conF_ue (n : Int) (h0 : -10000000000 < n) (h1 : n < 10000000000) : conF (tx ([117, 101, 32] ++ Lib.itoa n)) = (tx ((ueF n).data.toList ++ [10]), 0) :=
  conF_word [117, 101] .ue n (by rfl) rfl wd_ue (by simp) (by intro c hc; simp at hc; rcases hc with rfl | rfl <;> exact ⟨by decide, by decide⟩) (by decide) (by decide) h0 h1
theorem conF_se (n : Int) (h0 : -10000000000 < n) (h1 : n < 10000000000) : conF (tx ([115, 101, 32] ++ Lib.itoa n)) = (tx ((seF n).data.toList ++ [10]), 0) :=
  conF_word [115, 101] .se n (by rfl) rfl wd_se (by simp) (by intro c hc; simp at hc; rcases hc with rfl | rfl <;> exact ⟨by decide, by decide⟩) (by decide) (by decide) h0 h1
/-- numerals with a blank ahead of each -/
def numT (l : List Int) : List UInt8 := l.flatMap fun x => 32 :: Lib.itoa x
theorem numT_words : ∀ (l : List Int) (w : List UInt8), Wd w → w ≠ [] → wdL [] (w ++ numT l) = w :: l.map Lib.itoa
  | [], w, hw, hw0 => by
    simp only [numT, List.flatMap_nil, List.append_nil, List.map_nil]
    exact wdL_last w hw hw0
  | x :: t, w, hw, hw0 => by
    have e : w ++ numT (x :: t) = w ++ ([32] ++ (Lib.itoa x ++ numT t)) := by simp [numT]
    rw [e, wdL_step w [32] _ hw hw0 (by intro c hc; simp at hc; subst hc; rfl) (by simp), numT_words t _ (itoa_wd x) (itoa_ne x), List.map_cons]
theorem numT_mem {l : List Int} {c : UInt8} (h : c ∈ numT l) : c.toNat < 128 ∧ c ≠ 10 := by
  unfold numT at h
  obtain ⟨x, _, h⟩ := List.mem_flatMap.1 h
  rcases List.mem_cons.1 h with rfl | h
  · exact ⟨by decide, by decide⟩
  · exact itoa_ascii x c h
theorem numT_len : ∀ (l : List Int), (∀ x ∈ l, -10000000000 < x ∧ x < 10000000000) → (numT l).length ≤ l.length * 22
  | [], _ => by simp [numT]
  | x :: t, h => by
    have h1 := itoa_len x (by have := h x (by simp); omega) (by have := h x (by simp); omega)
    have h2 := numT_len t (fun y hy => h y (by simp [hy]))
    have e : numT (x :: t) = (32 :: Lib.itoa x) ++ numT t := by simp [numT]
    rw [e, List.length_append, List.length_cons, List.length_cons]
    omega
theorem numT_snoc (l : List Int) (x : Int) : numT (l ++ [x]) = numT l ++ [32] ++ Lib.itoa x := by simp [numT]
def fwdW : List UInt8 := [102, 111, 114, 119, 97, 114, 100]
theorem conF_fwd (l : List Int) (hl : l.length = 16) (h : ∀ x ∈ l, -10000000000 < x ∧ x < 10000000000) : conF (tx (fwdW ++ numT l)) = (tx ((rowF (fwdF l)).data.toList ++ [10]), 0) := by
  have hm : ∀ c ∈ fwdW ++ numT l, c.toNat < 128 ∧ c ≠ 10 := fun c hc => by
    rcases List.mem_append.1 hc with hc | hc
    · have : ∀ c ∈ fwdW, c.toNat < 128 ∧ c ≠ 10 := by decide
      exact this c hc
    · exact numT_mem hc
  refine conF_line _ fwdW (l.map Lib.itoa) _ ?_ (fun c hc => (hm c hc).2) (fun c hc => (hm c hc).1) (numT_words l fwdW (by unfold Wd; decide) (by decide)) (by decide) ?_
  · have := numT_len l h
    rw [List.length_append]
    have e : fwdW.length = 7 := rfl
    omega
  · rw [List.map_map]
    have e1 : cmdF (tx fwdW) = some .forward := by rfl
    have e2 : numsF (l.map (tx ∘ Lib.itoa)) = some l := numsF_map l h
    have hne : ¬ ((tx fwdW :: l.map (tx ∘ Lib.itoa)).headD (tx []) = tx [101, 115, 99, 97, 112, 101] ∧ (tx fwdW :: l.map (tx ∘ Lib.itoa)).length = 2) := by
      intro h2
      have := h2.2
      rw [List.length_cons, List.length_map, hl] at this
      omega
    unfold lineF
    rw [if_neg hne]
    simp only [List.headD_cons, List.tail_cons, e1, e2]
    rw [if_pos (by rw [hl]; rfl)]
    rfl
theorem wdL_end (w b : List UInt8) (hw : Wd w) (hw0 : w ≠ []) (hb : Bl b) (hb0 : b ≠ []) : wdL [] (w ++ b) = [w] := by
  have := wdL_step w b [] hw hw0 hb hb0
  rw [List.append_nil] at this
  rw [this]
  rfl
theorem wdL_bl (b : List UInt8) (hb : Bl b) : wdL [] b = [] := by
  have := wdL_blank b [] hb
  rw [List.append_nil] at this
  rw [this]
  rfl
/-- the script of blanks tells just what the plain one tells -/
theorem conF_blanks (b : List UInt8) (n : Int) (hb : Bl b) (hb0 : b ≠ []) (hbl : b.length ≤ 10) (hba : ∀ c ∈ b, c.toNat < 128 ∧ c ≠ 10) (h0 : -10000000000 < n) (h1 : n < 10000000000) :
    conF (tx ([35, 32, 99, 10, 10] ++ b ++ [117, 101] ++ b ++ Lib.itoa n ++ b ++ [10] ++ b ++ [10])) = (tx ((ueF n).data.toList ++ [10]), 0) := by
  have hi := itoa_len n (by omega) (by omega)
  have e : [35, 32, 99, 10, 10] ++ b ++ [117, 101] ++ b ++ Lib.itoa n ++ b ++ [10] ++ b ++ [10] = ([35, 32, 99] : List UInt8) ++ 10 :: (([] : List UInt8) ++ 10 :: ((b ++ ([117, 101] ++ (b ++ (Lib.itoa n ++ b)))) ++ 10 :: (b ++ 10 :: []))) := by simp
  have hw : wdL [] (b ++ ([117, 101] ++ (b ++ (Lib.itoa n ++ b)))) = [[117, 101], Lib.itoa n] := by
    rw [wdL_blank b _ hb, wdL_step [117, 101] b _ wd_ue (by simp) hb hb0, wdL_end _ b (itoa_wd n) (itoa_ne n) hb hb0]
  have hmem : ∀ c ∈ b ++ ([117, 101] ++ (b ++ (Lib.itoa n ++ b))), c.toNat < 128 ∧ c ≠ 10 := fun c hc => by
    simp only [List.mem_append] at hc
    rcases hc with hc | hc | hc | hc | hc
    · exact hba c hc
    · simp at hc; rcases hc with rfl | rfl <;> exact ⟨by decide, by decide⟩
    · exact hba c hc
    · exact itoa_ascii n c hc
    · exact hba c hc
  have t1 : tellF (tx [35, 32, 99]) = [] := by
    unfold tellF
    rw [words_ascii _ (by rw [data_tx]; decide), data_tx]
    have : wdL [] [35, 32, 99] = [[35], [99]] := by decide
    rw [this]
    rfl
  have t2 : tellF (tx b) = [] := tell_none b (fun c hc => (hba c hc).1) (wdL_bl b hb)
  have t3 : tellF (tx (b ++ ([117, 101] ++ (b ++ (Lib.itoa n ++ b))))) = (ueF n).data.toList ++ [10] := by
    rw [tell_words _ (fun c hc => (hmem c hc).1) _ _ hw (by decide)]
    simp only [List.map_cons, List.map_nil]
    rw [lineF_one [117, 101] .ue n (by rfl) rfl h0 h1]
    rfl
  unfold conF
  rw [if_neg (by
    rw [tx_size]
    simp only [List.length_append, List.length_cons, List.length_nil]
    omega), e, conL_cut, conL_cut, conL_cut, conL_cut, conL_nil, conL_one _ (by decide), t1, conL_one _ (fun c hc => (hmem c hc).2), t3, conL_one b (fun c hc => (hba c hc).2), t2]
  simp
end Go.Proofs.YtfignfohcalcfaaGreatDoor
